/- Texts of this proof, put together. -/
import Derived.Test.YtknmbiebnpojjaaTy
import Derived.Test.YtknmbiebnpojjaaChecked
import Derived.Test.YtknmbiebnpojjaaShelf
namespace Go.Proofs.Ytknmbiebnpojjaa.Sim
open Go
set_option maxRecDepth 100000
set_option linter.unusedSimpArgs false
set_option linter.unusedVariables false
theorem inS (a lo hi : Int) : Fn Try.prog 74 [.sc (.int .i64 a), .sc (.int .i64 lo), .sc (.int .i64 hi)] (.sc (.bool (decide (lo ≤ a ∧ a ≤ hi)))) := by
  refine Fn.run 15 [.tmp 6] Try.func74 rfl rfl rfl rfl (by simp) (flats_cons (.sc _) (flats_cons (.sc _) (flats_cons (.sc _) flats_nil))) (.sc _) ?_
  by_cases h1 : lo ≤ a <;> by_cases h2 : a ≤ hi <;> simp +decide -implicitDefEqProofs only [↓w_seq, ↓w_skip, ↓w_ret, ↓w_exit, ↓w_block, ↓w_cond, ↓w_region, ↓ops_nil, ↓ops_cons, ↓dops_0, ↓dops_p, ↓dops_cons, ↓g_move, ↓g_assign, ↓g_binOp, ↓g_unOp, ↓g_pick, ↓g_len, ↓g_index, ↓g_indexAddr, ↓g_slice, ↓g_convert, ↓g_load, ↓g_store, ↓g_extract, ↓g_nilCheck, ↓g_fieldT, ↓g_fieldAddrT, of_agg, rd_aggc, rd_onec, wr_c, cells_int, cells_str, cells_bool, cells_nil, cells_sl, cells_ptr, cells_agg, one_int, one_str, one_bool, one_nil, one_sl, one_ptr, over_0, over_s, List.all_cons, List.all_nil, Bool.and_true, Bool.and_self, List.getElem?_nil, List.drop_succ_cons, List.drop_nil, ↓g_call, ↓g_guard_t, ↓g_guard_f, ↓g_alloc, ↓g_box, ↓g_buildSlice, ↓g_makeSlice, ↓g_buildV, rdA, wrA, ints_one, List.length_replicate, bools_one, strs_one, rd_bools, rd_strs, wr_bools, wr_strs, at_bools, at_strs, ap_bools, ap_boolsN, ap_strs, ap_strsN, ↓g_append, src_sl, src_nil, src_str, ap_ints, ap_intsN, kill_len, kill_0, kill_s, bnd_none, bnd_int, cut_str, cutS_some, cut_sl, cutL_some, bits_i64, bits_u32, bits_u8, List.getD_cons_zero, List.getD_cons_succ, at_end, at_a, at_b, yielded_tab, dstAt_0, dstAt_s, ybv_some, boolOf_b, ext_0, ext_1, ext_2, ext_3, alK_some, ev_tab, ev_const, upd_eq, upd_ne, par0, par1, par2, par3, par4, par5, of_int, of_str, of_bool, len_str, len_arr, len_sl, idx_str, adr_sl, adr_arr, c_int, c_str, c_bytes, c_text, pick_b, onS_some, onS_ite, onS_not, b_add, b_sub, b_mul, b_and, b_or, b_xor, b_eql, b_neq, b_lss, b_leq, b_gtr, b_geq, b_shl, b_shr, b_quo, b_rem, t_add, t_eql, t_neq, v_eql, v_neq, b_andNot, u_not, onB_true, onB_false, onB_dec, onB_not, ret_cell, ret_ct, retP_0, retP_1, retP_2, retP_3, res_tmp, res_cell, ret_one, ret_two, ret_three, ret_none, List.set_set, if_true, if_false, ite_true, ite_false, List.map_cons, List.map_nil, Option.map_some, Option.map_none, List.toList_toArray, rd_def, rd_ints, wr_def, wr_ints, at_def, at_ints, bytes_ints, bytesA_ints, ints_set, nums_len, List.length_nil, List.length_cons, List.length_set, List.length_append, List.nil_append, List.cons_append, List.getElem?_cons_zero, List.getElem?_cons_succ, List.set_cons_zero, List.set_cons_succ, List.drop_zero, List.take_succ_cons, List.take_zero, List.take_length, Option.bind_some, true_and, and_true, Nat.zero_add, Nat.mul_one, Int.toNat_zero, Int.reduceToNat, Int.reduceAdd, Int.reduceSub, Int.reduceMul, Int.reduceNeg, Nat.reduceAdd, Nat.reduceSub, Nat.reduceMul, Nat.reducePow, Nat.min_eq_left, Int.reducePow, Nat.le_refl, Int.cast_ofNat_Int, Nat.reduceLT, Nat.reduceLeDiff, Nat.reduceEqDiff, Int.reduceLE, Int.reduceLT, Int.reduceEq, ne_eq, not_false_eq_true, not_true_eq_false, reduceCtorEq, decide_true, decide_false, and_self, and_false, false_and, Bool.not_true, Bool.not_false, h1, h2] <;> simp [h1, h2]
theorem inI (a lo hi : Int) : Fn Try.prog 73 [.sc (.int .i64 a), .sc (.int .i64 lo), .sc (.int .i64 hi)] (.sc (.bool (decide (lo ≤ a ∧ a ≤ hi)))) := by
  refine Fn.run 15 [.tmp 6] Try.func73 rfl rfl rfl rfl (by simp) (flats_cons (.sc _) (flats_cons (.sc _) (flats_cons (.sc _) flats_nil))) (.sc _) ?_
  by_cases h1 : lo ≤ a <;> by_cases h2 : a ≤ hi <;> simp +decide -implicitDefEqProofs only [↓w_seq, ↓w_skip, ↓w_ret, ↓w_exit, ↓w_block, ↓w_cond, ↓w_region, ↓ops_nil, ↓ops_cons, ↓dops_0, ↓dops_p, ↓dops_cons, ↓g_move, ↓g_assign, ↓g_binOp, ↓g_unOp, ↓g_pick, ↓g_len, ↓g_index, ↓g_indexAddr, ↓g_slice, ↓g_convert, ↓g_load, ↓g_store, ↓g_extract, ↓g_nilCheck, ↓g_fieldT, ↓g_fieldAddrT, of_agg, rd_aggc, rd_onec, wr_c, cells_int, cells_str, cells_bool, cells_nil, cells_sl, cells_ptr, cells_agg, one_int, one_str, one_bool, one_nil, one_sl, one_ptr, over_0, over_s, List.all_cons, List.all_nil, Bool.and_true, Bool.and_self, List.getElem?_nil, List.drop_succ_cons, List.drop_nil, ↓g_call, ↓g_guard_t, ↓g_guard_f, ↓g_alloc, ↓g_box, ↓g_buildSlice, ↓g_makeSlice, ↓g_buildV, rdA, wrA, ints_one, List.length_replicate, bools_one, strs_one, rd_bools, rd_strs, wr_bools, wr_strs, at_bools, at_strs, ap_bools, ap_boolsN, ap_strs, ap_strsN, ↓g_append, src_sl, src_nil, src_str, ap_ints, ap_intsN, kill_len, kill_0, kill_s, bnd_none, bnd_int, cut_str, cutS_some, cut_sl, cutL_some, bits_i64, bits_u32, bits_u8, List.getD_cons_zero, List.getD_cons_succ, at_end, at_a, at_b, yielded_tab, dstAt_0, dstAt_s, ybv_some, boolOf_b, ext_0, ext_1, ext_2, ext_3, alK_some, ev_tab, ev_const, upd_eq, upd_ne, par0, par1, par2, par3, par4, par5, of_int, of_str, of_bool, len_str, len_arr, len_sl, idx_str, adr_sl, adr_arr, c_int, c_str, c_bytes, c_text, pick_b, onS_some, onS_ite, onS_not, b_add, b_sub, b_mul, b_and, b_or, b_xor, b_eql, b_neq, b_lss, b_leq, b_gtr, b_geq, b_shl, b_shr, b_quo, b_rem, t_add, t_eql, t_neq, v_eql, v_neq, b_andNot, u_not, onB_true, onB_false, onB_dec, onB_not, ret_cell, ret_ct, retP_0, retP_1, retP_2, retP_3, res_tmp, res_cell, ret_one, ret_two, ret_three, ret_none, List.set_set, if_true, if_false, ite_true, ite_false, List.map_cons, List.map_nil, Option.map_some, Option.map_none, List.toList_toArray, rd_def, rd_ints, wr_def, wr_ints, at_def, at_ints, bytes_ints, bytesA_ints, ints_set, nums_len, List.length_nil, List.length_cons, List.length_set, List.length_append, List.nil_append, List.cons_append, List.getElem?_cons_zero, List.getElem?_cons_succ, List.set_cons_zero, List.set_cons_succ, List.drop_zero, List.take_succ_cons, List.take_zero, List.take_length, Option.bind_some, true_and, and_true, Nat.zero_add, Nat.mul_one, Int.toNat_zero, Int.reduceToNat, Int.reduceAdd, Int.reduceSub, Int.reduceMul, Int.reduceNeg, Nat.reduceAdd, Nat.reduceSub, Nat.reduceMul, Nat.reducePow, Nat.min_eq_left, Int.reducePow, Nat.le_refl, Int.cast_ofNat_Int, Nat.reduceLT, Nat.reduceLeDiff, Nat.reduceEqDiff, Int.reduceLE, Int.reduceLT, Int.reduceEq, ne_eq, not_false_eq_true, not_true_eq_false, reduceCtorEq, decide_true, decide_false, and_self, and_false, false_and, Bool.not_true, Bool.not_false, h1, h2] <;> simp [h1, h2]
end Go.Proofs.Ytknmbiebnpojjaa.Sim
namespace Go.Proofs.Ytknmbiebnpojjaa.Sim
open Go
set_option maxRecDepth 100000
set_option linter.unusedSimpArgs false
set_option linter.unusedVariables false
abbrev Wo := BitVec 32
/-- A word as a number. -/
def wi (x : Wo) : Int := (x.toNat : Int)
theorem wi_0 (x : Wo) : 0 ≤ wi x := by unfold wi; omega
theorem wi_lt (x : Wo) : wi x < 4294967296 := by
  have := x.isLt
  unfold wi
  omega
theorem wi_inj {x y : Wo} (h : wi x = wi y) : x = y := by
  unfold wi at h
  exact BitVec.eq_of_toNat_eq (by omega)
theorem wi_of {n : Nat} (h : n < 4294967296) : wi (BitVec.ofNat 32 n) = n := by
  unfold wi
  rw [BitVec.toNat_ofNat, Nat.mod_eq_of_lt h]
theorem ofInt_nat (k : Nat) (n : Nat) (h : n < 2 ^ k) : (BitVec.ofInt k (n : Int)).toNat = n := by
  rw [BitVec.ofInt_natCast, BitVec.toNat_ofNat, Nat.mod_eq_of_lt h]
theorem wi_big (x : Wo) : x.toNat < 2 ^ IntKind.i64.bits := Nat.lt_of_lt_of_le x.isLt (by decide)
theorem wi_small (x : Wo) : x.toNat < 2 ^ IntKind.u32.bits := x.isLt
theorem and_i (x y : Wo) : bits .and .i64 (wi x) (wi y) = wi (x &&& y) := by
  simp only [bits, wi, BitVec.toNat_and, ofInt_nat _ _ (wi_big x), ofInt_nat _ _ (wi_big y)]
  have := (x &&& y).isLt
  rw [BitVec.toNat_and] at this
  rw [w64 (by omega) (by omega)]
theorem or_i (x y : Wo) : bits .or .i64 (wi x) (wi y) = wi (x ||| y) := by
  simp only [bits, wi, BitVec.toNat_or, ofInt_nat _ _ (wi_big x), ofInt_nat _ _ (wi_big y)]
  have := (x ||| y).isLt
  rw [BitVec.toNat_or] at this
  rw [w64 (by omega) (by omega)]
theorem xor_i (x y : Wo) : bits .xor .i64 (wi x) (wi y) = wi (x ^^^ y) := by
  simp only [bits, wi, BitVec.toNat_xor, ofInt_nat _ _ (wi_big x), ofInt_nat _ _ (wi_big y)]
  have := (x ^^^ y).isLt
  rw [BitVec.toNat_xor] at this
  rw [w64 (by omega) (by omega)]
theorem and_u (x y : Wo) : bits .and .u32 (wi x) (wi y) = wi (x &&& y) := by
  simp only [bits, wi, BitVec.toNat_and, ofInt_nat _ _ (wi_small x), ofInt_nat _ _ (wi_small y)]
  have := (x &&& y).isLt
  rw [BitVec.toNat_and] at this
  rw [wu32 (by omega) (by omega)]
theorem or_u (x y : Wo) : bits .or .u32 (wi x) (wi y) = wi (x ||| y) := by
  simp only [bits, wi, BitVec.toNat_or, ofInt_nat _ _ (wi_small x), ofInt_nat _ _ (wi_small y)]
  have := (x ||| y).isLt
  rw [BitVec.toNat_or] at this
  rw [wu32 (by omega) (by omega)]
theorem xor_u (x y : Wo) : bits .xor .u32 (wi x) (wi y) = wi (x ^^^ y) := by
  simp only [bits, wi, BitVec.toNat_xor, ofInt_nat _ _ (wi_small x), ofInt_nat _ _ (wi_small y)]
  have := (x ^^^ y).isLt
  rw [BitVec.toNat_xor] at this
  rw [wu32 (by omega) (by omega)]
theorem ones : (4294967295 : Int) = wi (BitVec.allOnes 32) := by decide
theorem not_l (x : Wo) : bits .xor .i64 4294967295 (wi x) = wi (~~~x) := by rw [ones, xor_i, BitVec.allOnes_xor]
theorem not_r (x : Wo) : bits .xor .u32 (wi x) 4294967295 = wi (~~~x) := by rw [ones, xor_u, BitVec.xor_allOnes]
theorem add_u (x y : Wo) : IntKind.u32.wrap (wi x + wi y) = wi (x + y) := by
  rw [IntKind.wrap_u32]
  simp only [wi, BitVec.toNat_add]
  omega
theorem i64_maskA (x : Int) : bits .and .i64 x 4294967295 = x % 4294967296 := by
  have h1 : (BitVec.ofInt IntKind.i64.bits 4294967295).toNat = 2 ^ 32 - 1 := by decide
  have h2 : (BitVec.ofInt IntKind.i64.bits x).toNat = (x % 18446744073709551616).toNat := by
    rw [BitVec.toNat_ofInt]; rfl
  simp only [bits, BitVec.toNat_and, h1, h2, Nat.and_two_pow_sub_one_eq_mod]
  rw [w64 (by omega) (by omega)]
  omega
theorem mask_add (x y : Wo) : (wi x + wi y) % 4294967296 = wi (x + y) := by
  simp only [wi, BitVec.toNat_add]
  omega
theorem mask_one (x : Wo) : wi x % 4294967296 = wi x := by
  have := wi_lt x
  have := wi_0 x
  omega
theorem shr_w (x : Wo) (k : Nat) : wi x / 2 ^ k = wi (x >>> k) := by
  simp only [wi, BitVec.toNat_ushiftRight, Nat.shiftRight_eq_div_pow]
  rfl
theorem shl_w (x : Wo) (k : Nat) : wi x * 2 ^ k % 4294967296 = wi (x <<< k) := by
  simp only [wi, BitVec.toNat_shiftLeft, Nat.shiftLeft_eq]
  rfl
theorem pow_le_32 {k : Nat} (h : k ≤ 31) : (2 : Int) ^ k ≤ 2147483648 := by
  have : (2 : Int) ^ k ≤ 2 ^ 31 := by
    have h2 : (2 : Nat) ^ k ≤ 2 ^ 31 := Nat.pow_le_pow_right (by decide) h
    exact_mod_cast h2
  simpa using this
theorem shl_b (x : Wo) {k : Nat} (h : k ≤ 31) : 0 ≤ wi x * 2 ^ k ∧ wi x * 2 ^ k < 9223372036854775808 := by
  have hp := pow_le_32 h
  have hp0 : (0 : Int) < 2 ^ k := Int.pow_pos (by decide)
  have h0 := wi_0 x
  have h1 := wi_lt x
  refine ⟨Int.mul_nonneg h0 (by omega), ?_⟩
  have : wi x * 2 ^ k ≤ 4294967295 * 2147483648 := Int.mul_le_mul (by omega) hp (by omega) (by omega)
  omega
/-- Turned right by k bits. -/
def rot (x : Wo) (k : Nat) : Wo := x >>> k ||| x <<< (32 - k)
theorem or_mask (a : Wo) (n : Int) (h0 : 0 ≤ n) (h1 : n < 9223372036854775808) (b : Wo) (hb : n % 4294967296 = wi b) : bits .and .i64 (bits .or .i64 (wi a) n) 4294967295 = wi (a ||| b) := by
  obtain ⟨m, rfl⟩ := Int.eq_ofNat_of_zero_le h0
  have h2 : m < 2 ^ 63 := by omega
  have h3 : a.toNat < 2 ^ 63 := Nat.lt_of_lt_of_le a.isLt (by decide)
  have h4 := Nat.or_lt_two_pow h3 h2
  have e : bits .or .i64 (wi a) (m : Int) = ((a.toNat ||| m : Nat) : Int) := (bits_nat .i64 63 (by decide) wraps_i64 a.toNat m h3 h2).2
  rw [e, i64_maskA]
  have e2 : (((a.toNat ||| m : Nat) : Int) % 4294967296) = (((a.toNat ||| m) % 4294967296 : Nat) : Int) := by omega
  rw [e2]
  have e3 : m % 4294967296 = b.toNat := by
    unfold wi at hb
    omega
  unfold wi
  rw [BitVec.toNat_or, ← e3]
  have e4 : (4294967296 : Nat) = 2 ^ 32 := rfl
  rw [e4, Nat.or_mod_two_pow, Nat.mod_eq_of_lt a.isLt]
/-! lists of words -/
def wis (l : List Wo) : List Int := l.map wi
theorem wis_len (l : List Wo) : (wis l).length = l.length := List.length_map ..
theorem wis_get (l : List Wo) (i : Nat) : (wis l).getD i 0 = wi (l.getD i 0) := by
  simp only [wis, List.getD_eq_getElem?_getD, List.getElem?_map]
  cases l[i]? <;> rfl
theorem wis_set (l : List Wo) (i : Nat) (v : Wo) : (wis l).set i (wi v) = wis (l.set i v) := (List.map_set ..).symm
theorem wis_rep (n : Nat) : List.replicate n (0 : Int) = wis (List.replicate n 0) := by
  simp only [wis, List.map_replicate]
  rfl
theorem wis_app (a b : List Wo) : wis a ++ wis b = wis (a ++ b) := (List.map_append ..).symm
theorem wis_take (a : List Wo) (n : Nat) : (wis a).take n = wis (a.take n) := (List.map_take ..).symm
/-- The words of a list of numbers that are words. -/
theorem wis_of (l : List Int) (h : ∀ x, x ∈ l → 0 ≤ x ∧ x < 4294967296) : ∃ m : List Wo, l = wis m := by
  refine ⟨l.map fun x => BitVec.ofNat 32 x.toNat, ?_⟩
  simp only [wis, List.map_map]
  rw [List.map_congr_left (g := id), List.map_id]
  intro x hx
  obtain ⟨h0, h1⟩ := h x hx
  simp only [Function.comp, id]
  rw [wi_of (by omega)]
  omega
end Go.Proofs.Ytknmbiebnpojjaa.Sim
namespace Go.Proofs.Ytknmbiebnpojjaa.Sim
open Go
set_option maxRecDepth 100000
set_option linter.unusedSimpArgs false
set_option linter.unusedVariables false
theorem rotI (x : Wo) (k : Nat) (hk : 1 ≤ k) (hk2 : k ≤ 31) : Fn Try.prog 64 [.sc (.int .i64 (wi x)), .sc (.int .i64 k)] (.sc (.int .i64 (wi (rot x k)))) := by
  refine Fn.run 14 [.tmp 4] Try.func64 rfl rfl rfl rfl (by simp) (flats_cons (.sc _) (flats_cons (.sc _) flats_nil)) (.sc _) ?_
  have k1 : ¬ (k : Int) < 0 := by omega
  have e1 : min k 64 = k := by omega
  have e2 : IntKind.i64.wrap (32 - (k : Int)) = ((32 - k : Nat) : Int) := by rw [w64 (by omega) (by omega)]; omega
  have k2 : ¬ ((32 - k : Nat) : Int) < 0 := by omega
  have e3 : min (32 - k) 64 = 32 - k := by omega
  have hb := shl_b x (k := 32 - k) (by omega)
  have e4 : IntKind.i64.wrap (wi x * 2 ^ (32 - k)) = wi x * 2 ^ (32 - k) := w64 (by omega) (by omega)
  simp -implicitDefEqProofs only [↓w_seq, ↓w_region, ↓ops_cons, ↓g_assign, ↓ops_nil, ev_const, of_int]
  refine drawn [] follows (by kernel_rfl) (by kernel_rfl) ?_
  simp -implicitDefEqProofs only [↓dops_cons, ↓g_move, ↓g_binOp, Nat.reduceLT, ev_tab, ne_eq, reduceCtorEq, not_false_eq_true, upd_ne, par0, Nat.reduceEqDiff, par1, upd_eq, b_shr, k1, Int.toNat_natCast, bits_i64, e1, shr_w, if_false, ev_const, of_int, b_sub, e2, ↓g_assign, ↓dops_0, ↓w_ret, ret_one, onS_some, b_shl, k2, e3, e4, b_or, b_and]
  congr 2
  exact or_mask _ _ hb.1 hb.2 _ (shl_w x _)
theorem rotU (x : Wo) (k : Nat) (hk : 1 ≤ k) (hk2 : k ≤ 31) : Fn Try.prog 108 [.sc (.int .u32 (wi x)), .sc (.int .u64 k)] (.sc (.int .u32 (wi (rot x k)))) := by
  refine Fn.run 13 [.tmp 4] Try.func108 rfl rfl rfl rfl (by simp) (flats_cons (.sc _) (flats_cons (.sc _) flats_nil)) (.sc _) ?_
  have k1 : ¬ (k : Int) < 0 := by omega
  have e1 : min k 32 = k := by omega
  have e2 : IntKind.u64.wrap (32 - (k : Int)) = ((32 - k : Nat) : Int) := by rw [wu64 (by omega) (by omega)]; omega
  have k2 : ¬ ((32 - k : Nat) : Int) < 0 := by omega
  have e3 : min (32 - k) 32 = 32 - k := by omega
  have e4 : IntKind.u32.wrap (wi x * 2 ^ (32 - k)) = wi (x <<< (32 - k)) := by rw [IntKind.wrap_u32]; exact shl_w x _
  simp -implicitDefEqProofs only [↓w_seq, ↓w_region, ↓ops_cons, ↓g_assign, ↓ops_nil, ev_const, of_int, ↓g_move, ↓g_binOp, Nat.reduceLT, ev_tab, ne_eq, reduceCtorEq, not_false_eq_true, upd_ne, par0, Nat.reduceEqDiff, par1, upd_eq, b_shr, k1, Int.toNat_natCast, bits_u32, e1, shr_w, if_false, b_sub, e2, ↓w_ret, ret_one, onS_some, b_shl, k2, e3, e4, b_or, or_u]
  rfl
end Go.Proofs.Ytknmbiebnpojjaa.Sim
namespace Go.Proofs.Ytknmbiebnpojjaa.Sim
open Go
set_option maxRecDepth 100000
set_option linter.unusedSimpArgs false
set_option linter.unusedVariables false
def sl0 (x : Wo) : Wo := rot x 7 ^^^ rot x 18 ^^^ x >>> 3
def sl1 (x : Wo) : Wo := rot x 17 ^^^ rot x 19 ^^^ x >>> 10
def su1 (e : Wo) : Wo := rot e 6 ^^^ rot e 11 ^^^ rot e 25
def su0 (a : Wo) : Wo := rot a 2 ^^^ rot a 13 ^^^ rot a 22
def chs (e f g : Wo) : Wo := (e &&& f) ^^^ (~~~e &&& g)
def maj (a b c : Wo) : Wo := (a &&& b) ^^^ (a &&& c) ^^^ (b &&& c)
/-- A byte as a word. -/
def bw (z : ByteArray) (j : Nat) : Wo := BitVec.ofNat 32 (byteAt z j).toNat
theorem byte_range (z : ByteArray) (j : Nat) : 0 ≤ byteAt z j ∧ byteAt z j < 256 := by
  unfold byteAt
  have := ((z.data[j]?).getD 0).toNat_lt
  omega
theorem wi_bw (z : ByteArray) (j : Nat) : wi (bw z j) = byteAt z j := by
  have := byte_range z j
  unfold bw
  rw [wi_of (by omega)]
  omega
/-- Bytes, the highest first. -/
def acc (z : ByteArray) (i : Nat) : Nat → Wo
  | 0 => 0
  | k + 1 => acc z i k <<< 8 ||| bw z (4 * i + k)
theorem bw_lt (z : ByteArray) (j : Nat) : (bw z j).toNat < 256 := by
  have := byte_range z j
  have h := wi_bw z j
  unfold wi at h
  omega
theorem acc_lt (z : ByteArray) (i : Nat) : ∀ k, k ≤ 4 → (acc z i k).toNat < 2 ^ (8 * k)
  | 0, _ => by simp [acc]
  | k + 1, h => by
    have ih := acc_lt z i k (by omega)
    have hb := bw_lt z (4 * i + k)
    rw [acc, BitVec.toNat_or, BitVec.toNat_shiftLeft, Nat.shiftLeft_eq]
    refine Nat.or_lt_two_pow (Nat.lt_of_le_of_lt (Nat.mod_le _ _) ?_) (Nat.lt_of_lt_of_le hb ?_)
    · rw [Nat.mul_add, Nat.pow_add]
      exact Nat.mul_lt_mul_of_lt_of_le ih (Nat.le_refl _) (by decide)
    · exact Nat.pow_le_pow_right (n := 2) (by decide) (show 8 ≤ 8 * (k + 1) by omega)
theorem acc_shl (z : ByteArray) (i k : Nat) (h : k ≤ 3) : wi (acc z i k) * (256 : Int) = wi (acc z i k <<< 8) := by
  have h1 := acc_lt z i k (by omega)
  have h2 : 2 ^ (8 * k) ≤ 2 ^ 24 := Nat.pow_le_pow_right (by decide) (by omega)
  rw [← shl_w]
  unfold wi
  omega
/-- The word in a block's place. -/
def wd (z : ByteArray) (i : Nat) : Wo := acc z i 4
theorem wd_or (z : ByteArray) (i : Nat) : wd z i = bw z (4 * i) <<< 24 ||| bw z (4 * i + 1) <<< 16 ||| bw z (4 * i + 2) <<< 8 ||| bw z (4 * i + 3) := by
  simp only [wd, acc, Nat.add_zero, BitVec.shiftLeft_or_distrib, ← BitVec.shiftLeft_add]
  simp
def pre (z : ByteArray) (i : Nat) : List Wo := (List.range i).map (wd z) ++ List.replicate (64 - i) 0
theorem pre_len (z : ByteArray) (i : Nat) (h : i ≤ 64) : (pre z i).length = 64 := by
  simp [pre]
  omega
theorem pre_get (z : ByteArray) (i : Nat) (h : i < 64) : (pre z i).getD i 0 = 0 := by
  simp only [pre, List.getD_eq_getElem?_getD]
  rw [List.getElem?_append_right (by simp)]
  simp only [List.length_map, List.length_range, Nat.sub_self, List.getElem?_replicate]
  rw [if_pos (by omega)]
  rfl
theorem pre_set (z : ByteArray) (i : Nat) (h : i < 64) : (pre z i).set i (wd z i) = pre z (i + 1) := by
  simp only [pre]
  rw [List.set_append_right _ _ (by simp), List.range_succ, List.map_append, List.append_assoc]
  congr 1
  simp only [List.length_map, List.length_range, Nat.sub_self]
  obtain ⟨m, hm⟩ : ∃ m, 64 - i = m + 1 := ⟨63 - i, by omega⟩
  rw [hm, show 64 - (i + 1) = m by omega, List.replicate_succ]
  rfl
theorem set_same (l : List Wo) (i : Nat) (v : Wo) (h : l.getD i 0 = v) (hi : i < l.length) : l.set i v = l := by
  rw [← h, List.getD_eq_getElem?_getD, List.getElem?_eq_getElem hi]
  simp
def wstep (w : List Wo) (i : Nat) : List Wo := w.set i (w.getD (i - 16) 0 + sl0 (w.getD (i - 15) 0) + w.getD (i - 7) 0 + sl1 (w.getD (i - 2) 0))
def schN (w : List Wo) : Nat → List Wo
  | 0 => w
  | n + 1 => wstep (schN w n) (16 + n)
theorem schN_len (w : List Wo) : ∀ n, (schN w n).length = w.length
  | 0 => rfl
  | n + 1 => by rw [schN, wstep, List.length_set, schN_len w n]
/-- The 64 words of a block. -/
def schd (z : ByteArray) : List Wo := schN (pre z 16) 48
theorem schd_len (z : ByteArray) : (schd z).length = 64 := by rw [schd, schN_len, pre_len z 16 (by decide)]
def keys : List Wo := [0x428a2f98, 0x71374491, 0xb5c0fbcf, 0xe9b5dba5, 0x3956c25b, 0x59f111f1, 0x923f82a4, 0xab1c5ed5, 0xd807aa98, 0x12835b01, 0x243185be, 0x550c7dc3, 0x72be5d74, 0x80deb1fe, 0x9bdc06a7, 0xc19bf174, 0xe49b69c1, 0xefbe4786, 0x0fc19dc6, 0x240ca1cc, 0x2de92c6f, 0x4a7484aa, 0x5cb0a9dc, 0x76f988da, 0x983e5152, 0xa831c66d, 0xb00327c8, 0xbf597fc7, 0xc6e00bf3, 0xd5a79147, 0x06ca6351, 0x14292967, 0x27b70a85, 0x2e1b2138, 0x4d2c6dfc, 0x53380d13, 0x650a7354, 0x766a0abb, 0x81c2c92e, 0x92722c85, 0xa2bfe8a1, 0xa81a664b, 0xc24b8b70, 0xc76c51a3, 0xd192e819, 0xd6990624, 0xf40e3585, 0x106aa070, 0x19a4c116, 0x1e376c08, 0x2748774c, 0x34b0bcb5, 0x391c0cb3, 0x4ed8aa4a, 0x5b9cca4f, 0x682e6ff3, 0x748f82ee, 0x78a5636f, 0x84c87814, 0x8cc70208, 0x90befffa, 0xa4506ceb, 0xbef9a3f7, 0xc67178f2]
theorem keys_len : keys.length = 64 := rfl
theorem sh3 (x : Wo) : wi x / (8 : Int) = wi (x >>> 3) := shr_w x 3
theorem sh10 (x : Wo) : wi x / (1024 : Int) = wi (x >>> 10) := shr_w x 10
theorem sum4 (a b c d : Wo) : IntKind.i64.wrap (IntKind.i64.wrap (IntKind.i64.wrap (wi a + wi b) + wi c) + wi d) % 4294967296 = wi (a + b + c + d) := by
  have ha := wi_0 a
  have hb := wi_0 b
  have hc := wi_0 c
  have hd := wi_0 d
  have ja := wi_lt a
  have jb := wi_lt b
  have jc := wi_lt c
  have jd := wi_lt d
  rw [w64 (x := wi a + wi b) (by omega) (by omega), w64 (x := wi a + wi b + wi c) (by omega) (by omega), w64 (by omega) (by omega)]
  simp only [wi, BitVec.toNat_add] at *
  omega
structure S8 where
  a : Wo
  b : Wo
  c : Wo
  d : Wo
  e : Wo
  f : Wo
  g : Wo
  h : Wo
def S8.l (s : S8) : List Wo := [s.a, s.b, s.c, s.d, s.e, s.f, s.g, s.h]
def S8.add (s t : S8) : S8 := ⟨s.a + t.a, s.b + t.b, s.c + t.c, s.d + t.d, s.e + t.e, s.f + t.f, s.g + t.g, s.h + t.h⟩
def one (s : S8) (k w : Wo) : Wo := s.h + su1 s.e + chs s.e s.f s.g + k + w
def two (s : S8) : Wo := su0 s.a + maj s.a s.b s.c
def rnd (s : S8) (k w : Wo) : S8 := ⟨one s k w + two s, s.a, s.b, s.c, s.d + one s k w, s.e, s.f, s.g⟩
def rnds (w : List Wo) (s : S8) : Nat → S8
  | 0 => s
  | n + 1 => rnd (rnds w s n) (keys.getD n 0) (w.getD n 0)
/-- A block. -/
def blk (s : S8) (z : ByteArray) : S8 := s.add (rnds (schd z) s 64)
def start : S8 := ⟨0x6a09e667, 0xbb67ae85, 0x3c6ef372, 0xa54ff53a, 0x510e527f, 0x9b05688c, 0x1f83d9ab, 0x5be0cd19⟩
end Go.Proofs.Ytknmbiebnpojjaa.Sim
namespace Go.Proofs.Ytknmbiebnpojjaa.Sim
open Go
set_option maxRecDepth 100000
set_option linter.unusedSimpArgs false
set_option linter.unusedVariables false
/-- How many zeros. -/
def zeros (n : Nat) : Nat := (120 - (n + 1) % 64) % 64
def padL (z : ByteArray) : List Int := nums z ++ 128 :: (List.replicate (zeros z.size) 0 ++ hiL (8 * (z.size : Int)) 8)
def padT (z : ByteArray) : ByteArray := strOfNums (padL z)
theorem padL_len (z : ByteArray) : (padL z).length = z.size + (1 + (zeros z.size + 8)) := by
  simp only [padL, List.length_append, nums_len, List.length_replicate, hiL_len, List.length_cons]
  omega
theorem padT_size (z : ByteArray) : (padT z).size = z.size + (1 + (zeros z.size + 8)) := by rw [padT, son_size, padL_len]
theorem padT_64 (z : ByteArray) : ∃ m, (padT z).size = 64 * m ∧ 1 ≤ m := by
  rw [padT_size]
  unfold zeros
  refine ⟨(z.size + (1 + ((120 - (z.size + 1) % 64) % 64 + 8))) / 64, ?_, ?_⟩ <;> omega
theorem padT_le (z : ByteArray) : (padT z).size ≤ z.size + 128 := by
  rw [padT_size]
  unfold zeros
  omega
def blks (p : ByteArray) : Nat → S8
  | 0 => start
  | n + 1 => blk (blks p n) (p.extract (64 * n) (64 * n + 64))
def wby (l : List Wo) : List Int := l.flatMap fun x => hiL (wi x) 4
def digL (z : ByteArray) : List Int := wby (blks (padT z) ((padT z).size / 64)).l
def dig (z : ByteArray) : ByteArray := strOfNums (digL z)
theorem hiL4 (x : Int) : hiL x 4 = [x / 256 / 256 / 256 % 256, x / 256 / 256 % 256, x / 256 % 256, x % 256] := rfl
theorem wby_len : ∀ l : List Wo, (wby l).length = 4 * l.length
  | [] => rfl
  | x :: l => by
    have ih := wby_len l
    simp only [wby, List.flatMap_cons, List.length_append, hiL_len, List.length_cons] at ih ⊢
    omega
theorem dig_size (z : ByteArray) : (dig z).size = 32 := by rw [dig, son_size, digL, wby_len]; rfl
theorem wby_take (l : List Wo) (i : Nat) (h : i < l.length) : wby (l.take i) ++ hiL (wi (l.getD i 0)) 4 = wby (l.take (i + 1)) := by
  rw [List.take_add_one, List.getD_eq_getElem?_getD, List.getElem?_eq_getElem h]
  simp only [wby, Option.toList_some, List.flatMap_append, List.flatMap_cons, List.flatMap_nil, List.append_nil, Option.getD_some]
end Go.Proofs.Ytknmbiebnpojjaa.Sim
namespace Go.Proofs.Ytknmbiebnpojjaa.Sim
open Go
set_option maxRecDepth 100000
set_option linter.unusedSimpArgs false
set_option linter.unusedVariables false
theorem highFirst (x : Int) (w : Nat) (h0 : 0 ≤ x) (h1 : x < 9223372036854775808) (hw : w ≤ 1000000) : Fn Try.prog 60 [.sc (.int .i64 x), .sc (.int .i64 w)] (.sc (.string (strOfNums (hiL x w)))) := by
  refine Fn.run 25 [.tmp 4] Try.func60 rfl rfl rfl rfl (by simp) (flats_cons (.sc _) (flats_cons (.sc _) flats_nil)) (.sc _) ?_
  have k1 : (0 : Int) ≤ w := by omega
  have k2 : (w : Int) ≤ 1000000000000 := by omega
  simp +decide -implicitDefEqProofs only [↓w_seq, ↓w_skip, ↓w_ret, ↓w_exit, ↓w_block, ↓w_cond, ↓w_region, ↓ops_nil, ↓ops_cons, ↓dops_0, ↓dops_p, ↓dops_cons, ↓g_move, ↓g_assign, ↓g_binOp, ↓g_unOp, ↓g_pick, ↓g_len, ↓g_index, ↓g_indexAddr, ↓g_slice, ↓g_convert, ↓g_load, ↓g_store, ↓g_extract, ↓g_nilCheck, ↓g_fieldT, ↓g_fieldAddrT, of_agg, rd_aggc, rd_onec, wr_c, cells_int, cells_str, cells_bool, cells_nil, cells_sl, cells_ptr, cells_agg, one_int, one_str, one_bool, one_nil, one_sl, one_ptr, over_0, over_s, List.all_cons, List.all_nil, Bool.and_true, Bool.and_self, List.getElem?_nil, List.drop_succ_cons, List.drop_nil, ↓g_call, ↓g_guard_t, ↓g_guard_f, ↓g_alloc, ↓g_box, ↓g_buildSlice, ↓g_makeSlice, ↓g_buildV, rdA, wrA, ints_one, List.length_replicate, bools_one, strs_one, rd_bools, rd_strs, wr_bools, wr_strs, at_bools, at_strs, ap_bools, ap_boolsN, ap_strs, ap_strsN, ↓g_append, src_sl, src_nil, src_str, ap_ints, ap_intsN, kill_len, kill_0, kill_s, bnd_none, bnd_int, cut_str, cutS_some, cut_sl, cutL_some, bits_i64, bits_u32, bits_u8, List.getD_cons_zero, List.getD_cons_succ, at_end, at_a, at_b, yielded_tab, dstAt_0, dstAt_s, ybv_some, boolOf_b, ext_0, ext_1, ext_2, ext_3, alK_some, ev_tab, ev_const, upd_eq, upd_ne, par0, par1, par2, par3, par4, par5, of_int, of_str, of_bool, len_str, len_arr, len_sl, idx_str, adr_sl, adr_arr, c_int, c_str, c_bytes, c_text, pick_b, onS_some, onS_ite, onS_not, b_add, b_sub, b_mul, b_and, b_or, b_xor, b_eql, b_neq, b_lss, b_leq, b_gtr, b_geq, b_shl, b_shr, b_quo, b_rem, t_add, t_eql, t_neq, v_eql, v_neq, b_andNot, u_not, onB_true, onB_false, onB_dec, onB_not, ret_cell, ret_ct, retP_0, retP_1, retP_2, retP_3, res_tmp, res_cell, ret_one, ret_two, ret_three, ret_none, List.set_set, if_true, if_false, ite_true, ite_false, List.map_cons, List.map_nil, Option.map_some, Option.map_none, List.toList_toArray, rd_def, rd_ints, wr_def, wr_ints, at_def, at_ints, bytes_ints, bytesA_ints, ints_set, nums_len, List.length_nil, List.length_cons, List.length_set, List.length_append, List.nil_append, List.cons_append, List.getElem?_cons_zero, List.getElem?_cons_succ, List.set_cons_zero, List.set_cons_succ, List.drop_zero, List.take_succ_cons, List.take_zero, List.take_length, Option.bind_some, true_and, and_true, Nat.zero_add, Nat.mul_one, Int.toNat_zero, Int.reduceToNat, Int.reduceAdd, Int.reduceSub, Int.reduceMul, Int.reduceNeg, Nat.reduceAdd, Nat.reduceSub, Nat.reduceMul, Nat.reducePow, Nat.min_eq_left, Int.reducePow, Nat.le_refl, Int.cast_ofNat_Int, Nat.reduceLT, Nat.reduceLeDiff, Nat.reduceEqDiff, Int.reduceLE, Int.reduceLT, Int.reduceEq, ne_eq, not_false_eq_true, not_true_eq_false, reduceCtorEq, decide_true, decide_false, and_self, and_false, false_and, Bool.not_true, Bool.not_false, Try.underlying0, Try.underlying1, Try.underlying2, Try.underlying3, Try.underlying4, Try.underlying5, Try.underlying6, Try.underlying7, Try.underlying8, Try.underlying9, Try.underlying10, Try.underlying11, Try.underlying12, Try.underlying13, Try.underlying14, Try.underlying15, Try.underlying16, Try.underlying17, Try.underlying18, Try.underlying19, Try.underlying20, Try.underlying21, Try.underlying22, Try.underlying23, Try.underlying24, Try.underlying25, Try.underlying26, Try.underlying27, Try.underlying28, Try.underlying29, Try.underlying30, Try.underlying31, Try.underlying32, Try.underlying33, Try.underlying34, Try.underlying35, Try.underlying36, Try.underlying37, Try.underlying38, Try.underlying39, Try.underlying40, Try.underlying41, Try.underlying42, Try.underlying43, Try.underlying44, Try.underlying45, Try.underlying46, Try.underlying47, Try.underlying48, Try.underlying49, Try.underlying50, Try.underlying51, Try.underlying52, Try.underlying53, Try.underlying54, Try.underlying55, Try.underlying56, Try.underlying57, Try.underlying58, Try.underlying59, Try.underlying60, Try.underlying61, Try.underlying62, Try.underlying63, Try.underlying64, Try.underlying65, Try.underlying66, Try.underlying67, Try.underlying68, Try.underlying69, Try.underlying70, Try.underlying71, Try.underlying72, Try.underlying73, Try.underlying74, Try.underlying75, Try.underlying76, Try.underlying77, Try.underlying78, Try.underlying79, Try.underlying80, Try.underlying81, Try.underlying82, Try.underlying83, Try.underlying84, Try.underlying85, Try.underlying86, Try.underlying87, Try.underlying88, Try.underlying89, Try.underlying90, Try.underlying91, Try.underlying92, Try.underlying93, Try.underlying94, Try.underlying95, Try.underlying96, Try.underlying97, Try.underlying98, Try.underlying99, Try.underlying100, Try.underlying101, Try.underlying102, Try.underlying103, Try.underlying104, Try.underlying105, Try.underlying106, Try.underlying107, Try.underlying108, Try.underlying109, Try.underlying110, Try.underlying111, Try.underlying112, Try.underlying113, Try.underlying114, Try.underlying115, Try.underlying116, Try.underlying117, Try.underlying118, Try.underlying119, Try.underlying120, Try.underlying121, Try.underlying122, Try.underlying123, Try.underlying124, Try.underlying125, Try.underlying126, Try.underlying127, Try.underlying128, Try.underlying129, Try.underlying130, Try.underlying131, Try.underlying132, Try.underlying133, Try.underlying134, Try.underlying135, Try.underlying136, Try.underlying137, Try.underlying138, Try.underlying139, Try.underlying140, Try.underlying141, Try.underlying142, Try.underlying143, Try.underlying144, Try.underlying145, Try.underlying146, Try.underlying147, tyOk0, agg0, cells0, tyOk1, agg1, cells1, tyOk2, agg2, cells2, zero2, info2, mk2, bs2_0, bs2_1, bs2_2, bs2_3, bs2_4, bs2_5, bs2_6, bs2_7, bs2_8, bs2_10, bs2_11, bs2_12, bs2_13, tyOk3, agg3, cells3, zero3, apS26, apN26, info3, mk3, bs3_0, bs3_1, bs3_2, bs3_3, bs3_4, bs3_5, bs3_6, bs3_7, bs3_8, bs3_10, bs3_11, bs3_12, bs3_13, tyOk4, agg4, cells4, zero4, info4, mk4, bs4_0, bs4_1, bs4_2, apS52, apN52, tyOk5, agg5, cells5, isU5, zero5, apS22, apN22, apStr22, info5, mk5, bs5_0, bs5_1, bs5_2, bs5_3, bs5_4, bs5_5, bs5_6, bs5_7, bs5_8, bs5_10, bs5_11, bs5_12, bs5_13, tyOk6, agg6, cells6, isU6, zero6, info6, mk6, bs6_0, bs6_1, bs6_2, bs6_3, bs6_4, bs6_5, bs6_6, bs6_7, bs6_8, bs6_10, bs6_11, bs6_12, bs6_13, tyOk7, agg7, cells7, zero7, fadr7_0, fld7_0, fadr7_1, fld7_1, fadr7_2, fld7_2, fadr7_3, fld7_3, bz7, bds7, tyOk8, agg8, cells8, zero8, fadr8_0, fld8_0, fadr8_1, fld8_1, fadr8_2, fld8_2, fadr8_3, fld8_3, bz8, bds8, tyOk9, agg9, cells9, zero9, info9, bs9_0, bs9_1, bs9_2, bs9_3, bs9_4, bs9_5, bs9_6, bs9_8, bs9_9, bs9_10, apS125, apN125, tyOk10, agg10, cells10, zero10, info10, bs10_0, bs10_1, bs10_2, bs10_3, bs10_4, bs10_5, bs10_6, bs10_8, bs10_9, bs10_10, tyOk11, agg11, cells11, zero11, info11, bs11_0, bs11_1, bs11_2, bs11_3, bs11_4, bs11_5, bs11_6, bs11_8, bs11_9, bs11_10, tyOk12, agg12, cells12, zero12, info12, mk12, bs12_0, bs12_1, bs12_2, bs12_3, bs12_4, bs12_5, bs12_6, bs12_7, bs12_8, bs12_10, bs12_11, bs12_12, bs12_13, tyOk13, agg13, cells13, zero13, fadr13_0, fld13_0, fadr13_1, fld13_1, bz13, bds13, tyOk14, agg14, cells14, zero14, fadr14_0, fld14_0, fadr14_1, fld14_1, bz14, bds14, tyOk15, agg15, cells15, zero15, tyOk16, agg16, cells16, zero16, tyOk17, agg17, cells17, zero17, tyOk18, agg18, cells18, zero18, fadr18_0, fld18_0, bz18, bds18, tyOk19, agg19, cells19, zero19, fadr19_0, fld19_0, bz19, bds19, tyOk20, agg20, cells20, tyOk21, agg21, cells21, zero21, info21, mk21, bs21_0, bs21_1, bs21_2, bs21_3, bs21_4, bs21_5, bs21_6, bs21_7, bs21_8, bs21_10, bs21_11, bs21_12, bs21_13, tyOk22, agg22, cells22, zero22, tyOk23, agg23, cells23, tyOk24, agg24, cells24, tyOk25, agg25, cells25, tyOk26, agg26, cells26, zero26, tyOk27, agg27, cells27, tyOk28, agg28, cells28, tyOk29, agg29, cells29, zero29, info29, mk29, bs29_0, bs29_1, bs29_2, bs29_3, bs29_4, bs29_5, bs29_6, bs29_7, bs29_8, bs29_10, bs29_11, bs29_12, bs29_13, tyOk30, agg30, cells30, tyOk31, agg31, cells31, tyOk32, agg32, cells32, tyOk33, agg33, cells33, tyOk34, agg34, cells34, tyOk35, agg35, cells35, tyOk36, agg36, cells36, tyOk37, agg37, cells37, tyOk38, agg38, cells38, tyOk39, agg39, cells39, tyOk40, agg40, cells40, tyOk41, agg41, cells41, tyOk42, agg42, cells42, tyOk43, agg43, cells43, tyOk44, agg44, cells44, tyOk45, agg45, cells45, tyOk46, agg46, cells46, tyOk47, agg47, cells47, tyOk48, agg48, cells48, tyOk49, agg49, cells49, zero49, tyOk50, agg50, cells50, tyOk51, agg51, cells51, tyOk52, agg52, cells52, zero52, tyOk53, agg53, cells53, zero53, fadr53_0, fld53_0, fadr53_1, fld53_1, fadr53_2, fld53_2, fadr53_3, fld53_3, bz53, bds53, tyOk54, agg54, cells54, zero54, fadr54_0, fld54_0, fadr54_1, fld54_1, fadr54_2, fld54_2, fadr54_3, fld54_3, bz54, bds54, tyOk55, agg55, cells55, tyOk56, agg56, cells56, tyOk57, agg57, cells57, zero57, fadr57_0, fld57_0, fadr57_1, fld57_1, fadr57_2, fld57_2, fadr57_3, fld57_3, bz57, bds57, tyOk58, agg58, cells58, zero58, info58, apS49, apN49, bs58_1, bs58_0, fadr58_0, fld58_0, fadr58_1, fld58_1, fadr58_2, fld58_2, fadr58_3, fld58_3, bz58, bds58, tyOk59, agg59, cells59, tyOk60, agg60, cells60, tyOk61, agg61, cells61, tyOk62, agg62, cells62, tyOk63, agg63, cells63, tyOk64, agg64, cells64, tyOk65, agg65, cells65, tyOk66, agg66, cells66, tyOk67, agg67, cells67, tyOk68, agg68, cells68, tyOk69, agg69, cells69, tyOk70, agg70, cells70, tyOk71, agg71, cells71, tyOk72, agg72, cells72, tyOk73, agg73, cells73, tyOk74, agg74, cells74, zero74, tyOk75, agg75, cells75, tyOk76, agg76, cells76, tyOk77, agg77, cells77, tyOk78, agg78, cells78, zero78, ix78, bz78, tyOk79, agg79, cells79, tyOk80, agg80, cells80, tyOk81, agg81, cells81, tyOk82, agg82, cells82, tyOk83, agg83, cells83, tyOk84, agg84, cells84, tyOk85, agg85, cells85, zero85, info85, mk85, bs85_0, bs85_1, bs85_2, bs85_3, bs85_4, bs85_5, bs85_6, bs85_7, bs85_8, bs85_10, bs85_11, bs85_12, bs85_13, tyOk86, agg86, cells86, zero86, ix86, bz86, bd86, tyOk87, agg87, cells87, tyOk88, agg88, cells88, zero88, ix88, bz88, tyOk89, agg89, cells89, tyOk90, agg90, cells90, tyOk91, agg91, cells91, tyOk92, agg92, cells92, tyOk93, agg93, cells93, tyOk94, agg94, cells94, tyOk95, agg95, cells95, tyOk96, agg96, cells96, tyOk97, agg97, cells97, tyOk98, agg98, cells98, tyOk99, agg99, cells99, tyOk100, agg100, cells100, tyOk101, agg101, cells101, tyOk102, agg102, cells102, tyOk103, agg103, cells103, tyOk104, agg104, cells104, tyOk105, agg105, cells105, tyOk106, agg106, cells106, tyOk107, agg107, cells107, tyOk108, agg108, cells108, tyOk109, agg109, cells109, zero109, fadr109_0, fld109_0, fadr109_1, fld109_1, fadr109_2, fld109_2, bz109, bds109, tyOk110, agg110, cells110, zero110, fadr110_0, fld110_0, fadr110_1, fld110_1, fadr110_2, fld110_2, bz110, bds110, tyOk111, agg111, cells111, tyOk112, agg112, cells112, tyOk113, agg113, cells113, zero113, tyOk114, agg114, cells114, zero114, fadr114_0, fld114_0, fadr114_1, fld114_1, bz114, bds114, tyOk115, agg115, cells115, zero115, fadr115_0, fld115_0, fadr115_1, fld115_1, bz115, bds115, tyOk116, agg116, cells116, tyOk117, agg117, cells117, tyOk118, agg118, cells118, tyOk119, agg119, cells119, tyOk120, agg120, cells120, tyOk121, agg121, cells121, tyOk122, agg122, cells122, tyOk123, agg123, cells123, tyOk124, agg124, cells124, tyOk125, agg125, cells125, zero125, tyOk126, agg126, cells126, tyOk127, agg127, cells127, tyOk128, agg128, cells128, tyOk129, agg129, cells129, zero129, info129, mk129, bs129_0, bs129_1, bs129_2, bs129_3, bs129_4, bs129_5, bs129_6, bs129_7, bs129_8, bs129_10, bs129_11, bs129_12, bs129_13, tyOk130, agg130, cells130, tyOk131, agg131, cells131, tyOk132, agg132, cells132, zero132, tyOk133, agg133, cells133, zero133, tyOk134, agg134, cells134, tyOk135, agg135, cells135, tyOk136, agg136, cells136, zero136, fadr136_0, fld136_0, fadr136_1, fld136_1, fadr136_2, fld136_2, fadr136_3, fld136_3, bz136, bds136, tyOk137, agg137, cells137, zero137, fadr137_0, fld137_0, fadr137_1, fld137_1, fadr137_2, fld137_2, fadr137_3, fld137_3, bz137, bds137, tyOk138, agg138, cells138, zero138, tyOk139, agg139, cells139, zero139, tyOk140, agg140, cells140, zero140, tyOk141, agg141, cells141, isU141, zero141, info141, mk141, bs141_0, bs141_1, bs141_2, bs141_3, bs141_4, bs141_5, bs141_6, bs141_7, bs141_8, bs141_10, bs141_11, bs141_12, bs141_13, tyOk142, agg142, cells142, isU142, zero142, info142, mk142, bs142_0, bs142_1, bs142_2, bs142_3, bs142_4, bs142_5, bs142_6, bs142_7, bs142_8, bs142_10, bs142_11, bs142_12, bs142_13, tyOk143, agg143, cells143, tyOk144, agg144, cells144, zero144, info144, mk144, bs144_0, bs144_1, bs144_2, bs144_3, bs144_4, bs144_5, bs144_6, bs144_7, bs144_8, bs144_10, bs144_11, bs144_12, bs144_13, tyOk145, agg145, cells145, zero145, info145, mk145, bs145_0, bs145_1, bs145_2, bs145_3, bs145_4, bs145_5, bs145_6, bs145_7, bs145_8, bs145_10, bs145_11, bs145_12, bs145_13, tyOk146, agg146, cells146, fadr146_0, fld146_0, fadr146_1, fld146_1, fadr146_2, fld146_2, fadr146_3, fld146_3, fadr146_4, fld146_4, fadr146_5, fld146_5, fadr146_6, fld146_6, fadr146_7, fld146_7, fadr146_8, fld146_8, fadr146_9, fld146_9, fadr146_10, fld146_10, tyOk147, agg147, cells147, fadr147_0, fld147_0, fadr147_1, fld147_1, fadr147_2, fld147_2, fadr147_3, fld147_3, fadr147_4, fld147_4, fadr147_5, fld147_5, fadr147_6, fld147_6, fadr147_7, fld147_7, fadr147_8, fld147_8, fadr147_9, fld147_9, fadr147_10, fld147_10, k1, k2, ints_one, Int.toNat_natCast]
  refine w_loop (ι := Nat) (fun m s => ∃ (T : Nat → AV) (D : List Int) (xc : Int), s = ⟨tab 25 T, [⟨ints .u8 (List.replicate m 0 ++ D), true, true⟩]⟩ ∧ m ≤ w ∧ T 5 = .sl 0 0 w 1 ∧ T 6 = .sc (.int .i64 ((m : Int) - 1)) ∧ T 0 = .sc (.int .i64 xc) ∧ 0 ≤ xc ∧ xc < 9223372036854775808 ∧ hiL x w = hiL xc m ++ D ∧ m + D.length = w) (fun m => m) ?_ (i := w) ?_
  · rintro m s ⟨T, D, xc, rfl, a1, a2, a3, a4, a5, a6, a7, a8⟩
    cases m with
    | zero =>
      have e : D.length = w := by omega
      simp +decide -implicitDefEqProofs only [↓w_seq, ↓w_skip, ↓w_ret, ↓w_exit, ↓w_block, ↓w_cond, ↓w_region, ↓ops_nil, ↓ops_cons, ↓dops_0, ↓dops_p, ↓dops_cons, ↓g_move, ↓g_assign, ↓g_binOp, ↓g_unOp, ↓g_pick, ↓g_len, ↓g_index, ↓g_indexAddr, ↓g_slice, ↓g_convert, ↓g_load, ↓g_store, ↓g_extract, ↓g_nilCheck, ↓g_fieldT, ↓g_fieldAddrT, of_agg, rd_aggc, rd_onec, wr_c, cells_int, cells_str, cells_bool, cells_nil, cells_sl, cells_ptr, cells_agg, one_int, one_str, one_bool, one_nil, one_sl, one_ptr, over_0, over_s, List.all_cons, List.all_nil, Bool.and_true, Bool.and_self, List.getElem?_nil, List.drop_succ_cons, List.drop_nil, ↓g_call, ↓g_guard_t, ↓g_guard_f, ↓g_alloc, ↓g_box, ↓g_buildSlice, ↓g_makeSlice, ↓g_buildV, rdA, wrA, ints_one, List.length_replicate, bools_one, strs_one, rd_bools, rd_strs, wr_bools, wr_strs, at_bools, at_strs, ap_bools, ap_boolsN, ap_strs, ap_strsN, ↓g_append, src_sl, src_nil, src_str, ap_ints, ap_intsN, kill_len, kill_0, kill_s, bnd_none, bnd_int, cut_str, cutS_some, cut_sl, cutL_some, bits_i64, bits_u32, bits_u8, List.getD_cons_zero, List.getD_cons_succ, at_end, at_a, at_b, yielded_tab, dstAt_0, dstAt_s, ybv_some, boolOf_b, ext_0, ext_1, ext_2, ext_3, alK_some, ev_tab, ev_const, upd_eq, upd_ne, par0, par1, par2, par3, par4, par5, of_int, of_str, of_bool, len_str, len_arr, len_sl, idx_str, adr_sl, adr_arr, c_int, c_str, c_bytes, c_text, pick_b, onS_some, onS_ite, onS_not, b_add, b_sub, b_mul, b_and, b_or, b_xor, b_eql, b_neq, b_lss, b_leq, b_gtr, b_geq, b_shl, b_shr, b_quo, b_rem, t_add, t_eql, t_neq, v_eql, v_neq, b_andNot, u_not, onB_true, onB_false, onB_dec, onB_not, ret_cell, ret_ct, retP_0, retP_1, retP_2, retP_3, res_tmp, res_cell, ret_one, ret_two, ret_three, ret_none, List.set_set, if_true, if_false, ite_true, ite_false, List.map_cons, List.map_nil, Option.map_some, Option.map_none, List.toList_toArray, rd_def, rd_ints, wr_def, wr_ints, at_def, at_ints, bytes_ints, bytesA_ints, ints_set, nums_len, List.length_nil, List.length_cons, List.length_set, List.length_append, List.nil_append, List.cons_append, List.getElem?_cons_zero, List.getElem?_cons_succ, List.set_cons_zero, List.set_cons_succ, List.drop_zero, List.take_succ_cons, List.take_zero, List.take_length, Option.bind_some, true_and, and_true, Nat.zero_add, Nat.mul_one, Int.toNat_zero, Int.reduceToNat, Int.reduceAdd, Int.reduceSub, Int.reduceMul, Int.reduceNeg, Nat.reduceAdd, Nat.reduceSub, Nat.reduceMul, Nat.reducePow, Nat.min_eq_left, Int.reducePow, Nat.le_refl, Int.cast_ofNat_Int, Nat.reduceLT, Nat.reduceLeDiff, Nat.reduceEqDiff, Int.reduceLE, Int.reduceLT, Int.reduceEq, ne_eq, not_false_eq_true, not_true_eq_false, reduceCtorEq, decide_true, decide_false, and_self, and_false, false_and, Bool.not_true, Bool.not_false, Try.underlying0, Try.underlying1, Try.underlying2, Try.underlying3, Try.underlying4, Try.underlying5, Try.underlying6, Try.underlying7, Try.underlying8, Try.underlying9, Try.underlying10, Try.underlying11, Try.underlying12, Try.underlying13, Try.underlying14, Try.underlying15, Try.underlying16, Try.underlying17, Try.underlying18, Try.underlying19, Try.underlying20, Try.underlying21, Try.underlying22, Try.underlying23, Try.underlying24, Try.underlying25, Try.underlying26, Try.underlying27, Try.underlying28, Try.underlying29, Try.underlying30, Try.underlying31, Try.underlying32, Try.underlying33, Try.underlying34, Try.underlying35, Try.underlying36, Try.underlying37, Try.underlying38, Try.underlying39, Try.underlying40, Try.underlying41, Try.underlying42, Try.underlying43, Try.underlying44, Try.underlying45, Try.underlying46, Try.underlying47, Try.underlying48, Try.underlying49, Try.underlying50, Try.underlying51, Try.underlying52, Try.underlying53, Try.underlying54, Try.underlying55, Try.underlying56, Try.underlying57, Try.underlying58, Try.underlying59, Try.underlying60, Try.underlying61, Try.underlying62, Try.underlying63, Try.underlying64, Try.underlying65, Try.underlying66, Try.underlying67, Try.underlying68, Try.underlying69, Try.underlying70, Try.underlying71, Try.underlying72, Try.underlying73, Try.underlying74, Try.underlying75, Try.underlying76, Try.underlying77, Try.underlying78, Try.underlying79, Try.underlying80, Try.underlying81, Try.underlying82, Try.underlying83, Try.underlying84, Try.underlying85, Try.underlying86, Try.underlying87, Try.underlying88, Try.underlying89, Try.underlying90, Try.underlying91, Try.underlying92, Try.underlying93, Try.underlying94, Try.underlying95, Try.underlying96, Try.underlying97, Try.underlying98, Try.underlying99, Try.underlying100, Try.underlying101, Try.underlying102, Try.underlying103, Try.underlying104, Try.underlying105, Try.underlying106, Try.underlying107, Try.underlying108, Try.underlying109, Try.underlying110, Try.underlying111, Try.underlying112, Try.underlying113, Try.underlying114, Try.underlying115, Try.underlying116, Try.underlying117, Try.underlying118, Try.underlying119, Try.underlying120, Try.underlying121, Try.underlying122, Try.underlying123, Try.underlying124, Try.underlying125, Try.underlying126, Try.underlying127, Try.underlying128, Try.underlying129, Try.underlying130, Try.underlying131, Try.underlying132, Try.underlying133, Try.underlying134, Try.underlying135, Try.underlying136, Try.underlying137, Try.underlying138, Try.underlying139, Try.underlying140, Try.underlying141, Try.underlying142, Try.underlying143, Try.underlying144, Try.underlying145, Try.underlying146, Try.underlying147, tyOk0, agg0, cells0, tyOk1, agg1, cells1, tyOk2, agg2, cells2, zero2, info2, mk2, bs2_0, bs2_1, bs2_2, bs2_3, bs2_4, bs2_5, bs2_6, bs2_7, bs2_8, bs2_10, bs2_11, bs2_12, bs2_13, tyOk3, agg3, cells3, zero3, apS26, apN26, info3, mk3, bs3_0, bs3_1, bs3_2, bs3_3, bs3_4, bs3_5, bs3_6, bs3_7, bs3_8, bs3_10, bs3_11, bs3_12, bs3_13, tyOk4, agg4, cells4, zero4, info4, mk4, bs4_0, bs4_1, bs4_2, apS52, apN52, tyOk5, agg5, cells5, isU5, zero5, apS22, apN22, apStr22, info5, mk5, bs5_0, bs5_1, bs5_2, bs5_3, bs5_4, bs5_5, bs5_6, bs5_7, bs5_8, bs5_10, bs5_11, bs5_12, bs5_13, tyOk6, agg6, cells6, isU6, zero6, info6, mk6, bs6_0, bs6_1, bs6_2, bs6_3, bs6_4, bs6_5, bs6_6, bs6_7, bs6_8, bs6_10, bs6_11, bs6_12, bs6_13, tyOk7, agg7, cells7, zero7, fadr7_0, fld7_0, fadr7_1, fld7_1, fadr7_2, fld7_2, fadr7_3, fld7_3, bz7, bds7, tyOk8, agg8, cells8, zero8, fadr8_0, fld8_0, fadr8_1, fld8_1, fadr8_2, fld8_2, fadr8_3, fld8_3, bz8, bds8, tyOk9, agg9, cells9, zero9, info9, bs9_0, bs9_1, bs9_2, bs9_3, bs9_4, bs9_5, bs9_6, bs9_8, bs9_9, bs9_10, apS125, apN125, tyOk10, agg10, cells10, zero10, info10, bs10_0, bs10_1, bs10_2, bs10_3, bs10_4, bs10_5, bs10_6, bs10_8, bs10_9, bs10_10, tyOk11, agg11, cells11, zero11, info11, bs11_0, bs11_1, bs11_2, bs11_3, bs11_4, bs11_5, bs11_6, bs11_8, bs11_9, bs11_10, tyOk12, agg12, cells12, zero12, info12, mk12, bs12_0, bs12_1, bs12_2, bs12_3, bs12_4, bs12_5, bs12_6, bs12_7, bs12_8, bs12_10, bs12_11, bs12_12, bs12_13, tyOk13, agg13, cells13, zero13, fadr13_0, fld13_0, fadr13_1, fld13_1, bz13, bds13, tyOk14, agg14, cells14, zero14, fadr14_0, fld14_0, fadr14_1, fld14_1, bz14, bds14, tyOk15, agg15, cells15, zero15, tyOk16, agg16, cells16, zero16, tyOk17, agg17, cells17, zero17, tyOk18, agg18, cells18, zero18, fadr18_0, fld18_0, bz18, bds18, tyOk19, agg19, cells19, zero19, fadr19_0, fld19_0, bz19, bds19, tyOk20, agg20, cells20, tyOk21, agg21, cells21, zero21, info21, mk21, bs21_0, bs21_1, bs21_2, bs21_3, bs21_4, bs21_5, bs21_6, bs21_7, bs21_8, bs21_10, bs21_11, bs21_12, bs21_13, tyOk22, agg22, cells22, zero22, tyOk23, agg23, cells23, tyOk24, agg24, cells24, tyOk25, agg25, cells25, tyOk26, agg26, cells26, zero26, tyOk27, agg27, cells27, tyOk28, agg28, cells28, tyOk29, agg29, cells29, zero29, info29, mk29, bs29_0, bs29_1, bs29_2, bs29_3, bs29_4, bs29_5, bs29_6, bs29_7, bs29_8, bs29_10, bs29_11, bs29_12, bs29_13, tyOk30, agg30, cells30, tyOk31, agg31, cells31, tyOk32, agg32, cells32, tyOk33, agg33, cells33, tyOk34, agg34, cells34, tyOk35, agg35, cells35, tyOk36, agg36, cells36, tyOk37, agg37, cells37, tyOk38, agg38, cells38, tyOk39, agg39, cells39, tyOk40, agg40, cells40, tyOk41, agg41, cells41, tyOk42, agg42, cells42, tyOk43, agg43, cells43, tyOk44, agg44, cells44, tyOk45, agg45, cells45, tyOk46, agg46, cells46, tyOk47, agg47, cells47, tyOk48, agg48, cells48, tyOk49, agg49, cells49, zero49, tyOk50, agg50, cells50, tyOk51, agg51, cells51, tyOk52, agg52, cells52, zero52, tyOk53, agg53, cells53, zero53, fadr53_0, fld53_0, fadr53_1, fld53_1, fadr53_2, fld53_2, fadr53_3, fld53_3, bz53, bds53, tyOk54, agg54, cells54, zero54, fadr54_0, fld54_0, fadr54_1, fld54_1, fadr54_2, fld54_2, fadr54_3, fld54_3, bz54, bds54, tyOk55, agg55, cells55, tyOk56, agg56, cells56, tyOk57, agg57, cells57, zero57, fadr57_0, fld57_0, fadr57_1, fld57_1, fadr57_2, fld57_2, fadr57_3, fld57_3, bz57, bds57, tyOk58, agg58, cells58, zero58, info58, apS49, apN49, bs58_1, bs58_0, fadr58_0, fld58_0, fadr58_1, fld58_1, fadr58_2, fld58_2, fadr58_3, fld58_3, bz58, bds58, tyOk59, agg59, cells59, tyOk60, agg60, cells60, tyOk61, agg61, cells61, tyOk62, agg62, cells62, tyOk63, agg63, cells63, tyOk64, agg64, cells64, tyOk65, agg65, cells65, tyOk66, agg66, cells66, tyOk67, agg67, cells67, tyOk68, agg68, cells68, tyOk69, agg69, cells69, tyOk70, agg70, cells70, tyOk71, agg71, cells71, tyOk72, agg72, cells72, tyOk73, agg73, cells73, tyOk74, agg74, cells74, zero74, tyOk75, agg75, cells75, tyOk76, agg76, cells76, tyOk77, agg77, cells77, tyOk78, agg78, cells78, zero78, ix78, bz78, tyOk79, agg79, cells79, tyOk80, agg80, cells80, tyOk81, agg81, cells81, tyOk82, agg82, cells82, tyOk83, agg83, cells83, tyOk84, agg84, cells84, tyOk85, agg85, cells85, zero85, info85, mk85, bs85_0, bs85_1, bs85_2, bs85_3, bs85_4, bs85_5, bs85_6, bs85_7, bs85_8, bs85_10, bs85_11, bs85_12, bs85_13, tyOk86, agg86, cells86, zero86, ix86, bz86, bd86, tyOk87, agg87, cells87, tyOk88, agg88, cells88, zero88, ix88, bz88, tyOk89, agg89, cells89, tyOk90, agg90, cells90, tyOk91, agg91, cells91, tyOk92, agg92, cells92, tyOk93, agg93, cells93, tyOk94, agg94, cells94, tyOk95, agg95, cells95, tyOk96, agg96, cells96, tyOk97, agg97, cells97, tyOk98, agg98, cells98, tyOk99, agg99, cells99, tyOk100, agg100, cells100, tyOk101, agg101, cells101, tyOk102, agg102, cells102, tyOk103, agg103, cells103, tyOk104, agg104, cells104, tyOk105, agg105, cells105, tyOk106, agg106, cells106, tyOk107, agg107, cells107, tyOk108, agg108, cells108, tyOk109, agg109, cells109, zero109, fadr109_0, fld109_0, fadr109_1, fld109_1, fadr109_2, fld109_2, bz109, bds109, tyOk110, agg110, cells110, zero110, fadr110_0, fld110_0, fadr110_1, fld110_1, fadr110_2, fld110_2, bz110, bds110, tyOk111, agg111, cells111, tyOk112, agg112, cells112, tyOk113, agg113, cells113, zero113, tyOk114, agg114, cells114, zero114, fadr114_0, fld114_0, fadr114_1, fld114_1, bz114, bds114, tyOk115, agg115, cells115, zero115, fadr115_0, fld115_0, fadr115_1, fld115_1, bz115, bds115, tyOk116, agg116, cells116, tyOk117, agg117, cells117, tyOk118, agg118, cells118, tyOk119, agg119, cells119, tyOk120, agg120, cells120, tyOk121, agg121, cells121, tyOk122, agg122, cells122, tyOk123, agg123, cells123, tyOk124, agg124, cells124, tyOk125, agg125, cells125, zero125, tyOk126, agg126, cells126, tyOk127, agg127, cells127, tyOk128, agg128, cells128, tyOk129, agg129, cells129, zero129, info129, mk129, bs129_0, bs129_1, bs129_2, bs129_3, bs129_4, bs129_5, bs129_6, bs129_7, bs129_8, bs129_10, bs129_11, bs129_12, bs129_13, tyOk130, agg130, cells130, tyOk131, agg131, cells131, tyOk132, agg132, cells132, zero132, tyOk133, agg133, cells133, zero133, tyOk134, agg134, cells134, tyOk135, agg135, cells135, tyOk136, agg136, cells136, zero136, fadr136_0, fld136_0, fadr136_1, fld136_1, fadr136_2, fld136_2, fadr136_3, fld136_3, bz136, bds136, tyOk137, agg137, cells137, zero137, fadr137_0, fld137_0, fadr137_1, fld137_1, fadr137_2, fld137_2, fadr137_3, fld137_3, bz137, bds137, tyOk138, agg138, cells138, zero138, tyOk139, agg139, cells139, zero139, tyOk140, agg140, cells140, zero140, tyOk141, agg141, cells141, isU141, zero141, info141, mk141, bs141_0, bs141_1, bs141_2, bs141_3, bs141_4, bs141_5, bs141_6, bs141_7, bs141_8, bs141_10, bs141_11, bs141_12, bs141_13, tyOk142, agg142, cells142, isU142, zero142, info142, mk142, bs142_0, bs142_1, bs142_2, bs142_3, bs142_4, bs142_5, bs142_6, bs142_7, bs142_8, bs142_10, bs142_11, bs142_12, bs142_13, tyOk143, agg143, cells143, tyOk144, agg144, cells144, zero144, info144, mk144, bs144_0, bs144_1, bs144_2, bs144_3, bs144_4, bs144_5, bs144_6, bs144_7, bs144_8, bs144_10, bs144_11, bs144_12, bs144_13, tyOk145, agg145, cells145, zero145, info145, mk145, bs145_0, bs145_1, bs145_2, bs145_3, bs145_4, bs145_5, bs145_6, bs145_7, bs145_8, bs145_10, bs145_11, bs145_12, bs145_13, tyOk146, agg146, cells146, fadr146_0, fld146_0, fadr146_1, fld146_1, fadr146_2, fld146_2, fadr146_3, fld146_3, fadr146_4, fld146_4, fadr146_5, fld146_5, fadr146_6, fld146_6, fadr146_7, fld146_7, fadr146_8, fld146_8, fadr146_9, fld146_9, fadr146_10, fld146_10, tyOk147, agg147, cells147, fadr147_0, fld147_0, fadr147_1, fld147_1, fadr147_2, fld147_2, fadr147_3, fld147_3, fadr147_4, fld147_4, fadr147_5, fld147_5, fadr147_6, fld147_6, fadr147_7, fld147_7, fadr147_8, fld147_8, fadr147_9, fld147_9, fadr147_10, fld147_10, a2, a3, a4, List.replicate_zero, e]
      rw [List.take_of_length_le (by omega), a7]
      rfl
    | succ m =>
      have e1 : ((m + 1 : Nat) : Int) - 1 = m := by omega
      have e2 : IntKind.i64.wrap ((m : Int) - 1) = m - 1 := w64 (by omega) (by omega)
      have e3 : bits .and .i64 xc 255 = xc % 256 := i64_and255 a5 a6
      have e4 : IntKind.u8.wrap (xc % 256) = xc % 256 := u8_id (by omega) (by omega)
      have e5 : xc / 2 ^ min 8 IntKind.i64.bits = xc / 256 := rfl
      have k3 : (0 : Int) ≤ m := by omega
      have k4 : (m : Int) < w := by omega
      have k5 : m < m + 1 + D.length := by omega
      simp +decide -implicitDefEqProofs only [↓w_seq, ↓w_skip, ↓w_ret, ↓w_exit, ↓w_block, ↓w_cond, ↓w_region, ↓ops_nil, ↓ops_cons, ↓dops_0, ↓dops_p, ↓dops_cons, ↓g_move, ↓g_assign, ↓g_binOp, ↓g_unOp, ↓g_pick, ↓g_len, ↓g_index, ↓g_indexAddr, ↓g_slice, ↓g_convert, ↓g_load, ↓g_store, ↓g_extract, ↓g_nilCheck, ↓g_fieldT, ↓g_fieldAddrT, of_agg, rd_aggc, rd_onec, wr_c, cells_int, cells_str, cells_bool, cells_nil, cells_sl, cells_ptr, cells_agg, one_int, one_str, one_bool, one_nil, one_sl, one_ptr, over_0, over_s, List.all_cons, List.all_nil, Bool.and_true, Bool.and_self, List.getElem?_nil, List.drop_succ_cons, List.drop_nil, ↓g_call, ↓g_guard_t, ↓g_guard_f, ↓g_alloc, ↓g_box, ↓g_buildSlice, ↓g_makeSlice, ↓g_buildV, rdA, wrA, ints_one, List.length_replicate, bools_one, strs_one, rd_bools, rd_strs, wr_bools, wr_strs, at_bools, at_strs, ap_bools, ap_boolsN, ap_strs, ap_strsN, ↓g_append, src_sl, src_nil, src_str, ap_ints, ap_intsN, kill_len, kill_0, kill_s, bnd_none, bnd_int, cut_str, cutS_some, cut_sl, cutL_some, bits_i64, bits_u32, bits_u8, List.getD_cons_zero, List.getD_cons_succ, at_end, at_a, at_b, yielded_tab, dstAt_0, dstAt_s, ybv_some, boolOf_b, ext_0, ext_1, ext_2, ext_3, alK_some, ev_tab, ev_const, upd_eq, upd_ne, par0, par1, par2, par3, par4, par5, of_int, of_str, of_bool, len_str, len_arr, len_sl, idx_str, adr_sl, adr_arr, c_int, c_str, c_bytes, c_text, pick_b, onS_some, onS_ite, onS_not, b_add, b_sub, b_mul, b_and, b_or, b_xor, b_eql, b_neq, b_lss, b_leq, b_gtr, b_geq, b_shl, b_shr, b_quo, b_rem, t_add, t_eql, t_neq, v_eql, v_neq, b_andNot, u_not, onB_true, onB_false, onB_dec, onB_not, ret_cell, ret_ct, retP_0, retP_1, retP_2, retP_3, res_tmp, res_cell, ret_one, ret_two, ret_three, ret_none, List.set_set, if_true, if_false, ite_true, ite_false, List.map_cons, List.map_nil, Option.map_some, Option.map_none, List.toList_toArray, rd_def, rd_ints, wr_def, wr_ints, at_def, at_ints, bytes_ints, bytesA_ints, ints_set, nums_len, List.length_nil, List.length_cons, List.length_set, List.length_append, List.nil_append, List.cons_append, List.getElem?_cons_zero, List.getElem?_cons_succ, List.set_cons_zero, List.set_cons_succ, List.drop_zero, List.take_succ_cons, List.take_zero, List.take_length, Option.bind_some, true_and, and_true, Nat.zero_add, Nat.mul_one, Int.toNat_zero, Int.reduceToNat, Int.reduceAdd, Int.reduceSub, Int.reduceMul, Int.reduceNeg, Nat.reduceAdd, Nat.reduceSub, Nat.reduceMul, Nat.reducePow, Nat.min_eq_left, Int.reducePow, Nat.le_refl, Int.cast_ofNat_Int, Nat.reduceLT, Nat.reduceLeDiff, Nat.reduceEqDiff, Int.reduceLE, Int.reduceLT, Int.reduceEq, ne_eq, not_false_eq_true, not_true_eq_false, reduceCtorEq, decide_true, decide_false, and_self, and_false, false_and, Bool.not_true, Bool.not_false, Try.underlying0, Try.underlying1, Try.underlying2, Try.underlying3, Try.underlying4, Try.underlying5, Try.underlying6, Try.underlying7, Try.underlying8, Try.underlying9, Try.underlying10, Try.underlying11, Try.underlying12, Try.underlying13, Try.underlying14, Try.underlying15, Try.underlying16, Try.underlying17, Try.underlying18, Try.underlying19, Try.underlying20, Try.underlying21, Try.underlying22, Try.underlying23, Try.underlying24, Try.underlying25, Try.underlying26, Try.underlying27, Try.underlying28, Try.underlying29, Try.underlying30, Try.underlying31, Try.underlying32, Try.underlying33, Try.underlying34, Try.underlying35, Try.underlying36, Try.underlying37, Try.underlying38, Try.underlying39, Try.underlying40, Try.underlying41, Try.underlying42, Try.underlying43, Try.underlying44, Try.underlying45, Try.underlying46, Try.underlying47, Try.underlying48, Try.underlying49, Try.underlying50, Try.underlying51, Try.underlying52, Try.underlying53, Try.underlying54, Try.underlying55, Try.underlying56, Try.underlying57, Try.underlying58, Try.underlying59, Try.underlying60, Try.underlying61, Try.underlying62, Try.underlying63, Try.underlying64, Try.underlying65, Try.underlying66, Try.underlying67, Try.underlying68, Try.underlying69, Try.underlying70, Try.underlying71, Try.underlying72, Try.underlying73, Try.underlying74, Try.underlying75, Try.underlying76, Try.underlying77, Try.underlying78, Try.underlying79, Try.underlying80, Try.underlying81, Try.underlying82, Try.underlying83, Try.underlying84, Try.underlying85, Try.underlying86, Try.underlying87, Try.underlying88, Try.underlying89, Try.underlying90, Try.underlying91, Try.underlying92, Try.underlying93, Try.underlying94, Try.underlying95, Try.underlying96, Try.underlying97, Try.underlying98, Try.underlying99, Try.underlying100, Try.underlying101, Try.underlying102, Try.underlying103, Try.underlying104, Try.underlying105, Try.underlying106, Try.underlying107, Try.underlying108, Try.underlying109, Try.underlying110, Try.underlying111, Try.underlying112, Try.underlying113, Try.underlying114, Try.underlying115, Try.underlying116, Try.underlying117, Try.underlying118, Try.underlying119, Try.underlying120, Try.underlying121, Try.underlying122, Try.underlying123, Try.underlying124, Try.underlying125, Try.underlying126, Try.underlying127, Try.underlying128, Try.underlying129, Try.underlying130, Try.underlying131, Try.underlying132, Try.underlying133, Try.underlying134, Try.underlying135, Try.underlying136, Try.underlying137, Try.underlying138, Try.underlying139, Try.underlying140, Try.underlying141, Try.underlying142, Try.underlying143, Try.underlying144, Try.underlying145, Try.underlying146, Try.underlying147, tyOk0, agg0, cells0, tyOk1, agg1, cells1, tyOk2, agg2, cells2, zero2, info2, mk2, bs2_0, bs2_1, bs2_2, bs2_3, bs2_4, bs2_5, bs2_6, bs2_7, bs2_8, bs2_10, bs2_11, bs2_12, bs2_13, tyOk3, agg3, cells3, zero3, apS26, apN26, info3, mk3, bs3_0, bs3_1, bs3_2, bs3_3, bs3_4, bs3_5, bs3_6, bs3_7, bs3_8, bs3_10, bs3_11, bs3_12, bs3_13, tyOk4, agg4, cells4, zero4, info4, mk4, bs4_0, bs4_1, bs4_2, apS52, apN52, tyOk5, agg5, cells5, isU5, zero5, apS22, apN22, apStr22, info5, mk5, bs5_0, bs5_1, bs5_2, bs5_3, bs5_4, bs5_5, bs5_6, bs5_7, bs5_8, bs5_10, bs5_11, bs5_12, bs5_13, tyOk6, agg6, cells6, isU6, zero6, info6, mk6, bs6_0, bs6_1, bs6_2, bs6_3, bs6_4, bs6_5, bs6_6, bs6_7, bs6_8, bs6_10, bs6_11, bs6_12, bs6_13, tyOk7, agg7, cells7, zero7, fadr7_0, fld7_0, fadr7_1, fld7_1, fadr7_2, fld7_2, fadr7_3, fld7_3, bz7, bds7, tyOk8, agg8, cells8, zero8, fadr8_0, fld8_0, fadr8_1, fld8_1, fadr8_2, fld8_2, fadr8_3, fld8_3, bz8, bds8, tyOk9, agg9, cells9, zero9, info9, bs9_0, bs9_1, bs9_2, bs9_3, bs9_4, bs9_5, bs9_6, bs9_8, bs9_9, bs9_10, apS125, apN125, tyOk10, agg10, cells10, zero10, info10, bs10_0, bs10_1, bs10_2, bs10_3, bs10_4, bs10_5, bs10_6, bs10_8, bs10_9, bs10_10, tyOk11, agg11, cells11, zero11, info11, bs11_0, bs11_1, bs11_2, bs11_3, bs11_4, bs11_5, bs11_6, bs11_8, bs11_9, bs11_10, tyOk12, agg12, cells12, zero12, info12, mk12, bs12_0, bs12_1, bs12_2, bs12_3, bs12_4, bs12_5, bs12_6, bs12_7, bs12_8, bs12_10, bs12_11, bs12_12, bs12_13, tyOk13, agg13, cells13, zero13, fadr13_0, fld13_0, fadr13_1, fld13_1, bz13, bds13, tyOk14, agg14, cells14, zero14, fadr14_0, fld14_0, fadr14_1, fld14_1, bz14, bds14, tyOk15, agg15, cells15, zero15, tyOk16, agg16, cells16, zero16, tyOk17, agg17, cells17, zero17, tyOk18, agg18, cells18, zero18, fadr18_0, fld18_0, bz18, bds18, tyOk19, agg19, cells19, zero19, fadr19_0, fld19_0, bz19, bds19, tyOk20, agg20, cells20, tyOk21, agg21, cells21, zero21, info21, mk21, bs21_0, bs21_1, bs21_2, bs21_3, bs21_4, bs21_5, bs21_6, bs21_7, bs21_8, bs21_10, bs21_11, bs21_12, bs21_13, tyOk22, agg22, cells22, zero22, tyOk23, agg23, cells23, tyOk24, agg24, cells24, tyOk25, agg25, cells25, tyOk26, agg26, cells26, zero26, tyOk27, agg27, cells27, tyOk28, agg28, cells28, tyOk29, agg29, cells29, zero29, info29, mk29, bs29_0, bs29_1, bs29_2, bs29_3, bs29_4, bs29_5, bs29_6, bs29_7, bs29_8, bs29_10, bs29_11, bs29_12, bs29_13, tyOk30, agg30, cells30, tyOk31, agg31, cells31, tyOk32, agg32, cells32, tyOk33, agg33, cells33, tyOk34, agg34, cells34, tyOk35, agg35, cells35, tyOk36, agg36, cells36, tyOk37, agg37, cells37, tyOk38, agg38, cells38, tyOk39, agg39, cells39, tyOk40, agg40, cells40, tyOk41, agg41, cells41, tyOk42, agg42, cells42, tyOk43, agg43, cells43, tyOk44, agg44, cells44, tyOk45, agg45, cells45, tyOk46, agg46, cells46, tyOk47, agg47, cells47, tyOk48, agg48, cells48, tyOk49, agg49, cells49, zero49, tyOk50, agg50, cells50, tyOk51, agg51, cells51, tyOk52, agg52, cells52, zero52, tyOk53, agg53, cells53, zero53, fadr53_0, fld53_0, fadr53_1, fld53_1, fadr53_2, fld53_2, fadr53_3, fld53_3, bz53, bds53, tyOk54, agg54, cells54, zero54, fadr54_0, fld54_0, fadr54_1, fld54_1, fadr54_2, fld54_2, fadr54_3, fld54_3, bz54, bds54, tyOk55, agg55, cells55, tyOk56, agg56, cells56, tyOk57, agg57, cells57, zero57, fadr57_0, fld57_0, fadr57_1, fld57_1, fadr57_2, fld57_2, fadr57_3, fld57_3, bz57, bds57, tyOk58, agg58, cells58, zero58, info58, apS49, apN49, bs58_1, bs58_0, fadr58_0, fld58_0, fadr58_1, fld58_1, fadr58_2, fld58_2, fadr58_3, fld58_3, bz58, bds58, tyOk59, agg59, cells59, tyOk60, agg60, cells60, tyOk61, agg61, cells61, tyOk62, agg62, cells62, tyOk63, agg63, cells63, tyOk64, agg64, cells64, tyOk65, agg65, cells65, tyOk66, agg66, cells66, tyOk67, agg67, cells67, tyOk68, agg68, cells68, tyOk69, agg69, cells69, tyOk70, agg70, cells70, tyOk71, agg71, cells71, tyOk72, agg72, cells72, tyOk73, agg73, cells73, tyOk74, agg74, cells74, zero74, tyOk75, agg75, cells75, tyOk76, agg76, cells76, tyOk77, agg77, cells77, tyOk78, agg78, cells78, zero78, ix78, bz78, tyOk79, agg79, cells79, tyOk80, agg80, cells80, tyOk81, agg81, cells81, tyOk82, agg82, cells82, tyOk83, agg83, cells83, tyOk84, agg84, cells84, tyOk85, agg85, cells85, zero85, info85, mk85, bs85_0, bs85_1, bs85_2, bs85_3, bs85_4, bs85_5, bs85_6, bs85_7, bs85_8, bs85_10, bs85_11, bs85_12, bs85_13, tyOk86, agg86, cells86, zero86, ix86, bz86, bd86, tyOk87, agg87, cells87, tyOk88, agg88, cells88, zero88, ix88, bz88, tyOk89, agg89, cells89, tyOk90, agg90, cells90, tyOk91, agg91, cells91, tyOk92, agg92, cells92, tyOk93, agg93, cells93, tyOk94, agg94, cells94, tyOk95, agg95, cells95, tyOk96, agg96, cells96, tyOk97, agg97, cells97, tyOk98, agg98, cells98, tyOk99, agg99, cells99, tyOk100, agg100, cells100, tyOk101, agg101, cells101, tyOk102, agg102, cells102, tyOk103, agg103, cells103, tyOk104, agg104, cells104, tyOk105, agg105, cells105, tyOk106, agg106, cells106, tyOk107, agg107, cells107, tyOk108, agg108, cells108, tyOk109, agg109, cells109, zero109, fadr109_0, fld109_0, fadr109_1, fld109_1, fadr109_2, fld109_2, bz109, bds109, tyOk110, agg110, cells110, zero110, fadr110_0, fld110_0, fadr110_1, fld110_1, fadr110_2, fld110_2, bz110, bds110, tyOk111, agg111, cells111, tyOk112, agg112, cells112, tyOk113, agg113, cells113, zero113, tyOk114, agg114, cells114, zero114, fadr114_0, fld114_0, fadr114_1, fld114_1, bz114, bds114, tyOk115, agg115, cells115, zero115, fadr115_0, fld115_0, fadr115_1, fld115_1, bz115, bds115, tyOk116, agg116, cells116, tyOk117, agg117, cells117, tyOk118, agg118, cells118, tyOk119, agg119, cells119, tyOk120, agg120, cells120, tyOk121, agg121, cells121, tyOk122, agg122, cells122, tyOk123, agg123, cells123, tyOk124, agg124, cells124, tyOk125, agg125, cells125, zero125, tyOk126, agg126, cells126, tyOk127, agg127, cells127, tyOk128, agg128, cells128, tyOk129, agg129, cells129, zero129, info129, mk129, bs129_0, bs129_1, bs129_2, bs129_3, bs129_4, bs129_5, bs129_6, bs129_7, bs129_8, bs129_10, bs129_11, bs129_12, bs129_13, tyOk130, agg130, cells130, tyOk131, agg131, cells131, tyOk132, agg132, cells132, zero132, tyOk133, agg133, cells133, zero133, tyOk134, agg134, cells134, tyOk135, agg135, cells135, tyOk136, agg136, cells136, zero136, fadr136_0, fld136_0, fadr136_1, fld136_1, fadr136_2, fld136_2, fadr136_3, fld136_3, bz136, bds136, tyOk137, agg137, cells137, zero137, fadr137_0, fld137_0, fadr137_1, fld137_1, fadr137_2, fld137_2, fadr137_3, fld137_3, bz137, bds137, tyOk138, agg138, cells138, zero138, tyOk139, agg139, cells139, zero139, tyOk140, agg140, cells140, zero140, tyOk141, agg141, cells141, isU141, zero141, info141, mk141, bs141_0, bs141_1, bs141_2, bs141_3, bs141_4, bs141_5, bs141_6, bs141_7, bs141_8, bs141_10, bs141_11, bs141_12, bs141_13, tyOk142, agg142, cells142, isU142, zero142, info142, mk142, bs142_0, bs142_1, bs142_2, bs142_3, bs142_4, bs142_5, bs142_6, bs142_7, bs142_8, bs142_10, bs142_11, bs142_12, bs142_13, tyOk143, agg143, cells143, tyOk144, agg144, cells144, zero144, info144, mk144, bs144_0, bs144_1, bs144_2, bs144_3, bs144_4, bs144_5, bs144_6, bs144_7, bs144_8, bs144_10, bs144_11, bs144_12, bs144_13, tyOk145, agg145, cells145, zero145, info145, mk145, bs145_0, bs145_1, bs145_2, bs145_3, bs145_4, bs145_5, bs145_6, bs145_7, bs145_8, bs145_10, bs145_11, bs145_12, bs145_13, tyOk146, agg146, cells146, fadr146_0, fld146_0, fadr146_1, fld146_1, fadr146_2, fld146_2, fadr146_3, fld146_3, fadr146_4, fld146_4, fadr146_5, fld146_5, fadr146_6, fld146_6, fadr146_7, fld146_7, fadr146_8, fld146_8, fadr146_9, fld146_9, fadr146_10, fld146_10, tyOk147, agg147, cells147, fadr147_0, fld147_0, fadr147_1, fld147_1, fadr147_2, fld147_2, fadr147_3, fld147_3, fadr147_4, fld147_4, fadr147_5, fld147_5, fadr147_6, fld147_6, fadr147_7, fld147_7, fadr147_8, fld147_8, fadr147_9, fld147_9, fadr147_10, fld147_10, a2, a3, a4, e1, e2, e3, e4, e5, k3, k4, k5, List.length_replicate, Int.toNat_natCast, rep_set]
      refine ⟨m, by omega, _, _, xc / 256, rfl, by omega, ?_, ?_, ?_, by omega, by omega, ?_, ?_⟩
      · simp +decide only [upd_eq, upd_ne, a2]
      · simp +decide only [upd_eq, upd_ne]
      · simp +decide only [upd_eq, upd_ne]
      · rw [a7, hiL, List.append_assoc]; rfl
      · simp only [List.length_cons]; omega
  · have e2 : IntKind.i64.wrap ((w : Int) - 1) = w - 1 := w64 (by omega) (by omega)
    refine ⟨_, [], x, by rw [List.append_nil], by omega, ?_, ?_, ?_, h0, h1, by rw [List.append_nil], by simp⟩
    · simp +decide only [upd_eq, upd_ne]
    · simp +decide only [upd_eq, upd_ne, e2]
    · simp +decide only [upd_eq, upd_ne, par0]
end Go.Proofs.Ytknmbiebnpojjaa.Sim
namespace Go.Proofs.Ytknmbiebnpojjaa.Sim
open Go
set_option maxRecDepth 100000
set_option linter.unusedSimpArgs false
set_option linter.unusedVariables false
theorem w_byte (z : ByteArray) (j : Nat) : IntKind.i64.wrap (byteAt z j) = wi (bw z j) := by
  have := byte_range z j
  rw [w64 (by omega) (by omega), wi_bw]
theorem w_acc (z : ByteArray) (i k : Nat) (h : k ≤ 3) : IntKind.i64.wrap (wi (acc z i k) * 256) = wi (acc z i k <<< 8) := by
  rw [acc_shl z i k h]
  have := wi_lt (acc z i k <<< 8)
  have := wi_0 (acc z i k <<< 8)
  rw [w64 (by omega) (by omega)]
theorem get_set {l : List Wo} {i : Nat} {v : Wo} (h : i < l.length) : (l.set i v).getD i 0 = v := by
  simp [List.getD_eq_getElem?_getD, h]
theorem schedI (z : ByteArray) (hz : z.size = 64) : Fn Try.prog 63 [.sc (.string z)] (.agg (ints .i64 (wis (schd z)))) := by
  refine Fn.run 79 [.cell 2 78] Try.func63 rfl rfl rfl rfl (by simp) (flats_cons (.sc _) flats_nil) (flat_ints _ _) ?_
  simp -implicitDefEqProofs only [↓w_seq, ↓w_region, ↓ops_cons, ↓g_alloc, zero78, Option.map_some, ↓ops_nil, ↓g_buildV, List.map_nil, bz78, ↓g_store, Nat.reduceLT, ev_tab, upd_eq, ne_eq, Nat.reduceEqDiff, not_false_eq_true, upd_ne, ↓g_assign, ↓w_block, ev_const, of_int, alK_some, ints_one, wr_def, tyOk78, cells78, at_end, true_and, onS_some, List.length_replicate, wrA, List.length_nil, List.nil_append, List.length_cons, Nat.zero_add, List.cons_append, List.set_cons_succ, List.set_cons_zero]
  have z0 : ints .i64 (List.replicate 64 0) = ints .i64 (wis (pre z 0)) := by rw [wis_rep]; rfl
  refine w_loop (ι := Nat) (fun i s => ∃ T : Nat → AV, s = ⟨tab 79 T, [⟨ints .i64 (List.replicate 64 0), true, true⟩, ⟨ints .i64 (wis (pre z i)), true, true⟩]⟩ ∧ i ≤ 16 ∧ T 0 = .sc (.string z) ∧ T 2 = .ptr 0 0 ∧ T 3 = .ptr 1 0 ∧ T 4 = .sc (.int .i64 i)) (fun i => 16 - i) ?_ (i := 0) ?_
  · rintro i s ⟨T, rfl, a1, a2, a3, a4, a5⟩
    by_cases h : i < 16
    · have k1 : (i : Int) < 16 := by omega
      have k0 : (0 : Int) ≤ i := by omega
      have e1 : IntKind.i64.wrap ((i : Int) + 1) = i + 1 := w64 (by omega) (by omega)
      have e4 : IntKind.i64.wrap (4 * (i : Int)) = 4 * i := w64 (by omega) (by omega)
      have hp : (pre z i).length = 64 := pre_len z i (by omega)
      simp -implicitDefEqProofs only [↓w_seq, ↓w_region, ↓ops_cons, ↓g_move, ↓g_binOp, Nat.reduceLT, ev_tab, a5, upd_eq, ev_const, of_int, b_lss, k1, decide_true, ↓ops_nil, ↓w_cond, ↓w_skip, ↓w_block, ↓g_assign, ↓w_exit, if_true, onS_some, onB_true]
      refine w_loop (ι := Nat) (fun k s => ∃ T : Nat → AV, s = ⟨tab 79 T, [⟨ints .i64 (List.replicate 64 0), true, true⟩, ⟨ints .i64 (wis ((pre z i).set i (acc z i k))), true, true⟩]⟩ ∧ k ≤ 4 ∧ T 0 = .sc (.string z) ∧ T 2 = .ptr 0 0 ∧ T 3 = .ptr 1 0 ∧ T 4 = .sc (.int .i64 i) ∧ T 5 = .sc (.int .i64 k)) (fun k => 4 - k) ?_ (i := 0) ?_
      · rintro k s ⟨T, rfl, b1, b2, b3, b4, b5, b6⟩
        by_cases hk : k < 4
        · have l1 : (k : Int) < 4 := by omega
          have l2 : IntKind.i64.wrap ((k : Int) + 1) = k + 1 := w64 (by omega) (by omega)
          have l3 : IntKind.i64.wrap (4 * (i : Int) + k) = ((4 * i + k : Nat) : Int) := by rw [w64 (by omega) (by omega)]; omega
          have l4 : 4 * i + k < 64 := by omega
          have l5 : (0 : Int) ≤ ((4 * i + k : Nat) : Int) := by omega
          have l6 : i < 64 := by omega
          have l7 : (i : Int) < 64 := by omega
          simp -implicitDefEqProofs only [↓w_seq, ↓w_region, ↓ops_cons, ↓g_move, ↓g_binOp, Nat.reduceLT, ev_tab, b6, upd_eq, ev_const, of_int, b_lss, l1, decide_true, ↓ops_nil, ↓w_cond, ↓w_skip, ↓w_block, ↓w_exit, ne_eq, Nat.reduceEqDiff, not_false_eq_true, upd_ne, b5, b_add, ↓g_assign, onS_some, reduceCtorEq, if_false, if_true, onB_true]
          refine drawn [(3, 0)] follows (by kernel_rfl) (by kernel_rfl) ?_
          simp -implicitDefEqProofs only [↓dops_cons, ↓g_move, ↓g_indexAddr, Try.underlying78, Nat.reduceLT, ev_tab, ne_eq, Nat.reduceEqDiff, not_false_eq_true, upd_ne, b5, b4, upd_eq, adr_arr, k0, Int.cast_ofNat_Int, l7, tyOk3, and_self, Int.toNat_natCast, cells3, Nat.mul_one, Nat.zero_add, if_true, ↓g_load, ↓g_binOp, ev_const, of_int, reduceCtorEq, b2, b_mul, e4, b6, ↓g_index, Try.underlying9, ↓g_convert, Try.underlying5, Try.underlying3, ↓g_store, ↓dops_p, ↓w_region, ↓ops_cons, b_add, ↓g_assign, ↓ops_nil, onS_some, wr_def, l3, idx_str, l5, hz, l4, c_int, w_byte, List.getElem?_cons_succ, List.getElem?_cons_zero, rd_def, agg3, rd_ints, wis_len, List.length_set, hp, l6, wis_get, get_set, b_shl, Int.reduceLT, Int.reduceToNat, bits_i64, Nat.reduceLeDiff, Nat.min_eq_left, Int.reducePow, show k ≤ 3 by omega, w_acc, if_false, b_or, or_i, wr_ints, wis_set, List.set_set, List.set_cons_succ, List.set_cons_zero]
          refine ⟨pairs_cons (same_H rfl) (pairs_nil), ?_⟩
          simp -implicitDefEqProofs only [l2]
          refine ⟨k + 1, by omega, _, congrArg (St.mk _) (by rw [acc]), by omega, ?_, ?_, ?_, ?_, ?_⟩
          · simp -implicitDefEqProofs only [ne_eq, reduceCtorEq, not_false_eq_true, upd_ne, b2]
          · simp -implicitDefEqProofs only [ne_eq, Nat.reduceEqDiff, not_false_eq_true, upd_ne, b3]
          · simp -implicitDefEqProofs only [ne_eq, Nat.reduceEqDiff, not_false_eq_true, upd_ne, b4]
          · simp -implicitDefEqProofs only [ne_eq, Nat.reduceEqDiff, not_false_eq_true, upd_ne, b5]
          · simp -implicitDefEqProofs only [upd_eq] <;> rfl
        · have l1 : ¬ (k : Int) < 4 := by omega
          have hk4 : k = 4 := by omega
          subst hk4
          simp -implicitDefEqProofs only [↓w_seq, ↓w_region, Nat.reduceSub, ↓ops_cons, ↓g_move, ↓g_binOp, Nat.reduceLT, ev_tab, b6, Int.cast_ofNat_Int, upd_eq, ev_const, of_int, b_lss, Int.reduceLT, decide_false, ↓ops_nil, ↓w_cond, ↓w_skip, ↓w_block, ↓w_exit, ne_eq, Nat.reduceEqDiff, not_false_eq_true, upd_ne, b5, b_add, e1, ↓g_assign, onS_some, reduceCtorEq, if_false, if_true, onB_false]
          have hps := pre_set z i (by omega)
          rw [wd] at hps
          refine ⟨i + 1, by omega, _, congrArg (St.mk _) (by rw [hps]), by omega, ?_, ?_, ?_, ?_⟩
          · simp -implicitDefEqProofs only [ne_eq, reduceCtorEq, not_false_eq_true, upd_ne, b2]
          · simp -implicitDefEqProofs only [ne_eq, Nat.reduceEqDiff, not_false_eq_true, upd_ne, b3]
          · simp -implicitDefEqProofs only [ne_eq, Nat.reduceEqDiff, not_false_eq_true, upd_ne, b4]
          · simp -implicitDefEqProofs only [upd_eq] <;> rfl
      · have hss := set_same _ i (acc z i 0) (pre_get z i (by omega)) (by omega)
        refine ⟨_, congrArg (St.mk _) (by rw [hss]), by omega, ?_, ?_, ?_, ?_, ?_⟩
        · simp -implicitDefEqProofs only [ne_eq, reduceCtorEq, not_false_eq_true, upd_ne, a2]
        · simp -implicitDefEqProofs only [ne_eq, Nat.reduceEqDiff, not_false_eq_true, upd_ne, a3]
        · simp -implicitDefEqProofs only [ne_eq, Nat.reduceEqDiff, not_false_eq_true, upd_ne, a4]
        · simp -implicitDefEqProofs only [ne_eq, Nat.reduceEqDiff, not_false_eq_true, upd_ne, a5]
        · simp -implicitDefEqProofs only [upd_eq, Int.cast_ofNat_Int]
    · have k1 : ¬ (i : Int) < 16 := by omega
      have hi : i = 16 := by omega
      subst hi
      simp -implicitDefEqProofs only [↓w_seq, ↓w_region, Nat.reduceSub, ↓ops_cons, ↓g_move, ↓g_binOp, Nat.reduceLT, ev_tab, a5, Int.cast_ofNat_Int, upd_eq, ev_const, of_int, b_lss, Int.reduceLT, decide_false, ↓ops_nil, ↓w_cond, ↓w_skip, ↓w_block, ↓g_assign, ↓w_exit, if_true, onS_some, onB_false]
      refine w_loop (ι := Nat) (fun n s => ∃ T : Nat → AV, s = ⟨tab 79 T, [⟨ints .i64 (List.replicate 64 0), true, true⟩, ⟨ints .i64 (wis (schN (pre z 16) n)), true, true⟩]⟩ ∧ n ≤ 48 ∧ T 2 = .ptr 0 0 ∧ T 3 = .ptr 1 0 ∧ T 6 = .sc (.int .i64 ((16 + n : Nat) : Int))) (fun n => 48 - n) ?_ (i := 0) ?_
      · rintro n s ⟨T, rfl, b1, b3, b4, b5⟩
        have hp : (schN (pre z 16) n).length = 64 := by rw [schN_len, pre_len z 16 (by decide)]
        by_cases h : n < 48
        · have l1 : ((16 + n : Nat) : Int) < 64 := by omega
          have l15 : IntKind.i64.wrap (((16 + n : Nat) : Int) - 15) = ((16 + n - 15 : Nat) : Int) := by rw [w64 (by omega) (by omega)]; omega
          have l2 : IntKind.i64.wrap (((16 + n : Nat) : Int) - 2) = ((16 + n - 2 : Nat) : Int) := by rw [w64 (by omega) (by omega)]; omega
          have l16 : IntKind.i64.wrap (((16 + n : Nat) : Int) - 16) = ((16 + n - 16 : Nat) : Int) := by rw [w64 (by omega) (by omega)]; omega
          have l7 : IntKind.i64.wrap (((16 + n : Nat) : Int) - 7) = ((16 + n - 7 : Nat) : Int) := by rw [w64 (by omega) (by omega)]; omega
          have m0 : ∀ j : Nat, (0 : Int) ≤ (j : Int) := fun j => by omega
          have m15 : ((16 + n - 15 : Nat) : Int) < 64 := by omega
          have m2 : ((16 + n - 2 : Nat) : Int) < 64 := by omega
          have m16 : ((16 + n - 16 : Nat) : Int) < 64 := by omega
          have m7 : ((16 + n - 7 : Nat) : Int) < 64 := by omega
          have n0 : 16 + n < 64 := by omega
          have n15 : 16 + n - 15 < 64 := by omega
          have n2 : 16 + n - 2 < 64 := by omega
          have n16 : 16 + n - 16 < 64 := by omega
          have n7 : 16 + n - 7 < 64 := by omega
          simp -implicitDefEqProofs only [↓w_seq, ↓w_region, ↓ops_cons, ↓g_move, ↓g_binOp, Nat.reduceLT, ev_tab, b5, upd_eq, ev_const, of_int, b_lss, l1, decide_true, ↓ops_nil, ↓w_cond, ↓w_skip, ↓w_block, ↓w_exit, ↓g_load, ne_eq, Nat.reduceEqDiff, not_false_eq_true, upd_ne, b4, rd_def, tyOk78, agg78, cells78, List.getElem?_cons_succ, List.getElem?_cons_zero, ↓g_store, b3, wr_def, ↓w_ret, ret_cell, if_true, onS_some, onB_true]
          refine drawn [(3, 0), (7, 0)] follows (by kernel_rfl) (by kernel_rfl) ?_
          simp -implicitDefEqProofs only [↓dops_cons, ↓g_move, ↓g_binOp, Nat.reduceLT, ev_tab, ne_eq, Nat.reduceEqDiff, not_false_eq_true, upd_ne, b5, upd_eq, ev_const, of_int, b_sub, l15, ↓g_indexAddr, Try.underlying78, b4, ↓g_load, l2, ↓g_assign, ↓dops_p, ↓w_seq, ↓w_region, ↓ops_cons, onS_some, adr_arr, m0, Int.cast_ofNat_Int, m2, tyOk3, and_self, Int.toNat_natCast, cells3, Nat.mul_one, Nat.zero_add, if_true, rd_def, agg3, List.getElem?_cons_succ, List.getElem?_cons_zero, rd_ints, wis_len, hp, n2, wis_get, m15, n15]
          refine ⟨pairs_cons (same_H rfl) (pairs_cons (same_H rfl) (pairs_nil)), ?_⟩
          refine call1 (by simp -implicitDefEqProofs only [List.map_cons, Nat.reduceLT, ev_tab, upd_eq, ev_const, of_int, List.map_nil, Int.cast_ofNat_Int] <;> rfl) (rotI _ 7 (by decide) (by decide)) ?_
          simp -implicitDefEqProofs only [↓ops_cons, ↓g_move, Nat.reduceLT, ev_tab, ne_eq, Nat.reduceEqDiff, not_false_eq_true, upd_ne, upd_eq]
          refine call1 (by simp -implicitDefEqProofs only [List.map_cons, Nat.reduceLT, ev_tab, upd_eq, ev_const, of_int, List.map_nil, Int.cast_ofNat_Int] <;> rfl) (rotI _ 18 (by decide) (by decide)) ?_
          simp -implicitDefEqProofs only [↓ops_cons, ↓g_binOp, Nat.reduceLT, ev_tab, ne_eq, Nat.reduceEqDiff, not_false_eq_true, upd_ne, upd_eq, b_xor, xor_i, ↓g_move, ev_const, of_int, b_shr, Int.reduceLT, Int.reduceToNat, bits_i64, Nat.reduceLeDiff, Nat.min_eq_left, Int.reducePow, sh3, if_false, ↓g_assign, ↓ops_nil, ↓w_seq, ↓w_region, onS_some]
          refine call1 (by simp -implicitDefEqProofs only [List.map_cons, Nat.reduceLT, ev_tab, upd_eq, ev_const, of_int, List.map_nil, Int.cast_ofNat_Int] <;> rfl) (rotI _ 17 (by decide) (by decide)) ?_
          simp -implicitDefEqProofs only [↓ops_cons, ↓g_move, Nat.reduceLT, ev_tab, ne_eq, Nat.reduceEqDiff, not_false_eq_true, upd_ne, upd_eq]
          refine call1 (by simp -implicitDefEqProofs only [List.map_cons, Nat.reduceLT, ev_tab, upd_eq, ev_const, of_int, List.map_nil, Int.cast_ofNat_Int] <;> rfl) (rotI _ 19 (by decide) (by decide)) ?_
          simp -implicitDefEqProofs only [↓ops_cons, ↓g_binOp, Nat.reduceLT, ev_tab, ne_eq, Nat.reduceEqDiff, not_false_eq_true, upd_ne, upd_eq, b_xor, xor_i, ↓g_move, ev_const, of_int, b_shr, Int.reduceLT, Int.reduceToNat, bits_i64, Nat.reduceLeDiff, Nat.min_eq_left, Int.reducePow, sh10, if_false, ↓g_assign, ↓ops_nil, onS_some]
          refine drawn [(4, 0), (10, 0)] follows (by kernel_rfl) (by kernel_rfl) ?_
          simp -implicitDefEqProofs only [↓dops_cons, ↓g_move, ↓g_binOp, Nat.reduceLT, ev_tab, ne_eq, Nat.reduceEqDiff, not_false_eq_true, upd_ne, b5, upd_eq, ev_const, of_int, b_sub, l16, ↓g_indexAddr, Try.underlying78, b4, ↓g_load, l7, adr_arr, m0, Int.cast_ofNat_Int, l1, tyOk3, and_self, Int.toNat_natCast, cells3, Nat.mul_one, Nat.zero_add, if_true, ↓g_store, ↓dops_p, ↓w_region, ↓ops_cons, b_add, ↓g_assign, ↓ops_nil, onS_some, wr_def, List.getElem?_cons_succ, List.getElem?_cons_zero, m7, rd_def, agg3, rd_ints, wis_len, hp, n7, wis_get, m16, n16, b_and, i64_maskA, sum4, wr_ints, n0, wis_set, List.set_cons_succ, List.set_cons_zero]
          refine ⟨pairs_cons (same_H rfl) (pairs_cons (same_H rfl) (pairs_nil)), ?_⟩
          have e1 : IntKind.i64.wrap (((16 + n : Nat) : Int) + 1) = ((16 + (n + 1) : Nat) : Int) := by rw [w64 (by omega) (by omega)]; omega
          simp -implicitDefEqProofs only [e1]
          refine ⟨n + 1, by omega, _, congrArg (St.mk _) (by rw [schN, wstep, sl0, sl1]), by omega, ?_, ?_, ?_⟩
          · simp -implicitDefEqProofs only [ne_eq, Nat.reduceEqDiff, not_false_eq_true, upd_ne, b3]
          · simp -implicitDefEqProofs only [ne_eq, Nat.reduceEqDiff, not_false_eq_true, upd_ne, b4]
          · simp -implicitDefEqProofs only [upd_eq]
        · have l1 : ¬ ((16 + n : Nat) : Int) < 64 := by omega
          have hn : n = 48 := by omega
          subst hn
          have hsd : schN (pre z 16) 48 = schd z := rfl
          rw [hsd] at hp
          simp -implicitDefEqProofs only [↓w_seq, ↓w_region, Nat.reduceSub, hsd, ↓ops_cons, ↓g_move, ↓g_binOp, Nat.reduceLT, ev_tab, b5, Nat.reduceAdd, Int.cast_ofNat_Int, upd_eq, ev_const, of_int, b_lss, Int.reduceLT, decide_false, ↓ops_nil, ↓w_cond, ↓w_skip, ↓w_block, ↓w_exit, ↓g_load, ne_eq, Nat.reduceEqDiff, not_false_eq_true, upd_ne, b4, rd_def, tyOk78, agg78, cells78, List.getElem?_cons_succ, List.getElem?_cons_zero, wis_len, hp, rdA, ↓g_store, b3, wr_def, ↓w_ret, ret_cell, onS_some, List.length_replicate, wrA, List.set_cons_zero, if_true, onB_false]
      · refine ⟨_, rfl, by omega, ?_, ?_, ?_⟩
        · simp -implicitDefEqProofs only [ne_eq, Nat.reduceEqDiff, not_false_eq_true, upd_ne, a3]
        · simp -implicitDefEqProofs only [ne_eq, Nat.reduceEqDiff, not_false_eq_true, upd_ne, a4]
        · simp -implicitDefEqProofs only [upd_eq, Nat.reduceAdd, Int.cast_ofNat_Int]
  · refine ⟨_, congrArg (St.mk _) (by rw [z0]), by omega, ?_, ?_, ?_, ?_⟩
    · simp -implicitDefEqProofs only [ne_eq, reduceCtorEq, not_false_eq_true, upd_ne, par0] <;> rfl
    · simp -implicitDefEqProofs only [ne_eq, Nat.reduceEqDiff, not_false_eq_true, upd_ne, upd_eq] <;> rfl
    · simp -implicitDefEqProofs only [ne_eq, Nat.reduceEqDiff, not_false_eq_true, upd_ne, upd_eq] <;> rfl
    · simp -implicitDefEqProofs only [upd_eq, Int.cast_ofNat_Int] <;> rfl
end Go.Proofs.Ytknmbiebnpojjaa.Sim
namespace Go.Proofs.Ytknmbiebnpojjaa.Sim
open Go
set_option maxRecDepth 100000
set_option linter.unusedSimpArgs false
set_option linter.unusedVariables false
theorem wordsI {H : AHeap} {x : AV} {l : List Wo} (n : Int) (hx : IsL H x .i64 (wis l)) (hl : l.length ≤ 1000000000000) : Sound Try.prog 61 [x, .sc (.int .i64 n)] H (.sc (.bool (decide ((l.length : Int) = n)))) H := by
  refine Sound.run 21 [.tmp 4] Try.func61 rfl rfl rfl rfl (by simp) ?_
  have lx := fun e => hx.len e
  simp only [wis_len] at lx
  simp -implicitDefEqProofs only [↓w_seq, ↓w_region, ↓ops_cons, ↓g_assign, ↓ops_nil, ev_const, of_bool, ↓g_move, ↓g_len, Try.underlying26, Nat.reduceLT, ev_tab, ne_eq, reduceCtorEq, not_false_eq_true, upd_ne, par0, upd_eq, lx, ↓w_block, of_int, onS_some]
  refine w_loop (ι := Nat) (fun i s => ∃ T : Nat → AV, s = ⟨tab 21 T, H⟩ ∧ i ≤ l.length ∧ T 0 = x ∧ T 1 = .sc (.int .i64 n) ∧ T 7 = x ∧ T 8 = .sc (.int .i64 l.length) ∧ T 9 = .sc (.int .i64 i)) (fun i => l.length - i) ?_ (i := 0) ?_
  · rintro i s ⟨T, rfl, a1, a2, a3, a4, a5, a6⟩
    by_cases h : i < l.length
    · have k1 : (i : Int) < l.length := by omega
      have k2 : (0 : Int) ≤ i := by omega
      obtain ⟨r, o, rfl, hr⟩ := hx.get (i := i) (by rw [wis_len]; exact h)
      have e1 : IntKind.i64.wrap ((i : Int) + 1) = i + 1 := w64 (by omega) (by omega)
      have b0 := wi_0 (l.getD i 0)
      have b1 := wi_lt (l.getD i 0)
      simp -implicitDefEqProofs only [↓w_seq, ↓w_region, wis_len, ↓ops_cons, ↓g_binOp, Nat.reduceLT, ev_tab, a6, a5, b_lss, k1, decide_true, ↓ops_nil, ↓w_cond, upd_eq, ↓w_skip, ↓w_block, ↓g_indexAddr, Try.underlying26, ne_eq, Nat.reduceEqDiff, not_false_eq_true, upd_ne, a4, adr_sl, k2, cells3, tyOk3, and_self, Int.toNat_natCast, Nat.mul_one, Nat.zero_add, if_true, ↓g_load, ↓g_assign, ↓g_move, onS_some, rd_def, agg3, hr, rd_ints, h, wis_get, ↓w_exit, ↓g_len, reduceCtorEq, a2, len_sl, a3, ↓w_ret, ret_one, and_true, b_eql, onB_true]
      refine call1 (by simp -implicitDefEqProofs only [List.map_cons, Nat.reduceLT, ev_tab, upd_eq, ev_const, of_int, List.map_nil] <;> rfl) (inI _ 0 4294967295) ?_
      have e2 : decide (0 ≤ wi (l.getD i 0) ∧ wi (l.getD i 0) ≤ 4294967295) = true := decide_eq_true (by omega)
      rw [e2]
      simp -implicitDefEqProofs only [↓ops_cons, ↓g_unOp, Nat.reduceLT, ev_tab, upd_eq, u_not, Bool.not_true, Option.map_some, ↓ops_nil, ↓w_cond, ↓w_seq, ↓w_region, ↓g_assign, ↓w_ret, ev_const, of_bool, ret_one, and_true, ↓w_skip, ↓g_binOp, ne_eq, Nat.reduceEqDiff, not_false_eq_true, upd_ne, a6, of_int, b_add, e1, ↓g_move, onS_some, onB_false]
      refine ⟨i + 1, by omega, _, rfl, by omega, ?_, ?_, ?_, ?_, ?_⟩
      · simp -implicitDefEqProofs only [ne_eq, reduceCtorEq, not_false_eq_true, upd_ne, a2, wis_len]
      · simp -implicitDefEqProofs only [ne_eq, Nat.reduceEqDiff, not_false_eq_true, upd_ne, a3]
      · simp -implicitDefEqProofs only [ne_eq, Nat.reduceEqDiff, not_false_eq_true, upd_ne, a4, wis_len]
      · simp -implicitDefEqProofs only [ne_eq, Nat.reduceEqDiff, not_false_eq_true, upd_ne, a5]
      · simp -implicitDefEqProofs only [upd_eq] <;> rfl
    · have k1 : ¬ (i : Int) < l.length := by omega
      simp -implicitDefEqProofs only [↓w_seq, ↓w_region, ↓ops_cons, ↓g_binOp, Nat.reduceLT, ev_tab, a6, a5, b_lss, k1, decide_false, ↓ops_nil, ↓w_cond, upd_eq, ↓w_skip, ↓w_block, ↓g_indexAddr, Try.underlying26, ne_eq, Nat.reduceEqDiff, not_false_eq_true, upd_ne, a4, ↓g_load, ↓g_assign, ↓g_move, ↓w_exit, ↓g_len, reduceCtorEq, a2, lx, a3, ↓w_ret, ret_one, and_true, onS_some, b_eql, if_true, onB_false]
  · refine ⟨_, rfl, by omega, ?_, ?_, ?_, ?_, ?_⟩ <;> simp -implicitDefEqProofs only [ne_eq, reduceCtorEq, not_false_eq_true, upd_ne, par0, Nat.reduceEqDiff, par1, upd_eq, Int.cast_ofNat_Int] <;> rfl
end Go.Proofs.Ytknmbiebnpojjaa.Sim
namespace Go.Proofs.Ytknmbiebnpojjaa.Sim
open Go
set_option maxRecDepth 100000
set_option maxHeartbeats 4000000
set_option linter.unusedSimpArgs false
set_option linter.unusedVariables false
theorem keysI : Fn Try.prog 62 [] (.agg (ints .i64 (wis keys))) := by
  refine Fn.run 2 [.cell 0 78] Try.func62 rfl rfl rfl rfl (by simp) flats_nil (flat_ints _ _) ?_
  simp -implicitDefEqProofs only [↓w_seq, ↓w_region, ↓ops_cons, ↓g_alloc, zero78, Option.map_some, ↓ops_nil, ↓g_buildV, List.map_cons, ev_const, of_int, List.map_nil, ↓g_store, Nat.reduceLT, ev_tab, ne_eq, reduceCtorEq, not_false_eq_true, upd_ne, upd_eq, ↓w_ret, ret_cell, alK_some, ints_one, List.length_nil, List.nil_append, wr_def, tyOk78, cells78, List.getElem?_cons_zero, rd_def, agg78, true_and]
  refine onS_of (v := .agg (ints .i64 (wis keys))) (by kernel_rfl) ?_
  simp -implicitDefEqProofs only [wis_len, keys_len, List.length_replicate, wrA, List.set_cons_zero, onS_some, List.getElem?_cons_zero, rdA]
theorem t2s (a b : Wo) : IntKind.i64.wrap (wi a + wi b) = wi a + wi b := by
  have ha := wi_0 a
  have hb := wi_0 b
  have ja := wi_lt a
  have jb := wi_lt b
  rw [w64 (by omega) (by omega)]
theorem t3s (a b c : Wo) : IntKind.i64.wrap (wi a + wi b + wi c) = wi a + wi b + wi c := by
  have ha := wi_0 a
  have hb := wi_0 b
  have hc := wi_0 c
  have ja := wi_lt a
  have jb := wi_lt b
  have jc := wi_lt c
  rw [w64 (by omega) (by omega)]
theorem t4s (a b c d : Wo) : IntKind.i64.wrap (wi a + wi b + wi c + wi d) = wi a + wi b + wi c + wi d := by
  have ha := wi_0 a
  have hb := wi_0 b
  have hc := wi_0 c
  have hd := wi_0 d
  have ja := wi_lt a
  have jb := wi_lt b
  have jc := wi_lt c
  have jd := wi_lt d
  rw [w64 (by omega) (by omega)]
theorem t5s (a b c d e : Wo) : IntKind.i64.wrap (wi a + wi b + wi c + wi d + wi e) = wi a + wi b + wi c + wi d + wi e := by
  have ha := wi_0 a
  have hb := wi_0 b
  have hc := wi_0 c
  have hd := wi_0 d
  have he := wi_0 e
  have ja := wi_lt a
  have jb := wi_lt b
  have jc := wi_lt c
  have jd := wi_lt d
  have je := wi_lt e
  rw [w64 (by omega) (by omega)]
theorem md6 (x a b c d e : Wo) : IntKind.i64.wrap (wi x + (wi a + wi b + wi c + wi d + wi e)) % 4294967296 = wi (x + (a + b + c + d + e)) := by
  have ha := wi_0 a
  have hb := wi_0 b
  have hc := wi_0 c
  have hd := wi_0 d
  have he := wi_0 e
  have hx := wi_0 x
  have ja := wi_lt a
  have jb := wi_lt b
  have jc := wi_lt c
  have jd := wi_lt d
  have je := wi_lt e
  have jx := wi_lt x
  rw [w64 (by omega) (by omega)]
  simp only [wi, BitVec.toNat_add] at *
  omega
theorem md7 (a b c d e x y : Wo) : IntKind.i64.wrap (wi a + wi b + wi c + wi d + wi e + (wi x + wi y)) % 4294967296 = wi (a + b + c + d + e + (x + y)) := by
  have ha := wi_0 a
  have hb := wi_0 b
  have hc := wi_0 c
  have hd := wi_0 d
  have he := wi_0 e
  have hx := wi_0 x
  have hy := wi_0 y
  have ja := wi_lt a
  have jb := wi_lt b
  have jc := wi_lt c
  have jd := wi_lt d
  have je := wi_lt e
  have jx := wi_lt x
  have jy := wi_lt y
  rw [w64 (by omega) (by omega)]
  simp only [wi, BitVec.toNat_add] at *
  omega
theorem md2 (x y : Wo) : IntKind.i64.wrap (wi x + wi y) % 4294967296 = wi (x + y) := by rw [t2s, mask_add]
def mix (A B : List Wo) (i : Nat) : List Wo := B.take i ++ A.drop i
theorem mix_len (A B : List Wo) (i : Nat) (h : A.length = B.length) : (mix A B i).length = B.length := by
  simp only [mix, List.length_append, List.length_take, List.length_drop]
  omega
theorem mix_get (A B : List Wo) (i : Nat) (h : A.length = B.length) (hi : i < B.length) : (mix A B i).getD i 0 = A.getD i 0 := by
  simp only [mix, List.getD_eq_getElem?_getD]
  rw [List.getElem?_append_right (by rw [List.length_take]; omega), List.length_take, Nat.min_eq_left (by omega), Nat.sub_self, List.getElem?_drop, Nat.add_zero]
theorem mix_set (A B : List Wo) (i : Nat) (h : A.length = B.length) (hi : i < B.length) : (mix A B i).set i (B.getD i 0) = mix A B (i + 1) := by
  have hA : i < A.length := by omega
  simp only [mix, List.getD_eq_getElem?_getD]
  rw [List.set_append_right _ _ (by rw [List.length_take]; omega), List.length_take, Nat.min_eq_left (by omega), Nat.sub_self, List.drop_eq_getElem_cons hA, List.set_cons_zero, List.take_add_one (l := B) (i := i), List.getElem?_eq_getElem hi]
  simp only [Option.getD_some, Option.toList_some, List.append_assoc, List.singleton_append]
theorem add_get (s t : S8) (i : Nat) (h : i < 8) : (s.add t).l.getD i 0 = s.l.getD i 0 + t.l.getD i 0 := by
  match i, h with
  | 0, _ => rfl
  | 1, _ => rfl
  | 2, _ => rfl
  | 3, _ => rfl
  | 4, _ => rfl
  | 5, _ => rfl
  | 6, _ => rfl
  | 7, _ => rfl
theorem l_0 (s : S8) : s.l.getD 0 0 = s.a := rfl
theorem l_1 (s : S8) : s.l.getD 1 0 = s.b := rfl
theorem l_2 (s : S8) : s.l.getD 2 0 = s.c := rfl
theorem l_3 (s : S8) : s.l.getD 3 0 = s.d := rfl
theorem l_4 (s : S8) : s.l.getD 4 0 = s.e := rfl
theorem l_5 (s : S8) : s.l.getD 5 0 = s.f := rfl
theorem l_6 (s : S8) : s.l.getD 6 0 = s.g := rfl
theorem l_7 (s : S8) : s.l.getD 7 0 = s.h := rfl
theorem blockI (own : Bool) (s : S8) (z : ByteArray) (hz : z.size = 64) : ∃ Z : AHeap, Sound Try.prog 12 [.sl 0 0 8 1, .sc (.string z)] [⟨ints .i64 (wis s.l), own, true⟩] (.sl 2 0 8 1) Z ∧ Z[0]? = some ⟨ints .i64 (wis s.l), own, true⟩ ∧ Z[2]? = some ⟨ints .i64 (wis (blk s z).l), true, true⟩ := by
  refine ⟨[⟨ints .i64 (wis s.l), own, true⟩, ⟨ints .i64 [], true, false⟩, ⟨ints .i64 (wis (blk s z).l), true, true⟩, ⟨ints .i64 (wis keys), true, true⟩, ⟨ints .i64 (wis (schd z)), true, true⟩, ⟨ints .i64 (wis (rnds (schd z) s 64).l), true, true⟩], ?_, rfl, rfl⟩
  refine Sound.run 154 [.tmp 4] Try.func12 rfl rfl rfl rfl (by simp) ?_
  have hl : (wis s.l).length = 8 := rfl
  have ht : (wis s.l).take 8 = wis s.l := List.take_of_length_le (by rw [hl]; decide)
  simp -implicitDefEqProofs only [↓w_seq, ↓w_region, ↓ops_cons, ↓g_assign, ↓ops_nil, ev_const, ↓g_buildSlice, Try.underlying26, List.map_nil, bs3_0, ↓g_move, ↓g_append, Nat.reduceLT, ev_tab, ne_eq, reduceCtorEq, not_false_eq_true, upd_ne, par0, Nat.reduceEqDiff, upd_eq, alK_some, ints_one, List.length_cons, List.length_nil, Nat.zero_add, List.cons_append, List.nil_append, apS26, List.getElem?_cons_succ, List.getElem?_cons_zero, src_sl, at_ints, hl, Nat.le_refl, List.drop_zero, ht, if_true, ap_ints, Nat.reduceMul, Nat.reduceLeDiff, and_self, Nat.reduceAdd, kill_s, kill_0, List.take_zero, onS_some, true_and]
  refine call1S (by simp -implicitDefEqProofs only [List.map_cons, Nat.reduceLT, ev_tab, upd_eq, ev_const, of_int, List.map_nil] <;> rfl) (wordsI (l := s.l) 8 (.inr ⟨0, own, rfl, rfl⟩) (show (8 : Nat) ≤ _ by decide)) ?_
  rw [decide_eq_true (show ((s.l.length : Nat) : Int) = 8 from rfl)]
  simp -implicitDefEqProofs only [↓ops_cons, ↓g_unOp, Nat.reduceLT, ev_tab, upd_eq, u_not, Bool.not_true, Option.map_some, ↓g_move, onS_some, yielded_tab, dstAt_s, dstAt_0, ybv_some, boolOf_b, ↓g_guard_t, ne_eq, Nat.reduceEqDiff, not_false_eq_true, upd_ne, par1, ↓g_len, Try.underlying9, len_str, hz, Int.cast_ofNat_Int, ↓g_binOp, ev_const, of_int, ↓g_pick, of_bool, pick_b, reduceCtorEq, if_false, ↓ops_nil, ↓w_cond, ↓w_seq, ↓w_region, ↓g_assign, ↓w_ret, ret_one, true_and, ↓w_skip, b_neq, decide_true, onB_false]
  refine call1 (by simp -implicitDefEqProofs only [List.map_nil] <;> rfl) keysI ?_
  simp -implicitDefEqProofs only [↓ops_cons, ↓g_alloc, zero78, Option.map_some, ↓g_store, Nat.reduceLT, ev_tab, upd_eq, ne_eq, Nat.reduceEqDiff, not_false_eq_true, upd_ne, ↓ops_nil, ↓w_seq, ↓w_region, ↓g_move, par1, alK_some, ints_one, List.length_cons, List.length_nil, Nat.zero_add, Nat.reduceAdd, List.cons_append, List.nil_append, wr_def, tyOk78, cells78, List.getElem?_cons_succ, List.getElem?_cons_zero, wis_len, keys_len, List.length_replicate, wrA, List.set_cons_succ, List.set_cons_zero, onS_some, true_and]
  refine call1 (by simp -implicitDefEqProofs only [List.map_cons, Nat.reduceLT, ev_tab, upd_eq, List.map_nil] <;> rfl) (schedI z hz) ?_
  simp -implicitDefEqProofs only [↓ops_cons, ↓g_alloc, zero78, Option.map_some, ↓g_store, Nat.reduceLT, ev_tab, upd_eq, ne_eq, Nat.reduceEqDiff, not_false_eq_true, upd_ne, ↓ops_nil, ↓w_seq, alK_some, ints_one, List.length_cons, List.length_nil, Nat.zero_add, Nat.reduceAdd, List.cons_append, List.nil_append, wr_def, tyOk78, cells78, List.getElem?_cons_succ, List.getElem?_cons_zero, wis_len, schd_len, List.length_replicate, wrA, List.set_cons_succ, List.set_cons_zero, onS_some, true_and]
  refine drawn [(2, 0), (5, 0), (8, 0), (11, 0), (14, 0), (17, 0), (20, 0), (23, 0)] follows (by kernel_rfl) (by kernel_rfl) ?_
  simp -implicitDefEqProofs only [↓dops_cons, ↓g_move, ↓g_indexAddr, Try.underlying26, Nat.reduceLT, ev_tab, ne_eq, Nat.reduceEqDiff, not_false_eq_true, upd_ne, upd_eq, ev_const, of_int, adr_sl, Int.reduceLE, Int.cast_ofNat_Int, Int.reduceLT, cells3, tyOk3, and_self, Int.toNat_zero, Nat.mul_one, Nat.zero_add, if_true, ↓g_load, Int.reduceToNat, ↓g_assign, ↓dops_p, ↓w_seq, ↓w_region, ↓ops_cons, ↓ops_nil, ↓w_block, onS_some, rd_def, agg3, List.getElem?_cons_succ, List.getElem?_cons_zero, rd_ints, hl, wis_get, l_7, l_6, l_5, l_4, l_3, l_2, l_1, l_0]
  refine ⟨pairs_cons (same_H rfl) (pairs_cons (same_H rfl) (pairs_cons (same_H rfl) (pairs_cons (same_H rfl) (pairs_cons (same_H rfl) (pairs_cons (same_H rfl) (pairs_cons (same_H rfl) (pairs_cons (same_H rfl) (pairs_nil)))))))), ?_⟩
  obtain ⟨R, hR0, hRs, hR6⟩ : ∃ R : Nat → S8, R 0 = s ∧ (∀ n, R (n + 1) = rnd (R n) (keys.getD n 0) ((schd z).getD n 0)) ∧ R 64 = rnds (schd z) s 64 := ⟨rnds (schd z) s, rfl, fun _ => rfl, rfl⟩
  refine w_loop (ι := Nat) (fun n st => ∃ T : Nat → AV, st = ⟨tab 154 T, [⟨ints .i64 (wis s.l), own, true⟩, ⟨ints .i64 [], true, false⟩, ⟨ints .i64 (wis s.l), true, true⟩, ⟨ints .i64 (wis keys), true, true⟩, ⟨ints .i64 (wis (schd z)), true, true⟩]⟩ ∧ n ≤ 64 ∧
    T 5 = .sl 2 0 8 1 ∧ T 6 = .ptr 3 0 ∧ T 7 = .ptr 4 0 ∧ T 8 = .sc (.int .i64 (wi (R n).a)) ∧ T 9 = .sc (.int .i64 (wi (R n).b)) ∧ T 10 = .sc (.int .i64 (wi (R n).c)) ∧ T 11 = .sc (.int .i64 (wi (R n).d)) ∧ T 12 = .sc (.int .i64 (wi (R n).e)) ∧ T 13 = .sc (.int .i64 (wi (R n).f)) ∧ T 14 = .sc (.int .i64 (wi (R n).g)) ∧ T 15 = .sc (.int .i64 (wi (R n).h)) ∧ T 16 = .sc (.int .i64 n)) (fun n => 64 - n) ?_ (i := 0) ?_
  · rintro n st ⟨T, rfl, b1, b2, b3, b4, c0, c1, c2, c3, c4, c5, c6, c7, b5⟩
    by_cases h : n < 64
    · have k1 : (n : Int) < 64 := by omega
      have k0 : (0 : Int) ≤ n := by omega
      have e1 : IntKind.i64.wrap ((n : Int) + 1) = n + 1 := w64 (by omega) (by omega)
      simp -implicitDefEqProofs only [↓w_seq, ↓w_region, ↓ops_cons, ↓g_move, ↓g_binOp, Nat.reduceLT, ev_tab, b5, upd_eq, ev_const, of_int, b_lss, k1, decide_true, ↓ops_nil, ↓w_cond, ↓w_skip, ↓w_block, ne_eq, Nat.reduceEqDiff, not_false_eq_true, upd_ne, c4, ↓w_exit, ↓g_buildSlice, Try.underlying26, c0, c1, c2, c3, c5, c6, c7, List.map_cons, List.map_nil, bs3_8, ↓g_len, alK_some, ints_one, List.length_cons, List.length_nil, Nat.zero_add, Nat.reduceAdd, len_sl, Int.cast_ofNat_Int, List.cons_append, List.nil_append, onS_some, true_and, if_true, onB_true]
      refine call1 (by simp -implicitDefEqProofs only [List.map_cons, Nat.reduceLT, ev_tab, upd_eq, ev_const, of_int, List.map_nil, Int.cast_ofNat_Int] <;> rfl) (rotI _ 6 (by decide) (by decide)) ?_
      simp -implicitDefEqProofs only [↓ops_cons, ↓g_move, Nat.reduceLT, ev_tab, ne_eq, Nat.reduceEqDiff, not_false_eq_true, upd_ne, c4]
      refine call1 (by simp -implicitDefEqProofs only [List.map_cons, Nat.reduceLT, ev_tab, upd_eq, ev_const, of_int, List.map_nil, Int.cast_ofNat_Int] <;> rfl) (rotI _ 11 (by decide) (by decide)) ?_
      simp -implicitDefEqProofs only [↓ops_cons, ↓g_binOp, Nat.reduceLT, ev_tab, ne_eq, Nat.reduceEqDiff, not_false_eq_true, upd_ne, upd_eq, b_xor, xor_i, ↓g_move, c4, onS_some]
      refine call1 (by simp -implicitDefEqProofs only [List.map_cons, Nat.reduceLT, ev_tab, upd_eq, ev_const, of_int, List.map_nil, Int.cast_ofNat_Int] <;> rfl) (rotI _ 25 (by decide) (by decide)) ?_
      simp -implicitDefEqProofs only [↓ops_cons, ↓g_binOp, Nat.reduceLT, ev_tab, ne_eq, Nat.reduceEqDiff, not_false_eq_true, upd_ne, upd_eq, b_xor, xor_i, ↓g_assign, ↓ops_nil, ↓w_seq, onS_some]
      refine drawn [(14, 0), (18, 0)] follows (by kernel_rfl) (by kernel_rfl) ?_
      simp -implicitDefEqProofs only [↓dops_cons, ↓g_move, ↓g_binOp, Nat.reduceLT, ev_tab, ne_eq, Nat.reduceEqDiff, not_false_eq_true, upd_ne, c7, upd_eq, b_add, t2s, c4, c5, b_and, and_i, ev_const, of_int, b_xor, not_l, c6, ↓g_indexAddr, Try.underlying78, b5, b3, adr_arr, k0, Int.cast_ofNat_Int, k1, tyOk3, and_self, Int.toNat_natCast, cells3, Nat.mul_one, Nat.zero_add, if_true, ↓g_load, b4, ↓g_assign, ↓dops_p, ↓w_seq, ↓w_region, ↓ops_cons, c0, onS_some, rd_def, agg3, List.getElem?_cons_succ, List.getElem?_cons_zero, rd_ints, wis_len, schd_len, h, wis_get, keys_len, xor_i, t3s, t4s, t5s]
      refine ⟨pairs_cons (same_H rfl) (pairs_cons (same_H rfl) (pairs_nil)), ?_⟩
      refine call1 (by simp -implicitDefEqProofs only [List.map_cons, Nat.reduceLT, ev_tab, upd_eq, ev_const, of_int, List.map_nil, Int.cast_ofNat_Int] <;> rfl) (rotI _ 2 (by decide) (by decide)) ?_
      simp -implicitDefEqProofs only [↓ops_cons, ↓g_move, Nat.reduceLT, ev_tab, ne_eq, Nat.reduceEqDiff, not_false_eq_true, upd_ne, c0]
      refine call1 (by simp -implicitDefEqProofs only [List.map_cons, Nat.reduceLT, ev_tab, upd_eq, ev_const, of_int, List.map_nil, Int.cast_ofNat_Int] <;> rfl) (rotI _ 13 (by decide) (by decide)) ?_
      simp -implicitDefEqProofs only [↓ops_cons, ↓g_binOp, Nat.reduceLT, ev_tab, ne_eq, Nat.reduceEqDiff, not_false_eq_true, upd_ne, upd_eq, b_xor, xor_i, ↓g_move, c0, onS_some]
      refine call1 (by simp -implicitDefEqProofs only [List.map_cons, Nat.reduceLT, ev_tab, upd_eq, ev_const, of_int, List.map_nil, Int.cast_ofNat_Int] <;> rfl) (rotI _ 22 (by decide) (by decide)) ?_
      simp -implicitDefEqProofs only [↓ops_cons, ↓g_binOp, Nat.reduceLT, ev_tab, ne_eq, Nat.reduceEqDiff, not_false_eq_true, upd_ne, upd_eq, b_xor, xor_i, ↓g_move, c0, c1, b_and, and_i, c2, ↓g_assign, ↓ops_nil, ↓w_seq, ↓w_region, c6, c5, c4, c3, b_add, ev_const, of_int, b5, e1, onS_some, i64_maskA, md6, t2s, md7]
      refine ⟨n + 1, by omega, _, rfl, by omega, ?_, ?_, ?_, ?_, ?_, ?_, ?_, ?_, ?_, ?_, ?_, ?_⟩ <;> simp -implicitDefEqProofs only [ne_eq, Nat.reduceEqDiff, not_false_eq_true, upd_ne, b2, b3, b4, upd_eq, hRs] <;> rfl
    · have k1 : ¬ (n : Int) < 64 := by omega
      have hn : n = 64 := by omega
      subst hn
      simp -implicitDefEqProofs only [↓w_seq, ↓w_region, Nat.reduceSub, ↓ops_cons, ↓g_move, ↓g_binOp, Nat.reduceLT, ev_tab, b5, Int.cast_ofNat_Int, upd_eq, ev_const, of_int, b_lss, Int.reduceLT, decide_false, ↓ops_nil, ↓w_cond, ↓w_skip, ↓w_block, ne_eq, Nat.reduceEqDiff, not_false_eq_true, upd_ne, c4, ↓w_exit, ↓g_buildSlice, Try.underlying26, c0, c1, c2, c3, c5, c6, c7, List.map_cons, List.map_nil, bs3_8, ↓g_len, alK_some, ints_one, List.length_cons, List.length_nil, Nat.zero_add, Nat.reduceAdd, len_sl, List.cons_append, List.nil_append, onS_some, true_and, if_true, onB_false]
      have hR : ints .i64 [wi (R 64).a, wi (R 64).b, wi (R 64).c, wi (R 64).d, wi (R 64).e, wi (R 64).f, wi (R 64).g, wi (R 64).h] = ints .i64 (wis (R 64).l) := rfl
      rw [hR]
      generalize hr : R 64 = r at *
      have hB : (blk s z) = s.add r := by rw [blk, ← hR6]
      rw [← hR6]
      rw [hB]
      have hrl : (wis r.l).length = 8 := rfl
      have hA : s.l.length = (s.add r).l.length := rfl
      refine w_loop (ι := Nat) (fun i st => ∃ T : Nat → AV, st = ⟨tab 154 T, [⟨ints .i64 (wis s.l), own, true⟩, ⟨ints .i64 [], true, false⟩, ⟨ints .i64 (wis (mix s.l (s.add r).l i)), true, true⟩, ⟨ints .i64 (wis keys), true, true⟩, ⟨ints .i64 (wis (schd z)), true, true⟩, ⟨ints .i64 (wis r.l), true, true⟩]⟩ ∧ i ≤ 8 ∧
        T 5 = .sl 2 0 8 1 ∧ T 135 = .sl 5 0 8 1 ∧ T 136 = .sc (.int .i64 8) ∧ T 137 = .sc (.int .i64 i)) (fun i => 8 - i) ?_ (i := 0) ?_
      · rintro i st ⟨T, rfl, d1, d2, d3, d4, d5⟩
        by_cases hi : i < 8
        · have j1 : (i : Int) < 8 := by omega
          have j0 : (0 : Int) ≤ i := by omega
          have e1 : IntKind.i64.wrap ((i : Int) + 1) = i + 1 := w64 (by omega) (by omega)
          have hm : (mix s.l (s.add r).l i).length = 8 := mix_len _ _ i hA
          have hg : (mix s.l (s.add r).l i).getD i 0 = s.l.getD i 0 := mix_get _ _ i hA hi
          have hs := mix_set s.l (s.add r).l i hA hi
          rw [add_get s r i hi] at hs
          simp -implicitDefEqProofs only [↓w_seq, ↓w_region, ↓ops_cons, ↓g_binOp, Nat.reduceLT, ev_tab, d5, d4, b_lss, j1, decide_true, ↓ops_nil, ↓w_cond, upd_eq, ↓w_skip, ↓w_block, ↓g_move, ↓g_indexAddr, Try.underlying26, ne_eq, Nat.reduceEqDiff, not_false_eq_true, upd_ne, d3, adr_sl, j0, Int.cast_ofNat_Int, cells3, tyOk3, and_self, Int.toNat_natCast, Nat.mul_one, Nat.zero_add, if_true, ↓g_load, ↓g_assign, d2, ev_const, of_int, ↓g_store, b_add, e1, onS_some, wr_def, List.getElem?_cons_succ, List.getElem?_cons_zero, rd_def, agg3, rd_ints, wis_len, hm, hi, wis_get, hg, hrl, b_and, i64_maskA, md2, wr_ints, wis_set, hs, List.set_cons_succ, List.set_cons_zero, ↓w_exit, ↓w_ret, ret_one, true_and, onB_true]
          refine ⟨i + 1, by omega, _, rfl, by omega, ?_, ?_, ?_, ?_⟩ <;> simp -implicitDefEqProofs only [ne_eq, Nat.reduceEqDiff, not_false_eq_true, upd_ne, d2, d3, d4, upd_eq] <;> rfl
        · have j1 : ¬ (i : Int) < 8 := by omega
          have hn : i = 8 := by omega
          subst hn
          simp -implicitDefEqProofs only [↓w_seq, ↓w_region, Nat.reduceSub, ↓ops_cons, ↓g_binOp, Nat.reduceLT, ev_tab, d5, Int.cast_ofNat_Int, d4, b_lss, Int.reduceLT, decide_false, ↓ops_nil, ↓w_cond, upd_eq, ↓w_skip, ↓w_block, ↓g_move, ↓g_indexAddr, Try.underlying26, ne_eq, Nat.reduceEqDiff, not_false_eq_true, upd_ne, d3, adr_sl, Int.reduceLE, cells3, tyOk3, and_self, and_true, and_false, Int.reduceToNat, Nat.mul_one, Nat.zero_add, if_false, ↓g_load, ↓g_assign, d2, ev_const, of_int, ↓g_store, b_add, Int.reduceAdd, onS_some, ↓w_exit, ↓w_ret, ret_one, true_and, if_true, onB_false]
          rfl
      · refine ⟨_, rfl, by omega, ?_, ?_, ?_, ?_⟩ <;> simp -implicitDefEqProofs only [ne_eq, Nat.reduceEqDiff, not_false_eq_true, upd_ne, b2, upd_eq, Int.cast_ofNat_Int] <;> rfl
  · refine ⟨_, rfl, by omega, ?_, ?_, ?_, ?_, ?_, ?_, ?_, ?_, ?_, ?_, ?_, ?_⟩ <;> simp -implicitDefEqProofs only [ne_eq, Nat.reduceEqDiff, not_false_eq_true, upd_ne, upd_eq, hR0, Int.cast_ofNat_Int] <;> rfl
end Go.Proofs.Ytknmbiebnpojjaa.Sim
namespace Go.Proofs.Ytknmbiebnpojjaa.Sim
open Go
set_option maxRecDepth 100000
set_option maxHeartbeats 4000000
set_option linter.unusedSimpArgs false
set_option linter.unusedVariables false
theorem keysS : Fn Try.prog 70 [] (.agg (ints .u32 (wis keys))) := by
  refine Fn.run 2 [.cell 0 88] Try.func70 rfl rfl rfl rfl (by simp) flats_nil (flat_ints _ _) ?_
  simp -implicitDefEqProofs only [↓w_seq, ↓w_region, ↓ops_cons, ↓g_alloc, zero88, Option.map_some, ↓ops_nil, ↓g_buildV, List.map_cons, ev_const, of_int, List.map_nil, ↓g_store, Nat.reduceLT, ev_tab, ne_eq, reduceCtorEq, not_false_eq_true, upd_ne, upd_eq, ↓w_ret, ret_cell, alK_some, ints_one, List.length_nil, List.nil_append, wr_def, tyOk88, cells88, List.getElem?_cons_zero, rd_def, agg88, true_and]
  refine onS_of (v := .agg (ints .u32 (wis keys))) (by kernel_rfl) ?_
  simp -implicitDefEqProofs only [wis_len, keys_len, List.length_replicate, wrA, List.set_cons_zero, onS_some, List.getElem?_cons_zero, rdA]
theorem firstS : Fn Try.prog 69 [] (.agg (ints .u32 (wis start.l))) := by
  refine Fn.run 2 [.cell 0 86] Try.func69 rfl rfl rfl rfl (by simp) flats_nil (flat_ints _ _) ?_
  have h : ints .u32 [1779033703, 3144134277, 1013904242, 2773480762, 1359893119, 2600822924, 528734635, 1541459225] = ints .u32 (wis start.l) := rfl
  simp -implicitDefEqProofs only [↓w_seq, ↓w_region, ↓ops_cons, ↓g_alloc, zero86, Option.map_some, ↓ops_nil, ↓g_buildV, List.map_cons, ev_const, of_int, List.map_nil, bd86, h, ↓g_store, Nat.reduceLT, ev_tab, ne_eq, reduceCtorEq, not_false_eq_true, upd_ne, upd_eq, ↓w_ret, ret_cell, onS_some, alK_some, ints_one, List.length_nil, List.nil_append, wr_def, tyOk86, cells86, List.getElem?_cons_zero, rd_def, agg86, true_and]
  rfl
theorem u_byte (z : ByteArray) (j : Nat) : IntKind.u32.wrap (byteAt z j) = wi (bw z j) := by
  have := byte_range z j
  rw [wu32 (by omega) (by omega), wi_bw]
theorem u_shl (x : Wo) (k : Nat) : IntKind.u32.wrap (wi x * 2 ^ k) = wi (x <<< k) := by rw [IntKind.wrap_u32]; exact shl_w x k
theorem u_shl24 (x : Wo) : IntKind.u32.wrap (wi x * 16777216) = wi (x <<< 24) := u_shl x 24
theorem u_shl16 (x : Wo) : IntKind.u32.wrap (wi x * 65536) = wi (x <<< 16) := u_shl x 16
theorem u_shl8 (x : Wo) : IntKind.u32.wrap (wi x * 256) = wi (x <<< 8) := u_shl x 8
def R8 (s : S8) : List Int := [wi s.a, wi s.b, wi s.c, wi s.d, wi s.e, wi s.f, wi s.g, wi s.h]
theorem blockS (s : S8) (z : ByteArray) (hz : z.size = 64) : Fn Try.prog 72 [.agg (ints .u32 (wis s.l)), .sc (.string z), .agg (ints .u32 (wis keys))] (.agg (ints .u32 (wis (blk s z).l))) := by
  refine Fn.run 224 [.cell 6 86] Try.func72 rfl rfl rfl rfl (by simp) (flats_cons (flat_ints _ _) (flats_cons (.sc _) (flats_cons (flat_ints _ _) flats_nil))) (flat_ints _ _) ?_
  have hl : (wis s.l).length = 8 := rfl
  simp -implicitDefEqProofs only [↓w_seq, ↓w_region, ↓ops_cons, ↓g_box, Nat.reduceLT, ev_tab, par0, cells_agg, ne_eq, Nat.reduceEqDiff, not_false_eq_true, upd_ne, par2, ↓g_alloc, zero86, Option.map_some, ↓ops_nil, ↓g_buildV, List.map_nil, bz88, zero88, ↓g_store, upd_eq, ↓g_assign, ↓w_block, ev_const, of_int, alK_some, ints_one, wr_def, tyOk88, cells88, at_end, true_and, onS_some, List.length_replicate, wrA, List.length_append, List.length_cons, List.length_nil, Nat.zero_add, List.nil_append, Nat.reduceAdd, List.cons_append, List.set_cons_succ, List.set_cons_zero]
  have z0 : ints .u32 (List.replicate 64 0) = ints .u32 (wis (pre z 0)) := by rw [wis_rep]; rfl
  refine w_loop (ι := Nat) (fun i st => ∃ T : Nat → AV, st = ⟨tab 224 T, [⟨ints .u32 (wis s.l), true, true⟩, ⟨ints .u32 (wis keys), true, true⟩, ⟨ints .u32 (List.replicate 8 0), true, true⟩, ⟨ints .u32 (wis (pre z i)), true, true⟩]⟩ ∧ i ≤ 16 ∧ T 1 = .sc (.string z) ∧ T 3 = .ptr 0 0 ∧ T 5 = .ptr 1 0 ∧ T 6 = .ptr 2 0 ∧ T 7 = .ptr 3 0 ∧ T 8 = .sc (.int .i64 i)) (fun i => 16 - i) ?_ (i := 0) ?_
  · rintro i st ⟨T, rfl, a1, a2, a3, a4, a5, a6, a7⟩
    by_cases h : i < 16
    · have k1 : (i : Int) < 16 := by omega
      have k0 : ∀ j : Nat, (0 : Int) ≤ (j : Int) := fun j => by omega
      have e1 : IntKind.i64.wrap ((i : Int) + 1) = i + 1 := w64 (by omega) (by omega)
      have f0 : IntKind.i64.wrap (4 * (i : Int)) = ((4 * i : Nat) : Int) := by rw [w64 (by omega) (by omega)]; omega
      have f1 : IntKind.i64.wrap (((4 * i : Nat) : Int) + 1) = ((4 * i + 1 : Nat) : Int) := by rw [w64 (by omega) (by omega)]; omega
      have f2 : IntKind.i64.wrap (((4 * i : Nat) : Int) + 2) = ((4 * i + 2 : Nat) : Int) := by rw [w64 (by omega) (by omega)]; omega
      have f3 : IntKind.i64.wrap (((4 * i : Nat) : Int) + 3) = ((4 * i + 3 : Nat) : Int) := by rw [w64 (by omega) (by omega)]; omega
      have g0 : 4 * i < 64 := by omega
      have g1 : 4 * i + 1 < 64 := by omega
      have g2 : 4 * i + 2 < 64 := by omega
      have g3 : 4 * i + 3 < 64 := by omega
      have l6 : i < 64 := by omega
      have l7 : (i : Int) < 64 := by omega
      have hp : (pre z i).length = 64 := pre_len z i (by omega)
      have hps := pre_set z i (by omega)
      rw [wd_or] at hps
      simp -implicitDefEqProofs only [↓w_seq, ↓w_region, ↓ops_cons, ↓g_move, ↓g_binOp, Nat.reduceLT, ev_tab, a7, upd_eq, ev_const, of_int, b_lss, k1, decide_true, ↓ops_nil, ↓w_cond, ↓w_skip, ↓w_block, ↓w_exit, ↓g_assign, if_true, onS_some, onB_true]
      refine drawn [] follows (by kernel_rfl) (by kernel_rfl) ?_
      simp -implicitDefEqProofs only [↓dops_cons, ↓g_move, ↓g_binOp, Nat.reduceLT, ev_tab, ne_eq, Nat.reduceEqDiff, not_false_eq_true, upd_ne, a7, a2, ev_const, of_int, upd_eq, b_mul, f0, ↓g_index, Try.underlying9, ↓g_convert, Try.underlying5, Try.underlying85, ↓g_indexAddr, Try.underlying88, a6, adr_arr, k0, Int.cast_ofNat_Int, l7, tyOk85, and_self, Int.toNat_natCast, cells85, Nat.mul_one, Nat.zero_add, if_true, ↓g_store, ↓dops_0, ↓w_region, ↓ops_cons, b_add, e1, ↓g_assign, ↓ops_nil, onS_some, wr_def, f3, idx_str, hz, g3, c_int, u_byte, f2, g2, b_shl, Int.reduceLT, Int.reduceToNat, bits_u32, Nat.reduceLeDiff, Nat.min_eq_left, Int.reducePow, u_shl8, if_false, f1, g1, u_shl16, g0, u_shl24, List.getElem?_cons_succ, List.getElem?_cons_zero, b_or, or_u, wr_ints, wis_len, hp, l6, wis_set, hps, List.set_cons_succ, List.set_cons_zero]
      refine ⟨i + 1, by omega, _, rfl, by omega, ?_, ?_, ?_, ?_, ?_, ?_⟩ <;> simp -implicitDefEqProofs only [ne_eq, Nat.reduceEqDiff, not_false_eq_true, upd_ne, a2, a3, a4, a5, a6, upd_eq] <;> rfl
    · have k1 : ¬ (i : Int) < 16 := by omega
      have hi : i = 16 := by omega
      subst hi
      simp -implicitDefEqProofs only [↓w_seq, ↓w_region, Nat.reduceSub, ↓ops_cons, ↓g_move, ↓g_binOp, Nat.reduceLT, ev_tab, a7, Int.cast_ofNat_Int, upd_eq, ev_const, of_int, b_lss, Int.reduceLT, decide_false, ↓ops_nil, ↓w_cond, ↓w_skip, ↓w_block, ↓w_exit, ↓g_assign, if_true, onS_some, onB_false]
      refine w_loop (ι := Nat) (fun n st => ∃ T : Nat → AV, st = ⟨tab 224 T, [⟨ints .u32 (wis s.l), true, true⟩, ⟨ints .u32 (wis keys), true, true⟩, ⟨ints .u32 (List.replicate 8 0), true, true⟩, ⟨ints .u32 (wis (schN (pre z 16) n)), true, true⟩]⟩ ∧ n ≤ 48 ∧ T 3 = .ptr 0 0 ∧ T 5 = .ptr 1 0 ∧ T 6 = .ptr 2 0 ∧ T 7 = .ptr 3 0 ∧ T 9 = .sc (.int .i64 ((16 + n : Nat) : Int))) (fun n => 48 - n) ?_ (i := 0) ?_
      · rintro n st ⟨T, rfl, b1, b3, b4, b5, b6, b7⟩
        have hp : (schN (pre z 16) n).length = 64 := by rw [schN_len, pre_len z 16 (by decide)]
        by_cases h : n < 48
        · have l1 : ((16 + n : Nat) : Int) < 64 := by omega
          have l15 : IntKind.i64.wrap (((16 + n : Nat) : Int) - 15) = ((16 + n - 15 : Nat) : Int) := by rw [w64 (by omega) (by omega)]; omega
          have l2 : IntKind.i64.wrap (((16 + n : Nat) : Int) - 2) = ((16 + n - 2 : Nat) : Int) := by rw [w64 (by omega) (by omega)]; omega
          have l16 : IntKind.i64.wrap (((16 + n : Nat) : Int) - 16) = ((16 + n - 16 : Nat) : Int) := by rw [w64 (by omega) (by omega)]; omega
          have l7 : IntKind.i64.wrap (((16 + n : Nat) : Int) - 7) = ((16 + n - 7 : Nat) : Int) := by rw [w64 (by omega) (by omega)]; omega
          have m0 : ∀ j : Nat, (0 : Int) ≤ (j : Int) := fun j => by omega
          have m15 : ((16 + n - 15 : Nat) : Int) < 64 := by omega
          have m2 : ((16 + n - 2 : Nat) : Int) < 64 := by omega
          have m16 : ((16 + n - 16 : Nat) : Int) < 64 := by omega
          have m7 : ((16 + n - 7 : Nat) : Int) < 64 := by omega
          have n0 : 16 + n < 64 := by omega
          have n15 : 16 + n - 15 < 64 := by omega
          have n2 : 16 + n - 2 < 64 := by omega
          have n16 : 16 + n - 16 < 64 := by omega
          have n7 : 16 + n - 7 < 64 := by omega
          have e1 : IntKind.i64.wrap (((16 + n : Nat) : Int) + 1) = ((16 + (n + 1) : Nat) : Int) := by rw [w64 (by omega) (by omega)]; omega
          simp -implicitDefEqProofs only [↓w_seq, ↓w_region, ↓ops_cons, ↓g_move, ↓g_binOp, Nat.reduceLT, ev_tab, b7, upd_eq, ev_const, of_int, b_lss, l1, decide_true, ↓ops_nil, ↓w_cond, ↓w_skip, ↓w_block, ↓w_exit, ↓g_load, ne_eq, Nat.reduceEqDiff, not_false_eq_true, upd_ne, b3, rd_def, tyOk86, agg86, cells86, List.getElem?_cons_zero, ↓g_alloc, zero86, Option.map_some, ↓g_store, ↓g_assign, alK_some, ints_one, List.length_cons, List.length_nil, Nat.zero_add, Nat.reduceAdd, List.cons_append, List.nil_append, wr_def, List.getElem?_cons_succ, true_and, if_true, onS_some, onB_true]
          refine drawn [(3, 0), (8, 0), (8, 5), (14, 0), (14, 5), (14, 10)] follows (by kernel_rfl) (by kernel_rfl) ?_
          simp -implicitDefEqProofs only [↓dops_cons, ↓g_move, ↓g_binOp, Nat.reduceLT, ev_tab, ne_eq, Nat.reduceEqDiff, not_false_eq_true, upd_ne, b7, upd_eq, ev_const, of_int, b_sub, l15, ↓g_indexAddr, Try.underlying88, b6, ↓g_load, onS_some, adr_arr, m0, Int.cast_ofNat_Int, m15, tyOk85, and_self, Int.toNat_natCast, cells85, Nat.mul_one, Nat.zero_add, if_true, rd_def, agg85, List.getElem?_cons_succ, List.getElem?_cons_zero, rd_ints, wis_len, hp, n15, wis_get]
          refine call1 (by simp -implicitDefEqProofs only [List.map_cons, Nat.reduceLT, ev_tab, upd_eq, ev_const, of_int, List.map_nil, Int.cast_ofNat_Int] <;> rfl) (rotU _ 7 (by decide) (by decide)) ?_
          simp -implicitDefEqProofs only [↓dops_cons, ↓g_move, ↓g_binOp, Nat.reduceLT, ev_tab, ne_eq, Nat.reduceEqDiff, not_false_eq_true, upd_ne, b7, upd_eq, ev_const, of_int, b_sub, l15, ↓g_indexAddr, Try.underlying88, b6, ↓g_load, onS_some, adr_arr, m0, Int.cast_ofNat_Int, m15, tyOk85, and_self, Int.toNat_natCast, cells85, Nat.mul_one, Nat.zero_add, if_true, rd_def, agg85, List.getElem?_cons_succ, List.getElem?_cons_zero, rd_ints, wis_len, hp, n15, wis_get]
          refine call1 (by simp -implicitDefEqProofs only [List.map_cons, Nat.reduceLT, ev_tab, upd_eq, ev_const, of_int, List.map_nil, Int.cast_ofNat_Int] <;> rfl) (rotU _ 18 (by decide) (by decide)) ?_
          simp -implicitDefEqProofs only [↓dops_cons, ↓g_binOp, Nat.reduceLT, ev_tab, ne_eq, Nat.reduceEqDiff, not_false_eq_true, upd_ne, upd_eq, b_xor, xor_u, ↓g_move, b7, ev_const, of_int, b_sub, l15, ↓g_indexAddr, Try.underlying88, b6, ↓g_load, ↓g_assign, ↓dops_p, ↓w_seq, onS_some, adr_arr, m0, Int.cast_ofNat_Int, m15, tyOk85, and_self, Int.toNat_natCast, cells85, Nat.mul_one, Nat.zero_add, if_true, rd_def, agg85, List.getElem?_cons_succ, List.getElem?_cons_zero, rd_ints, wis_len, hp, n15, wis_get, b_shr, Int.reduceLT, Int.reduceToNat, bits_u32, Nat.reduceLeDiff, Nat.min_eq_left, Int.reducePow, sh3, if_false]
          refine ⟨pairs_cons (same_H rfl) (pairs_cons (same_H rfl) (pairs_cons (same_H rfl) (pairs_cons (same_H rfl) (pairs_cons (same_H rfl) (pairs_cons (same_H rfl) (pairs_nil)))))), ?_⟩
          refine drawn [(3, 0), (8, 0), (8, 5), (14, 0), (14, 5), (14, 10)] follows (by kernel_rfl) (by kernel_rfl) ?_
          simp -implicitDefEqProofs only [↓dops_cons, ↓g_move, ↓g_binOp, Nat.reduceLT, ev_tab, ne_eq, Nat.reduceEqDiff, not_false_eq_true, upd_ne, b7, upd_eq, ev_const, of_int, b_sub, l2, ↓g_indexAddr, Try.underlying88, b6, ↓g_load, onS_some, adr_arr, m0, Int.cast_ofNat_Int, m2, tyOk85, and_self, Int.toNat_natCast, cells85, Nat.mul_one, Nat.zero_add, if_true, rd_def, agg85, List.getElem?_cons_succ, List.getElem?_cons_zero, rd_ints, wis_len, hp, n2, wis_get]
          refine call1 (by simp -implicitDefEqProofs only [List.map_cons, Nat.reduceLT, ev_tab, upd_eq, ev_const, of_int, List.map_nil, Int.cast_ofNat_Int] <;> rfl) (rotU _ 17 (by decide) (by decide)) ?_
          simp -implicitDefEqProofs only [↓dops_cons, ↓g_move, ↓g_binOp, Nat.reduceLT, ev_tab, ne_eq, Nat.reduceEqDiff, not_false_eq_true, upd_ne, b7, upd_eq, ev_const, of_int, b_sub, l2, ↓g_indexAddr, Try.underlying88, b6, ↓g_load, onS_some, adr_arr, m0, Int.cast_ofNat_Int, m2, tyOk85, and_self, Int.toNat_natCast, cells85, Nat.mul_one, Nat.zero_add, if_true, rd_def, agg85, List.getElem?_cons_succ, List.getElem?_cons_zero, rd_ints, wis_len, hp, n2, wis_get]
          refine call1 (by simp -implicitDefEqProofs only [List.map_cons, Nat.reduceLT, ev_tab, upd_eq, ev_const, of_int, List.map_nil, Int.cast_ofNat_Int] <;> rfl) (rotU _ 19 (by decide) (by decide)) ?_
          simp -implicitDefEqProofs only [↓dops_cons, ↓g_binOp, Nat.reduceLT, ev_tab, ne_eq, Nat.reduceEqDiff, not_false_eq_true, upd_ne, upd_eq, b_xor, xor_u, ↓g_move, b7, ev_const, of_int, b_sub, l2, ↓g_indexAddr, Try.underlying88, b6, ↓g_load, ↓g_assign, ↓dops_p, onS_some, adr_arr, m0, Int.cast_ofNat_Int, m2, tyOk85, and_self, Int.toNat_natCast, cells85, Nat.mul_one, Nat.zero_add, if_true, rd_def, agg85, List.getElem?_cons_succ, List.getElem?_cons_zero, rd_ints, wis_len, hp, n2, wis_get, b_shr, Int.reduceLT, Int.reduceToNat, bits_u32, Nat.reduceLeDiff, Nat.min_eq_left, Int.reducePow, sh10, if_false]
          refine ⟨pairs_cons (same_H rfl) (pairs_cons (same_H rfl) (pairs_cons (same_H rfl) (pairs_cons (same_H rfl) (pairs_cons (same_H rfl) (pairs_cons (same_H rfl) (pairs_nil)))))), ?_⟩
          refine drawn [(4, 0), (10, 0)] follows (by kernel_rfl) (by kernel_rfl) ?_
          simp -implicitDefEqProofs only [↓dops_cons, ↓g_move, ↓g_binOp, Nat.reduceLT, ev_tab, ne_eq, Nat.reduceEqDiff, not_false_eq_true, upd_ne, b7, upd_eq, ev_const, of_int, b_sub, l16, ↓g_indexAddr, Try.underlying88, b6, ↓g_load, l7, adr_arr, m0, Int.cast_ofNat_Int, l1, tyOk85, and_self, Int.toNat_natCast, cells85, Nat.mul_one, Nat.zero_add, if_true, ↓g_store, ↓dops_p, ↓w_region, ↓ops_cons, b_add, e1, ↓g_assign, ↓ops_nil, onS_some, wr_def, List.getElem?_cons_succ, List.getElem?_cons_zero, m7, rd_def, agg85, rd_ints, wis_len, hp, n7, wis_get, m16, n16, add_u, wr_ints, n0, wis_set, List.set_cons_succ, List.set_cons_zero]
          refine ⟨pairs_cons (same_H rfl) (pairs_cons (same_H rfl) (pairs_nil)), ?_⟩
          refine ⟨n + 1, by omega, _, congrArg (St.mk _) (by rw [schN, wstep, sl0, sl1]), by omega, ?_, ?_, ?_, ?_, ?_⟩ <;> simp -implicitDefEqProofs only [ne_eq, Nat.reduceEqDiff, not_false_eq_true, upd_ne, b3, b4, b5, b6, upd_eq] <;> rfl
        · have l1 : ¬ ((16 + n : Nat) : Int) < 64 := by omega
          have hn : n = 48 := by omega
          subst hn
          have hsd : schN (pre z 16) 48 = schd z := rfl
          rw [hsd] at hp
          simp -implicitDefEqProofs only [↓w_seq, ↓w_region, Nat.reduceSub, hsd, ↓ops_cons, ↓g_move, ↓g_binOp, Nat.reduceLT, ev_tab, b7, Nat.reduceAdd, Int.cast_ofNat_Int, upd_eq, ev_const, of_int, b_lss, Int.reduceLT, decide_false, ↓ops_nil, ↓w_cond, ↓w_skip, ↓w_block, ↓w_exit, ↓g_load, ne_eq, Nat.reduceEqDiff, not_false_eq_true, upd_ne, b3, rd_def, tyOk86, agg86, cells86, List.getElem?_cons_zero, hl, rdA, ↓g_alloc, zero86, Option.map_some, ↓g_store, ↓g_assign, alK_some, ints_one, List.length_cons, List.length_nil, Nat.zero_add, List.cons_append, List.nil_append, wr_def, List.getElem?_cons_succ, true_and, onS_some, List.length_replicate, wrA, List.set_cons_succ, List.set_cons_zero, if_true, onB_false]
          obtain ⟨R, hR0, hRs, hR6⟩ : ∃ R : Nat → S8, R 0 = s ∧ (∀ n, R (n + 1) = rnd (R n) (keys.getD n 0) ((schd z).getD n 0)) ∧ R 64 = rnds (schd z) s 64 := ⟨rnds (schd z) s, rfl, fun _ => rfl, rfl⟩
          refine w_loop (ι := Nat) (fun n st => ∃ T : Nat → AV, st = ⟨tab 224 T, [⟨ints .u32 (wis s.l), true, true⟩, ⟨ints .u32 (wis keys), true, true⟩, ⟨ints .u32 (List.replicate 8 0), true, true⟩, ⟨ints .u32 (wis (schd z)), true, true⟩, ⟨ints .u32 [wi (R n).a, wi (R n).b, wi (R n).c, wi (R n).d, wi (R n).e, wi (R n).f, wi (R n).g, wi (R n).h], true, true⟩]⟩ ∧ n ≤ 64 ∧ T 3 = .ptr 0 0 ∧ T 5 = .ptr 1 0 ∧ T 6 = .ptr 2 0 ∧ T 7 = .ptr 3 0 ∧ T 12 = .ptr 4 0 ∧ T 13 = .sc (.int .i64 n)) (fun n => 64 - n) ?_ (i := 0) ?_
          · rintro n st ⟨T, rfl, c1, c3, c5, c6, c7, c8, c9⟩
            by_cases h : n < 64
            · have k1 : (n : Int) < 64 := by omega
              have k0 : (0 : Int) ≤ n := by omega
              have e1 : IntKind.i64.wrap ((n : Int) + 1) = n + 1 := w64 (by omega) (by omega)
              have hRn := hRs n
              simp only [rnd, one, two, su1, su0, chs, maj] at hRn
              simp -implicitDefEqProofs only [↓w_seq, ↓w_region, ↓ops_cons, ↓g_move, ↓g_binOp, Nat.reduceLT, ev_tab, c9, upd_eq, ev_const, of_int, b_lss, k1, decide_true, ↓ops_nil, ↓w_cond, ↓w_skip, ↓w_block, ↓w_exit, ↓g_assign, if_true, onS_some, onB_true]
              refine drawn [(1, 0), (4, 0), (4, 3), (8, 0), (8, 3), (8, 6)] follows (by kernel_rfl) (by kernel_rfl) ?_
              simp -implicitDefEqProofs only [↓dops_cons, ↓g_indexAddr, Try.underlying86, Nat.reduceLT, ev_tab, ne_eq, Nat.reduceEqDiff, not_false_eq_true, upd_ne, c8, ev_const, of_int, adr_arr, Int.reduceLE, Int.cast_ofNat_Int, Int.reduceLT, tyOk85, and_self, Int.reduceToNat, cells85, Nat.mul_one, Nat.zero_add, if_true, ↓g_load, upd_eq, onS_some, rd_def, agg85, List.getElem?_cons_succ, List.getElem?_cons_zero, rd_ints, List.length_cons, List.length_nil, Nat.reduceAdd, List.getD_cons_succ, List.getD_cons_zero]
              refine call1 (by simp -implicitDefEqProofs only [List.map_cons, Nat.reduceLT, ev_tab, upd_eq, ev_const, of_int, List.map_nil, Int.cast_ofNat_Int] <;> rfl) (rotU _ 6 (by decide) (by decide)) ?_
              simp -implicitDefEqProofs only [↓dops_cons, ↓g_indexAddr, Try.underlying86, Nat.reduceLT, ev_tab, ne_eq, Nat.reduceEqDiff, not_false_eq_true, upd_ne, c8, ev_const, of_int, adr_arr, Int.reduceLE, Int.cast_ofNat_Int, Int.reduceLT, tyOk85, and_self, Int.reduceToNat, cells85, Nat.mul_one, Nat.zero_add, if_true, ↓g_load, upd_eq, onS_some, rd_def, agg85, List.getElem?_cons_succ, List.getElem?_cons_zero, rd_ints, List.length_cons, List.length_nil, Nat.reduceAdd, List.getD_cons_succ, List.getD_cons_zero]
              refine call1 (by simp -implicitDefEqProofs only [List.map_cons, Nat.reduceLT, ev_tab, upd_eq, ev_const, of_int, List.map_nil, Int.cast_ofNat_Int] <;> rfl) (rotU _ 11 (by decide) (by decide)) ?_
              simp -implicitDefEqProofs only [↓dops_cons, ↓g_binOp, Nat.reduceLT, ev_tab, ne_eq, Nat.reduceEqDiff, not_false_eq_true, upd_ne, upd_eq, b_xor, xor_u, ↓g_indexAddr, Try.underlying86, c8, ev_const, of_int, adr_arr, Int.reduceLE, Int.cast_ofNat_Int, Int.reduceLT, tyOk85, and_self, Int.reduceToNat, cells85, Nat.mul_one, Nat.zero_add, if_true, ↓g_load, onS_some, rd_def, agg85, List.getElem?_cons_succ, List.getElem?_cons_zero, rd_ints, List.length_cons, List.length_nil, Nat.reduceAdd, List.getD_cons_succ, List.getD_cons_zero]
              refine call1 (by simp -implicitDefEqProofs only [List.map_cons, Nat.reduceLT, ev_tab, upd_eq, ev_const, of_int, List.map_nil, Int.cast_ofNat_Int] <;> rfl) (rotU _ 25 (by decide) (by decide)) ?_
              simp -implicitDefEqProofs only [↓dops_cons, ↓g_binOp, Nat.reduceLT, ev_tab, ne_eq, Nat.reduceEqDiff, not_false_eq_true, upd_ne, upd_eq, b_xor, xor_u, ↓g_assign, ↓dops_p, ↓w_seq, ↓w_region, ↓ops_cons, ↓g_indexAddr, Try.underlying86, c8, ev_const, of_int, adr_arr, Int.reduceLE, Int.cast_ofNat_Int, Int.reduceLT, tyOk85, and_self, Int.reduceToNat, cells85, Nat.mul_one, Nat.zero_add, if_true, ↓g_load, ↓ops_nil, onS_some, rd_def, agg85, List.getElem?_cons_succ, List.getElem?_cons_zero, rd_ints, List.length_cons, List.length_nil, Nat.reduceAdd, List.getD_cons_succ, List.getD_cons_zero, not_r, b_and, and_u]
              refine ⟨pairs_cons (same_H rfl) (pairs_cons (same_H rfl) (pairs_cons (same_H rfl) (pairs_cons (same_H rfl) (pairs_cons (same_H rfl) (pairs_cons (same_H rfl) (pairs_nil)))))), ?_⟩
              refine drawn [(1, 0), (8, 0), (12, 0)] follows (by kernel_rfl) (by kernel_rfl) ?_
              simp -implicitDefEqProofs only [↓dops_cons, ↓g_indexAddr, Try.underlying86, Nat.reduceLT, ev_tab, ne_eq, Nat.reduceEqDiff, not_false_eq_true, upd_ne, c8, ev_const, of_int, adr_arr, Int.reduceLE, Int.cast_ofNat_Int, Int.reduceLT, tyOk85, and_self, Int.reduceToNat, cells85, Nat.mul_one, Nat.zero_add, if_true, ↓g_load, upd_eq, ↓g_move, ↓g_binOp, Try.underlying88, c9, c5, k0, k1, Int.toNat_natCast, c7, ↓g_assign, ↓dops_p, ↓w_seq, onS_some, rd_def, agg85, List.getElem?_cons_succ, List.getElem?_cons_zero, rd_ints, wis_len, hp, h, wis_get, keys_len, List.length_cons, List.length_nil, Nat.reduceAdd, List.getD_cons_succ, List.getD_cons_zero, b_add, add_u]
              refine ⟨pairs_cons (same_H rfl) (pairs_cons (same_H rfl) (pairs_cons (same_H rfl) (pairs_nil))), ?_⟩
              refine drawn [(1, 0), (4, 0), (4, 3), (8, 0), (8, 3), (8, 6)] follows (by kernel_rfl) (by kernel_rfl) ?_
              simp -implicitDefEqProofs only [↓dops_cons, ↓g_indexAddr, Try.underlying86, Nat.reduceLT, ev_tab, ne_eq, Nat.reduceEqDiff, not_false_eq_true, upd_ne, c8, ev_const, of_int, adr_arr, Int.reduceLE, Int.cast_ofNat_Int, Int.reduceLT, tyOk85, and_self, Int.toNat_zero, cells85, Nat.mul_one, Nat.zero_add, if_true, ↓g_load, upd_eq, onS_some, rd_def, agg85, List.getElem?_cons_succ, List.getElem?_cons_zero, rd_ints, List.length_cons, List.length_nil, Nat.reduceAdd, List.getD_cons_zero]
              refine call1 (by simp -implicitDefEqProofs only [List.map_cons, Nat.reduceLT, ev_tab, upd_eq, ev_const, of_int, List.map_nil, Int.cast_ofNat_Int] <;> rfl) (rotU _ 2 (by decide) (by decide)) ?_
              simp -implicitDefEqProofs only [↓dops_cons, ↓g_indexAddr, Try.underlying86, Nat.reduceLT, ev_tab, ne_eq, Nat.reduceEqDiff, not_false_eq_true, upd_ne, c8, ev_const, of_int, adr_arr, Int.reduceLE, Int.cast_ofNat_Int, Int.reduceLT, tyOk85, and_self, Int.toNat_zero, cells85, Nat.mul_one, Nat.zero_add, if_true, ↓g_load, upd_eq, onS_some, rd_def, agg85, List.getElem?_cons_succ, List.getElem?_cons_zero, rd_ints, List.length_cons, List.length_nil, Nat.reduceAdd, List.getD_cons_zero]
              refine call1 (by simp -implicitDefEqProofs only [List.map_cons, Nat.reduceLT, ev_tab, upd_eq, ev_const, of_int, List.map_nil, Int.cast_ofNat_Int] <;> rfl) (rotU _ 13 (by decide) (by decide)) ?_
              simp -implicitDefEqProofs only [↓dops_cons, ↓g_binOp, Nat.reduceLT, ev_tab, ne_eq, Nat.reduceEqDiff, not_false_eq_true, upd_ne, upd_eq, b_xor, xor_u, ↓g_indexAddr, Try.underlying86, c8, ev_const, of_int, adr_arr, Int.reduceLE, Int.cast_ofNat_Int, Int.reduceLT, tyOk85, and_self, Int.toNat_zero, cells85, Nat.mul_one, Nat.zero_add, if_true, ↓g_load, onS_some, rd_def, agg85, List.getElem?_cons_succ, List.getElem?_cons_zero, rd_ints, List.length_cons, List.length_nil, Nat.reduceAdd, List.getD_cons_zero]
              refine call1 (by simp -implicitDefEqProofs only [List.map_cons, Nat.reduceLT, ev_tab, upd_eq, ev_const, of_int, List.map_nil, Int.cast_ofNat_Int] <;> rfl) (rotU _ 22 (by decide) (by decide)) ?_
              simp -implicitDefEqProofs only [↓dops_cons, ↓g_binOp, Nat.reduceLT, ev_tab, ne_eq, Nat.reduceEqDiff, not_false_eq_true, upd_ne, upd_eq, b_xor, xor_u, ↓g_assign, ↓dops_p, ↓w_seq, ↓w_region, ↓ops_cons, ↓g_indexAddr, Try.underlying86, c8, ev_const, of_int, adr_arr, Int.reduceLE, Int.cast_ofNat_Int, Int.reduceLT, tyOk85, and_self, Int.toNat_zero, cells85, Nat.mul_one, Nat.zero_add, if_true, ↓g_load, Int.reduceToNat, ↓ops_nil, ↓g_move, ↓g_store, onS_some, wr_def, rd_def, agg85, List.getElem?_cons_succ, List.getElem?_cons_zero, rd_ints, List.length_cons, List.length_nil, Nat.reduceAdd, List.getD_cons_succ, List.getD_cons_zero, wr_ints, List.set_cons_succ, List.set_cons_zero, b_add, b_and, and_u]
              refine ⟨pairs_cons (same_H rfl) (pairs_cons (same_H rfl) (pairs_cons (same_H rfl) (pairs_cons (same_H rfl) (pairs_cons (same_H rfl) (pairs_cons (same_H rfl) (pairs_nil)))))), ?_⟩
              simp -implicitDefEqProofs only [c9, b_add, e1, add_u, onS_some]
              refine ⟨n + 1, by omega, _, congrArg (St.mk _) (by rw [hRn]), by omega, ?_, ?_, ?_, ?_, ?_, ?_⟩ <;> simp -implicitDefEqProofs only [ne_eq, Nat.reduceEqDiff, not_false_eq_true, upd_ne, c3, c5, c6, c7, c8, upd_eq] <;> rfl
            · have k1 : ¬ (n : Int) < 64 := by omega
              have hn : n = 64 := by omega
              subst hn
              simp -implicitDefEqProofs only [↓w_seq, ↓w_region, Nat.reduceSub, ↓ops_cons, ↓g_move, ↓g_binOp, Nat.reduceLT, ev_tab, c9, Int.cast_ofNat_Int, upd_eq, ev_const, of_int, b_lss, Int.reduceLT, decide_false, ↓ops_nil, ↓w_cond, ↓w_skip, ↓w_block, ↓w_exit, ↓g_assign, if_true, onS_some, onB_false]
              have hRl : ints .u32 [wi (R 64).a, wi (R 64).b, wi (R 64).c, wi (R 64).d, wi (R 64).e, wi (R 64).f, wi (R 64).g, wi (R 64).h] = ints .u32 (wis (R 64).l) := rfl
              rw [hRl]
              have hB : (blk s z) = s.add (R 64) := by rw [blk, ← hR6]
              rw [hB]
              generalize hr : R 64 = r at *
              have hrl : (wis r.l).length = 8 := rfl
              have hA : s.l.length = (s.add r).l.length := rfl
              refine w_loop (ι := Nat) (fun i st => ∃ T : Nat → AV, st = ⟨tab 224 T, [⟨ints .u32 (wis (mix s.l (s.add r).l i)), true, true⟩, ⟨ints .u32 (wis keys), true, true⟩, ⟨ints .u32 (List.replicate 8 0), true, true⟩, ⟨ints .u32 (wis (schd z)), true, true⟩, ⟨ints .u32 (wis r.l), true, true⟩]⟩ ∧ i ≤ 8 ∧ T 3 = .ptr 0 0 ∧ T 6 = .ptr 2 0 ∧ T 12 = .ptr 4 0 ∧ T 20 = .sc (.int .i64 i)) (fun i => 8 - i) ?_ (i := 0) ?_
              · rintro i st ⟨T, rfl, d1, d2, d3, d4, d5⟩
                by_cases hi : i < 8
                · have j1 : (i : Int) < 8 := by omega
                  have j0 : (0 : Int) ≤ i := by omega
                  have e1 : IntKind.i64.wrap ((i : Int) + 1) = i + 1 := w64 (by omega) (by omega)
                  have hm : (mix s.l (s.add r).l i).length = 8 := mix_len _ _ i hA
                  have hg : (mix s.l (s.add r).l i).getD i 0 = s.l.getD i 0 := mix_get _ _ i hA hi
                  have hs := mix_set s.l (s.add r).l i hA hi
                  rw [add_get s r i hi] at hs
                  simp -implicitDefEqProofs only [↓w_seq, ↓w_region, ↓ops_cons, ↓g_move, ↓g_binOp, Nat.reduceLT, ev_tab, d5, upd_eq, ev_const, of_int, b_lss, j1, decide_true, ↓ops_nil, ↓w_cond, ↓w_skip, ↓w_block, ↓w_exit, ↓g_load, ne_eq, Nat.reduceEqDiff, not_false_eq_true, upd_ne, d2, rd_def, tyOk86, agg86, cells86, List.getElem?_cons_zero, ↓g_store, d3, wr_def, List.getElem?_cons_succ, ↓w_ret, ret_cell, if_true, onS_some, onB_true]
                  refine drawn [(3, 0), (6, 0)] follows (by kernel_rfl) (by kernel_rfl) ?_
                  simp -implicitDefEqProofs only [↓dops_cons, ↓g_move, ↓g_indexAddr, Try.underlying86, Nat.reduceLT, ev_tab, ne_eq, Nat.reduceEqDiff, not_false_eq_true, upd_ne, d5, d2, upd_eq, adr_arr, j0, Int.cast_ofNat_Int, j1, tyOk85, and_self, Int.toNat_natCast, cells85, Nat.mul_one, Nat.zero_add, if_true, ↓g_load, d4, ↓g_binOp, ↓g_store, ↓dops_p, ↓w_region, ↓ops_cons, ev_const, of_int, b_add, e1, ↓g_assign, ↓ops_nil, onS_some, wr_def, List.getElem?_cons_zero, rd_def, agg85, List.getElem?_cons_succ, rd_ints, hrl, hi, wis_get, wis_len, hm, hg, add_u, wr_ints, wis_set, hs, List.set_cons_zero]
                  refine ⟨pairs_cons (same_H rfl) (pairs_cons (same_H rfl) (pairs_nil)), ?_⟩
                  refine ⟨i + 1, by omega, _, rfl, by omega, ?_, ?_, ?_, ?_⟩ <;> simp -implicitDefEqProofs only [ne_eq, Nat.reduceEqDiff, not_false_eq_true, upd_ne, d2, d3, d4, upd_eq] <;> rfl
                · have j1 : ¬ (i : Int) < 8 := by omega
                  have hn : i = 8 := by omega
                  subst hn
                  have hm : (mix s.l (s.add r).l 8).length = 8 := mix_len _ _ 8 hA
                  simp -implicitDefEqProofs only [↓w_seq, ↓w_region, Nat.reduceSub, ↓ops_cons, ↓g_move, ↓g_binOp, Nat.reduceLT, ev_tab, d5, Int.cast_ofNat_Int, upd_eq, ev_const, of_int, b_lss, Int.reduceLT, decide_false, ↓ops_nil, ↓w_cond, ↓w_skip, ↓w_block, ↓w_exit, ↓g_load, ne_eq, Nat.reduceEqDiff, not_false_eq_true, upd_ne, d2, rd_def, tyOk86, agg86, cells86, List.getElem?_cons_zero, wis_len, hm, rdA, ↓g_store, d3, wr_def, List.getElem?_cons_succ, ↓w_ret, ret_cell, onS_some, List.length_replicate, wrA, List.set_cons_succ, List.set_cons_zero, if_true, onB_false]
                  rfl
              · refine ⟨_, rfl, by omega, ?_, ?_, ?_, ?_⟩ <;> simp -implicitDefEqProofs only [ne_eq, Nat.reduceEqDiff, not_false_eq_true, upd_ne, c3, c6, c8, upd_eq, Int.cast_ofNat_Int] <;> rfl
          · refine ⟨_, congrArg (St.mk _) (by rw [hR0]; rfl), by omega, ?_, ?_, ?_, ?_, ?_, ?_⟩ <;> simp -implicitDefEqProofs only [ne_eq, Nat.reduceEqDiff, not_false_eq_true, upd_ne, b3, b4, b5, b6, upd_eq, Int.cast_ofNat_Int] <;> rfl
      · refine ⟨_, rfl, by omega, ?_, ?_, ?_, ?_, ?_⟩ <;> simp -implicitDefEqProofs only [ne_eq, Nat.reduceEqDiff, not_false_eq_true, upd_ne, a3, a4, a5, a6, upd_eq, Nat.reduceAdd, Int.cast_ofNat_Int] <;> rfl
  · refine ⟨_, congrArg (St.mk _) (by rw [z0]), by omega, ?_, ?_, ?_, ?_, ?_, ?_⟩ <;> simp -implicitDefEqProofs only [ne_eq, Nat.reduceEqDiff, not_false_eq_true, upd_ne, par1, upd_eq, Int.cast_ofNat_Int] <;> rfl
end Go.Proofs.Ytknmbiebnpojjaa.Sim
namespace Go.Proofs.Ytknmbiebnpojjaa.Sim
open Go
set_option maxRecDepth 100000
set_option maxHeartbeats 4000000
set_option linter.unusedSimpArgs false
set_option linter.unusedVariables false
theorem repL (b : UInt8) (c : Nat) : (⟨(Lib.repeatL [b] c).toArray⟩ : ByteArray) = strOfNums (List.replicate c (b.toNat : Int)) := by
  have h : Lib.repeatL [b] c = List.replicate c b := by
    have := Lib.repeatL_replicate b 1 c
    simpa using this
  rw [h]
  apply nums_inj
  rw [nums_son (by
    intro x hx
    have := List.eq_of_mem_replicate hx
    have hb := b.toNat_lt
    omega)]
  simp [nums]
theorem repeatC (z : ByteArray) (b : UInt8) (hz : z.data.toList = [b]) (c : Nat) (hc : c ≤ 1000000000) : Fn Try.prog 59 [.sc (.string z), .sc (.int .i64 c)] (.sc (.string (strOfNums (List.replicate c (b.toNat : Int))))) := by
  have hs : z.size = 1 := by
    have : z.data.size = 1 := by rw [← Array.length_toList, hz]; rfl
    exact this
  refine Fn.ofCalls [.string z, .int .i64 c] ⟨_, _, Try.func59, rfl, rfl⟩ fun w => ?_
  have h := Try.strings_Repeat z c w (by omega) (by rw [hs]; omega)
  rw [hz, repL] at h
  exact h
theorem padI (z : ByteArray) (hz : z.size ≤ 1000000000) : Fn Try.prog 10 [.sc (.string z)] (.sc (.string (padT z))) := by
  refine Fn.run 22 [.tmp 2] Try.func10 rfl rfl rfl rfl (by simp) (flats_cons (.sc _) flats_nil) (.sc _) ?_
  have e1 : IntKind.i64.wrap ((z.size : Int) + 1) = ((z.size + 1 : Nat) : Int) := by rw [w64 (by omega) (by omega)]; omega
  have e2 : (((z.size + 1 : Nat) : Int)).tmod 64 = (((z.size + 1) % 64 : Nat) : Int) := by
    rw [Int.tmod_eq_emod_of_nonneg (by omega)]
    omega
  have e3 : IntKind.i64.wrap (120 - (((z.size + 1) % 64 : Nat) : Int)) = ((120 - (z.size + 1) % 64 : Nat) : Int) := by rw [w64 (by omega) (by omega)]; omega
  have e4 : (((120 - (z.size + 1) % 64 : Nat) : Int)).tmod 64 = ((zeros z.size : Nat) : Int) := by
    rw [Int.tmod_eq_emod_of_nonneg (by omega)]
    unfold zeros
    omega
  simp -implicitDefEqProofs only [↓w_seq, ↓w_region, ↓ops_cons, ↓g_assign, ↓ops_nil, ev_const, of_str, ↓g_move, ↓g_len, Try.underlying9, Nat.reduceLT, ev_tab, ne_eq, reduceCtorEq, not_false_eq_true, upd_ne, par0, upd_eq, len_str, ↓g_binOp, of_int, t_add, Nat.reduceEqDiff, onS_ite, onS_some, b_add, e1, b_rem, Int.reduceEq, e2, if_false, b_sub, e3, e4]
  have hs1 : (⟨#[128]⟩ : ByteArray).size = 1 := rfl
  have hz0 : zeros z.size < 64 := Nat.mod_lt _ (by decide)
  refine ⟨by rw [hs1]; omega, ?_⟩
  refine call1 (by simp -implicitDefEqProofs only [List.map_cons, ev_const, of_str, Nat.reduceLT, ev_tab, upd_eq, List.map_nil] <;> rfl) (repeatC ⟨#[0]⟩ 0 rfl (zeros z.size) (by omega)) ?_
  have e5 : IntKind.i64.wrap (8 * (z.size : Int)) = 8 * (z.size : Int) := w64 (by omega) (by omega)
  have hs2 : (z ++ (⟨#[128]⟩ : ByteArray)).size = z.size + 1 := by rw [ByteArray.size_append]; rfl
  simp -implicitDefEqProofs only [↓ops_cons, ↓g_binOp, Nat.reduceLT, ev_tab, ne_eq, Nat.reduceEqDiff, not_false_eq_true, upd_ne, upd_eq, t_add, hs2, son_size, List.length_replicate, ↓g_move, ↓g_len, Try.underlying9, reduceCtorEq, par0, len_str, ev_const, of_int, onS_some, b_mul, e5, onS_ite]
  refine ⟨by omega, ?_⟩
  refine call1 (by simp -implicitDefEqProofs only [List.map_cons, Nat.reduceLT, ev_tab, upd_eq, ev_const, of_int, List.map_nil, Int.cast_ofNat_Int] <;> rfl) (highFirst (8 * (z.size : Int)) 8 (by omega) (by omega) (by decide)) ?_
  simp -implicitDefEqProofs only [↓ops_cons, ↓g_binOp, Nat.reduceLT, ev_tab, ne_eq, Nat.reduceEqDiff, not_false_eq_true, upd_ne, upd_eq, t_add, ByteArray.size_append, hs1, son_size, List.length_replicate, hiL_len, Nat.reduceLeDiff, ↓g_assign, ↓ops_nil, ↓w_ret, ret_one, onS_ite]
  refine ⟨by omega, ?_⟩
  have h1 : (⟨#[128]⟩ : ByteArray) = strOfNums [128] := rfl
  rw [h1, show z ++ strOfNums [128] = strOfNums (nums z ++ [128]) by rw [← son_append, son_nums], son_append, son_append, padT, padL]
  simp only [List.append_assoc, List.cons_append, List.nil_append]
  rfl
theorem pad_rep (n : Nat) : ∀ k, k ≤ zeros n → ((n + 1 + k) % 64 = 56 ↔ k = zeros n) := by
  intro k hk
  unfold zeros at *
  omega
theorem padS (z : ByteArray) (hz : z.size ≤ 1000000000) : Fn Try.prog 71 [.sc (.string z)] (.sc (.string (padT z))) := by
  refine Fn.run 36 [.tmp 2] Try.func71 rfl rfl rfl rfl (by simp) (flats_cons (.sc _) flats_nil) (.sc _) ?_
  have hz0 : zeros z.size < 64 := Nat.mod_lt _ (by decide)
  simp -implicitDefEqProofs only [↓w_seq, ↓w_region, ↓ops_cons, ↓g_assign, ↓ops_nil, ev_const, of_str, ↓g_move, ↓g_convert, Try.underlying9, Try.underlying22, Nat.reduceLT, ev_tab, ne_eq, reduceCtorEq, not_false_eq_true, upd_ne, par0, upd_eq, ↓g_buildSlice, List.map_cons, of_int, List.map_nil, bs5_1, ↓g_append, Nat.reduceEqDiff, ↓w_block, alK_some, ints_one, true_and, c_bytes, isU5, cells5, and_self, List.length_nil, bytes_ints, List.nil_append, List.length_cons, Nat.zero_add, List.cons_append, apS22, List.getElem?_cons_zero, src_sl, List.getElem?_cons_succ, at_ints, Nat.le_refl, List.drop_zero, List.take_succ_cons, List.take_zero, if_true, ap_ints, nums_len, Nat.mul_one, Nat.reduceLeDiff, Nat.reduceAdd, kill_0, onS_ite]
  have ht : (nums z).take z.size = nums z := List.take_of_length_le (by rw [nums_len]; omega)
  refine ⟨by omega, ?_⟩
  rw [ht]
  refine w_loop (ι := Nat) (fun k s => ∃ (T : Nat → AV) (G : AHeap), s = ⟨tab 36 T, G ++ [⟨ints .u8 (nums z ++ 128 :: List.replicate k 0), true, true⟩]⟩ ∧ k ≤ zeros z.size ∧ T 0 = .sc (.string z) ∧ T 3 = .sl G.length 0 (z.size + 1 + k) 1) (fun k => zeros z.size - k) ?_ (i := 0) ?_
  · rintro k s ⟨T, G, rfl, a1, a2, a3⟩
    have hlen : (nums z ++ 128 :: List.replicate k 0).length = z.size + 1 + k := by simp only [List.length_append, nums_len, List.length_replicate, List.length_cons]; omega
    have e2 : (((z.size + 1 + k : Nat) : Int)).tmod 64 = (((z.size + 1 + k) % 64 : Nat) : Int) := by
      rw [Int.tmod_eq_emod_of_nonneg (by omega)]
      omega
    by_cases h : k = zeros z.size
    · have k1 : (((z.size + 1 + k) % 64 : Nat) : Int) = 56 := by have := (pad_rep z.size k a1).2 h; omega
      simp -implicitDefEqProofs only [↓w_seq, ↓w_region, ↓ops_cons, ↓g_move, ↓g_len, Try.underlying22, Nat.reduceLT, ev_tab, a3, upd_eq, len_sl, ↓g_binOp, ev_const, of_int, ↓ops_nil, ↓w_cond, ↓w_skip, ↓w_block, ↓g_buildSlice, ne_eq, Nat.reduceEqDiff, not_false_eq_true, upd_ne, List.map_cons, List.map_nil, bs5_1, ↓g_append, apS22, ↓g_assign, alK_some, ints_one, at_a, List.length_append, List.length_cons, List.length_nil, Nat.zero_add, src_sl, at_b, at_ints, Nat.le_refl, List.drop_zero, List.take_succ_cons, List.take_zero, if_true, ap_ints, nums_len, List.length_replicate, Nat.mul_one, Nat.reduceLeDiff, and_self, onS_ite, true_and, ↓w_exit, Try.underlying9, reduceCtorEq, a2, len_str, onS_some, b_mul, b_rem, Int.reduceEq, e2, k1, if_false, b_neq, decide_true, Bool.not_true, onB_false]
      have e5 : IntKind.i64.wrap (8 * (z.size : Int)) = 8 * (z.size : Int) := w64 (by omega) (by omega)
      rw [e5]
      refine w_loop (ι := Nat) (fun j s => ∃ (T : Nat → AV) (G : AHeap), s = ⟨tab 36 T, G ++ [⟨ints .u8 (nums z ++ 128 :: (List.replicate k 0 ++ (hiL (8 * (z.size : Int)) 8).take j)), true, true⟩]⟩ ∧ j ≤ 8 ∧ T 3 = .sl G.length 0 (z.size + 1 + k + j) 1 ∧ T 4 = .sc (.int .i64 (8 * (z.size : Int))) ∧ T 5 = .sc (.int .i64 (7 - (j : Int)))) (fun j => 8 - j) ?_ (i := 0) ?_
      · rintro j s ⟨T, G, rfl, b1, b2, b3, b4⟩
        have hlj : ((hiL (8 * (z.size : Int)) 8).take j).length = j := by rw [List.length_take, hiL_len]; omega
        have hlen : (nums z ++ 128 :: (List.replicate k 0 ++ (hiL (8 * (z.size : Int)) 8).take j)).length = z.size + 1 + k + j := by simp only [List.length_append, nums_len, List.length_replicate, List.length_cons, hlj]; omega
        by_cases hj : j < 8
        · have m1 : (7 - (j : Int)) = ((7 - j : Nat) : Int) := by omega
          have m2 : (0 : Int) ≤ ((7 - j : Nat) : Int) := by omega
          have m3 : IntKind.u64.wrap ((7 - j : Nat) : Int) = ((7 - j : Nat) : Int) := wu64 (by omega) (by omega)
          have m4 : IntKind.u64.wrap (8 * ((7 - j : Nat) : Int)) = ((8 * (7 - j) : Nat) : Int) := by rw [wu64 (by omega) (by omega)]; omega
          have m5 : ¬ ((8 * (7 - j) : Nat) : Int) < 0 := by omega
          have m6 : min (8 * (7 - j)) 64 = 8 * (7 - j) := by omega
          have m7 : IntKind.i64.wrap (((7 - j : Nat) : Int) - 1) = 7 - ((j + 1 : Nat) : Int) := by rw [w64 (by omega) (by omega)]; omega
          rw [m1] at b4
          simp -implicitDefEqProofs only [↓w_seq, ↓w_region, ↓ops_cons, ↓g_move, ↓g_binOp, Nat.reduceLT, ev_tab, b4, upd_eq, ev_const, of_int, b_geq, m2, decide_true, ↓ops_nil, ↓w_cond, ↓w_skip, ↓w_block, ↓g_convert, Try.underlying3, Try.underlying29, ne_eq, Nat.reduceEqDiff, not_false_eq_true, upd_ne, b2, b3, Try.underlying5, ↓g_buildSlice, Try.underlying22, List.map_cons, List.map_nil, ↓g_append, apS22, ↓g_assign, b_sub, m7, onS_some, c_int, m3, b_mul, m4, b_shr, m5, Int.toNat_natCast, bits_i64, m6, if_false, bs5_1, alK_some, ints_one, at_a, List.length_append, List.length_cons, List.length_nil, Nat.zero_add, src_sl, at_b, at_ints, Nat.le_refl, List.drop_zero, List.take_succ_cons, List.take_zero, if_true, ap_ints, hlen, Nat.mul_one, Nat.reduceLeDiff, and_self, true_and, onS_ite, ↓w_exit, Try.underlying9, ↓w_ret, ret_one, c_text, isU5, at_def, at_end, Option.bind_some, bytesA_ints, Option.map_some, onB_true]
          refine ⟨by first | omega | (simp only [List.length_append, List.length_cons, List.length_replicate, nums_len, hiL_len, List.length_take]; omega), j + 1, by omega, _, _, st_end ?_, by omega, ?_, ?_, ?_⟩
          · rw [List.take_of_length_le (by simp only [List.length_append, List.length_cons, nums_len, List.length_replicate, hiL_len, List.length_take]; omega)]
            have hb : IntKind.u8.wrap (8 * (z.size : Int) / 2 ^ (8 * (7 - j))) = (hiL (8 * (z.size : Int)) 8).getD j 0 := by
              rw [IntKind.wrap_u8]
              generalize 8 * (z.size : Int) = x
              match j, hj with
              | 0, _ => show x / 72057594037927936 % 256 = x / 256 / 256 / 256 / 256 / 256 / 256 / 256 % 256; omega
              | 1, _ => show x / 281474976710656 % 256 = x / 256 / 256 / 256 / 256 / 256 / 256 % 256; omega
              | 2, _ => show x / 1099511627776 % 256 = x / 256 / 256 / 256 / 256 / 256 % 256; omega
              | 3, _ => show x / 4294967296 % 256 = x / 256 / 256 / 256 / 256 % 256; omega
              | 4, _ => show x / 16777216 % 256 = x / 256 / 256 / 256 % 256; omega
              | 5, _ => show x / 65536 % 256 = x / 256 / 256 % 256; omega
              | 6, _ => show x / 256 % 256 = x / 256 % 256; rfl
              | 7, _ => show x / 1 % 256 = x % 256; omega
            rw [hb, List.take_add_one, List.getD_eq_getElem?_getD, List.getElem?_eq_getElem (by rw [hiL_len]; exact hj)]
            simp only [Option.getD_some, Option.toList_some, List.append_assoc, List.cons_append]
          · simp -implicitDefEqProofs only [ne_eq, Nat.reduceEqDiff, not_false_eq_true, upd_ne, upd_eq, kill_len, List.length_append, List.length_cons, List.length_nil, Nat.zero_add]
            congr 1 <;> simp only [List.length_append, kill_len, List.length_cons, List.length_nil]
          · simp -implicitDefEqProofs only [ne_eq, Nat.reduceEqDiff, not_false_eq_true, upd_ne, b3]
          · simp -implicitDefEqProofs only [upd_eq]
        · have hj8 : j = 8 := by omega
          subst hj8
          have hc : z.size + 1 + k + 8 ≤ z.size + (k + 8 + 1) := by omega
          have ht8 : (hiL (8 * (z.size : Int)) 8).take 8 = hiL (8 * (z.size : Int)) 8 := List.take_of_length_le (by rw [hiL_len]; omega)
          have m8 : ¬ (0 : Int) ≤ 7 - ((8 : Nat) : Int) := by decide
          simp only [ht8]
          simp -implicitDefEqProofs only [↓w_seq, ↓w_region, Nat.reduceSub, ↓ops_cons, ↓g_move, ↓g_binOp, Nat.reduceLT, ev_tab, b4, Int.cast_ofNat_Int, Int.reduceSub, Int.reduceNeg, upd_eq, ev_const, of_int, b_geq, Int.reduceLE, decide_false, ↓ops_nil, ↓w_cond, ↓w_skip, ↓w_block, ↓g_convert, Try.underlying3, Try.underlying29, ne_eq, Nat.reduceEqDiff, not_false_eq_true, upd_ne, b2, b3, Try.underlying5, ↓g_buildSlice, Try.underlying22, List.map_cons, List.map_nil, ↓g_append, apS22, ↓g_assign, b_sub, onS_some, c_int, b_mul, b_shr, bits_i64, onS_not, bs5_1, alK_some, ints_one, at_a, List.length_append, List.length_cons, List.length_nil, Nat.zero_add, src_sl, at_b, at_ints, Nat.le_refl, List.drop_zero, List.take_succ_cons, List.take_zero, if_true, ap_ints, nums_len, List.length_replicate, hiL_len, hc, Nat.mul_one, Nat.reduceLeDiff, and_self, true_and, onS_ite, ↓w_exit, Try.underlying9, ↓w_ret, ret_one, c_text, isU5, at_def, at_end, Option.bind_some, bytesA_ints, Option.map_some, onB_false]
          rw [padT, padL, List.take_of_length_le (by simp only [List.length_append, List.length_cons, nums_len, List.length_replicate, hiL_len, List.length_take]; omega), h]
      · refine ⟨_, _, st_end (by rw [List.take_zero, List.append_nil]), by omega, ?_, ?_, ?_⟩ <;> simp -implicitDefEqProofs only [ne_eq, Nat.reduceEqDiff, not_false_eq_true, upd_ne, a3, Nat.add_zero, upd_eq, Int.cast_ofNat_Int, Int.reduceSub] <;> rfl
    · have k1 : ¬ (((z.size + 1 + k) % 64 : Nat) : Int) = 56 := by
        intro h2
        exact h ((pad_rep z.size k a1).1 (by omega))
      simp -implicitDefEqProofs only [↓w_seq, ↓w_region, ↓ops_cons, ↓g_move, ↓g_len, Try.underlying22, Nat.reduceLT, ev_tab, a3, upd_eq, len_sl, ↓g_binOp, ev_const, of_int, ↓ops_nil, ↓w_cond, ↓w_skip, ↓w_block, ↓g_buildSlice, ne_eq, Nat.reduceEqDiff, not_false_eq_true, upd_ne, List.map_cons, List.map_nil, bs5_1, ↓g_append, apS22, ↓g_assign, alK_some, ints_one, at_a, List.length_append, List.length_cons, List.length_nil, Nat.zero_add, src_sl, at_b, at_ints, Nat.le_refl, List.drop_zero, List.take_succ_cons, List.take_zero, if_true, ap_ints, hlen, Nat.mul_one, Nat.reduceLeDiff, and_self, true_and, onS_ite, ↓w_exit, Try.underlying9, reduceCtorEq, a2, len_str, onS_some, b_mul, b_rem, Int.reduceEq, e2, if_false, b_neq, k1, decide_false, Bool.not_false, onB_true]
      refine ⟨by omega, k + 1, by omega, _, _, st_end ?_, by omega, ?_, ?_⟩
      · rw [List.take_of_length_le (by simp only [List.length_append, List.length_cons, nums_len, List.length_replicate, hiL_len, List.length_take]; omega), List.append_assoc, List.replicate_succ', List.cons_append]
      · simp -implicitDefEqProofs only [ne_eq, reduceCtorEq, not_false_eq_true, upd_ne, a2]
      · simp -implicitDefEqProofs only [upd_eq, kill_len, List.length_append, List.length_cons, List.length_nil, Nat.zero_add]
        congr 1 <;> simp only [List.length_append, kill_len, List.length_cons, List.length_nil]
  · refine ⟨_, [⟨ints .u8 (nums z), true, false⟩, ⟨ints .u8 [128], true, true⟩], rfl, by omega, ?_, ?_⟩ <;> simp -implicitDefEqProofs only [ne_eq, reduceCtorEq, not_false_eq_true, upd_ne, par0, upd_eq, List.length_cons, List.length_nil, Nat.zero_add, Nat.reduceAdd] <;> rfl
end Go.Proofs.Ytknmbiebnpojjaa.Sim
namespace Go.Proofs.Ytknmbiebnpojjaa.Sim
open Go
set_option maxRecDepth 100000
set_option maxHeartbeats 4000000
set_option linter.unusedSimpArgs false
set_option linter.unusedVariables false
theorem startI : FnL Try.prog 11 [] .i64 (wis start.l) := by
  refine FnL.run 2 [.tmp 0] Try.func11 rfl rfl rfl rfl (by simp) flats_nil ?_
  have h : ints .i64 [1779033703, 3144134277, 1013904242, 2773480762, 1359893119, 2600822924, 528734635, 1541459225] = ints .i64 (wis start.l) := rfl
  simp -implicitDefEqProofs only [↓w_seq, ↓w_region, ↓ops_cons, ↓g_assign, ↓ops_nil, ev_const, ↓g_buildSlice, Try.underlying26, List.map_cons, of_int, List.map_nil, bs3_8, h, ↓w_ret, Nat.reduceLT, ev_tab, upd_eq, alK_some, ints_one, List.length_nil, List.nil_append, true_and]
  refine retL_one (by decide) 0 ?_ rfl
  simp -implicitDefEqProofs only [upd_eq]
  rfl
theorem blockA (G : AHeap) (r : Nat) (s : S8) (z : ByteArray) (hz : z.size = 64) (own : Bool) (hG : G[r]? = some ⟨ints .i64 (wis s.l), own, true⟩) : Sound Try.prog 12 [.sl r 0 8 1, .sc (.string z)] G (.sl G.length 0 8 1) (G ++ [⟨ints .i64 (wis (blk s z).l), true, true⟩]) := by
  obtain ⟨Z, h1, h2, h3⟩ := blockI own s z hz
  refine Sound.move1 [r] 2 _ h1 (by simp) h3 (FlatReg.ints _ _ _ _) rfl (by simp) ?_ (.cons (.sl rfl) (.cons (.flat (.sc _)) .nil)) (.sl (if_pos rfl))
  intro i x hx
  match i, hx with
  | 0, hx =>
    simp at hx
    subst hx
    exact ⟨_, rfl, h2, hG, FlatReg.ints _ _ _ _⟩
  | n + 1, hx => simp at hx
theorem digI (z : ByteArray) (hz : z.size ≤ 1000000000) : Fn Try.prog 14 [.sc (.string z)] (.sc (.string (dig z))) := by
  refine Fn.run 37 [.tmp 2] Try.func14 rfl rfl rfl rfl (by simp) (flats_cons (.sc _) flats_nil) (.sc _) ?_
  have hpl := padT_le z
  obtain ⟨m, hm, hm1⟩ := padT_64 z
  have hd : (padT z).size / 64 = m := by omega
  simp -implicitDefEqProofs only [↓w_seq, ↓w_region, ↓ops_cons, ↓g_assign, ↓ops_nil, ev_const, of_str]
  refine call1L (by simp -implicitDefEqProofs only [List.map_nil] <;> rfl) startI ?_
  simp -implicitDefEqProofs only [↓ops_cons, ↓g_assign, ↓ops_nil, ↓w_seq, ↓w_region, List.length_nil, Nat.reduceLT, ev_tab, upd_eq, List.nil_append, ↓g_move, ne_eq, reduceCtorEq, not_false_eq_true, upd_ne, par0]
  refine call1 (by simp -implicitDefEqProofs only [List.map_cons, Nat.reduceLT, ev_tab, upd_eq, List.map_nil] <;> rfl) (padI z hz) ?_
  simp -implicitDefEqProofs only [↓ops_cons, ↓g_assign, ↓ops_nil, ↓w_seq, ↓w_region, Nat.reduceLT, ev_tab, upd_eq, ↓w_block, ev_const, of_int]
  refine w_loop (ι := Nat) (fun n s => ∃ (T : Nat → AV) (G : AHeap) (r : Nat), s = ⟨tab 37 T, G⟩ ∧ n ≤ m ∧ G[r]? = some ⟨ints .i64 (wis (blks (padT z) n).l), true, true⟩ ∧ T 3 = .sl r 0 8 1 ∧ T 4 = .sc (.string (padT z)) ∧ T 5 = .sc (.int .i64 ((64 * n : Nat) : Int))) (fun n => m - n) ?_ (i := 0) ?_
  · rintro n s ⟨T, G, r, rfl, a1, a2, a3, a4, a5⟩
    by_cases h : n < m
    · have k1 : ((64 * n : Nat) : Int) < (padT z).size := by omega
      have e1 : IntKind.i64.wrap (((64 * n : Nat) : Int) + 64) = ((64 * n + 64 : Nat) : Int) := by rw [w64 (by omega) (by omega)]; omega
      have k2 : (0 : Int) ≤ ((64 * n : Nat) : Int) := by omega
      have k3 : (0 : Int) ≤ ((64 * n + 64 : Nat) : Int) := by omega
      have k4 : 64 * n ≤ 64 * n + 64 := by omega
      have k5 : 64 * n + 64 ≤ (padT z).size := by omega
      simp -implicitDefEqProofs only [↓w_seq, ↓w_region, ↓ops_cons, ↓g_move, ↓g_len, Try.underlying9, Nat.reduceLT, ev_tab, a5, ne_eq, Nat.reduceEqDiff, not_false_eq_true, upd_ne, a4, upd_eq, len_str, ↓g_binOp, ↓ops_nil, ↓w_cond, ↓w_skip, ↓w_block, a3, ev_const, of_int, b_add, e1, ↓g_slice, Option.map_some, cut_str, bnd_int, k2, Int.toNat_natCast, if_true, onS_some, k3, cutS_some, k4, k5, and_self, ↓w_exit, ↓g_assign, of_str, Try.underlying26, len_sl, Int.cast_ofNat_Int, b_lss, k1, decide_true, onB_true]
      have hx : ((padT z).extract (64 * n) (64 * n + 64)).size = 64 := by rw [ByteArray.size_extract]; omega
      refine call1S (by simp -implicitDefEqProofs only [List.map_cons, Nat.reduceLT, ev_tab, ne_eq, Nat.reduceEqDiff, not_false_eq_true, upd_ne, upd_eq, List.map_nil] <;> rfl) (blockA G r (blks (padT z) n) _ hx true a2) ?_
      simp -implicitDefEqProofs only [↓ops_cons, ↓g_assign, ↓ops_nil, ↓w_region, Nat.reduceLT, ev_tab, upd_eq, ↓g_move, ↓g_binOp, ne_eq, Nat.reduceEqDiff, not_false_eq_true, upd_ne, a5, ev_const, of_int, b_add, e1, onS_some]
      refine ⟨n + 1, by omega, _, _, G.length, rfl, by omega, ?_, ?_, ?_, ?_⟩
      · rw [List.getElem?_append_right (by omega), Nat.sub_self]
        rfl
      · simp -implicitDefEqProofs only [ne_eq, Nat.reduceEqDiff, not_false_eq_true, upd_ne, upd_eq]
      · simp -implicitDefEqProofs only [ne_eq, Nat.reduceEqDiff, not_false_eq_true, upd_ne, a4]
      · simp -implicitDefEqProofs only [upd_eq] <;> rfl
    · have k1 : ¬ ((64 * n : Nat) : Int) < (padT z).size := by omega
      have hn : n = m := by omega
      subst hn
      have hdl : digL z = wby (blks (padT z) n).l := by rw [digL, hd]
      have hl8 : (blks (padT z) n).l.length = 8 := rfl
      rw [dig, hdl]
      generalize (blks (padT z) n).l = L at *
      simp -implicitDefEqProofs only [↓w_seq, ↓w_region, ↓ops_cons, ↓g_move, ↓g_len, Try.underlying9, Nat.reduceLT, ev_tab, a5, ne_eq, Nat.reduceEqDiff, not_false_eq_true, upd_ne, a4, upd_eq, len_str, ↓g_binOp, ↓ops_nil, ↓w_cond, ↓w_skip, ↓w_block, a3, ev_const, of_int, b_add, ↓g_slice, Option.map_some, cut_str, bnd_int, onS_some, ↓w_exit, ↓g_assign, of_str, Try.underlying26, len_sl, Int.cast_ofNat_Int, if_true, b_lss, k1, decide_false, onB_false]
      refine w_loop (ι := Nat) (fun i s => ∃ T : Nat → AV, s = ⟨tab 37 T, G⟩ ∧ i ≤ 8 ∧ T 6 = .sc (.string (strOfNums (wby (L.take i)))) ∧ T 25 = .sl r 0 8 1 ∧ T 26 = .sc (.int .i64 8) ∧ T 27 = .sc (.int .i64 i)) (fun i => 8 - i) ?_ (i := 0) ?_
      · rintro i s ⟨T, rfl, b1, b2, b3, b4, b5⟩
        by_cases hi : i < 8
        · have j1 : (i : Int) < 8 := by omega
          have j0 : (0 : Int) ≤ i := by omega
          have e1 : IntKind.i64.wrap ((i : Int) + 1) = i + 1 := w64 (by omega) (by omega)
          simp -implicitDefEqProofs only [↓w_seq, ↓w_region, ↓ops_cons, ↓g_binOp, Nat.reduceLT, ev_tab, b5, b4, b_lss, j1, decide_true, ↓ops_nil, ↓w_cond, upd_eq, ↓w_skip, ↓w_block, ↓g_indexAddr, Try.underlying26, ne_eq, Nat.reduceEqDiff, not_false_eq_true, upd_ne, b3, adr_sl, j0, Int.cast_ofNat_Int, cells3, tyOk3, and_self, Int.toNat_natCast, Nat.mul_one, Nat.zero_add, if_true, ↓g_load, ↓g_assign, ↓g_move, b2, onS_some, rd_def, agg3, a2, rd_ints, wis_len, hl8, hi, wis_get, ↓w_exit, ↓w_ret, ret_one, onB_true]
          refine call1 (by simp -implicitDefEqProofs only [List.map_cons, Nat.reduceLT, ev_tab, upd_eq, ev_const, of_int, List.map_nil, Int.cast_ofNat_Int] <;> rfl) (highFirst (wi (L.getD i 0)) 4 (wi_0 _) (by have := wi_lt (L.getD i 0); omega) (by decide)) ?_
          simp -implicitDefEqProofs only [↓ops_cons, ↓g_binOp, Nat.reduceLT, ev_tab, ne_eq, Nat.reduceEqDiff, not_false_eq_true, upd_ne, upd_eq, t_add, son_size, wby_len, List.length_take, hl8, hiL_len, Nat.reduceLeDiff, son_append, wby_take L i (by omega), ↓g_assign, ↓ops_nil, ↓w_region, b5, ev_const, of_int, b_add, e1, ↓g_move, onS_some, onS_ite]
          refine ⟨by omega, i + 1, by omega, _, rfl, by omega, ?_, ?_, ?_, ?_⟩ <;> simp -implicitDefEqProofs only [ne_eq, Nat.reduceEqDiff, not_false_eq_true, upd_ne, upd_eq, b3, b4] <;> rfl
        · have j1 : ¬ (i : Int) < 8 := by omega
          have hi8 : i = 8 := by omega
          subst hi8
          simp -implicitDefEqProofs only [↓w_seq, ↓w_region, Nat.reduceSub, ↓ops_cons, ↓g_binOp, Nat.reduceLT, ev_tab, b5, Int.cast_ofNat_Int, b4, b_lss, Int.reduceLT, decide_false, ↓ops_nil, ↓w_cond, upd_eq, ↓w_skip, ↓w_block, ↓g_indexAddr, Try.underlying26, ne_eq, Nat.reduceEqDiff, not_false_eq_true, upd_ne, b3, adr_sl, Int.reduceLE, cells3, tyOk3, and_self, and_true, and_false, Int.reduceToNat, Nat.mul_one, Nat.zero_add, if_false, ↓g_load, ↓g_assign, ↓g_move, b2, ↓w_exit, ↓w_ret, ret_one, if_true, onS_some, onB_false]
          rw [List.take_of_length_le (by omega)]
      · refine ⟨_, rfl, by omega, ?_, ?_, ?_, ?_⟩ <;> simp -implicitDefEqProofs only [ne_eq, Nat.reduceEqDiff, not_false_eq_true, upd_ne, upd_eq, List.take_zero, Int.cast_ofNat_Int] <;> rfl
  · refine ⟨_, _, 0, rfl, by omega, rfl, ?_, ?_, ?_⟩ <;> simp -implicitDefEqProofs only [ne_eq, Nat.reduceEqDiff, not_false_eq_true, upd_ne, upd_eq, Nat.reduceMul, Int.cast_ofNat_Int] <;> rfl
end Go.Proofs.Ytknmbiebnpojjaa.Sim
namespace Go.Proofs.Ytknmbiebnpojjaa.Sim
open Go
set_option maxRecDepth 100000
set_option maxHeartbeats 4000000
set_option linter.unusedSimpArgs false
set_option linter.unusedVariables false
theorem by3 (x : Wo) : IntKind.u8.wrap (wi x / 16777216) = (hiL (wi x) 4).getD 0 0 := by
  rw [IntKind.wrap_u8]
  show wi x / 16777216 % 256 = wi x / 256 / 256 / 256 % 256
  omega
theorem by2 (x : Wo) : IntKind.u8.wrap (wi x / 65536) = (hiL (wi x) 4).getD 1 0 := by
  rw [IntKind.wrap_u8]
  show wi x / 65536 % 256 = wi x / 256 / 256 % 256
  omega
theorem by1 (x : Wo) : IntKind.u8.wrap (wi x / 256) = (hiL (wi x) 4).getD 2 0 := by
  rw [IntKind.wrap_u8]
  rfl
theorem by0 (x : Wo) : IntKind.u8.wrap (wi x) = (hiL (wi x) 4).getD 3 0 := by
  rw [IntKind.wrap_u8]
  rfl
theorem hiL4_eq (x : Int) : hiL x 4 = [(hiL x 4).getD 0 0, (hiL x 4).getD 1 0, (hiL x 4).getD 2 0, (hiL x 4).getD 3 0] := rfl
/-- Four bytes laid behind those that lie. -/
theorem lay4 (A : List Int) (i n : Nat) (h : A.length = 4 * i) (x : Int) (a b c d : Int) (hx : hiL x 4 = [a, b, c, d]) : ((((A ++ List.replicate (4 * (n + 1)) 0).set (4 * i) a).set (4 * i + 1) b).set (4 * i + 2) c).set (4 * i + 3) d = (A ++ hiL x 4) ++ List.replicate (4 * n) 0 := by
  rw [hx, show 4 * (n + 1) = 4 * n + 1 + 1 + 1 + 1 by omega]
  simp only [List.replicate_succ]
  rw [List.set_append_right _ _ (by omega), List.set_append_right _ _ (by omega), List.set_append_right _ _ (by omega), List.set_append_right _ _ (by omega)]
  rw [h, show 4 * i - 4 * i = 0 by omega, show 4 * i + 1 - 4 * i = 1 by omega, show 4 * i + 2 - 4 * i = 2 by omega, show 4 * i + 3 - 4 * i = 3 by omega]
  simp only [List.set_cons_zero, List.set_cons_succ, List.append_assoc, List.cons_append, List.nil_append]
theorem digS (z : ByteArray) (hz : z.size ≤ 1000000000) : Fn Try.prog 15 [.sc (.string z)] (.sc (.string (dig z))) := by
  refine Fn.run 72 [.tmp 2] Try.func15 rfl rfl rfl rfl (by simp) (flats_cons (.sc _) flats_nil) (.sc _) ?_
  have hpl := padT_le z
  obtain ⟨m, hm, hm1⟩ := padT_64 z
  have hd : (padT z).size / 64 = m := by omega
  have hl8 : ∀ s : S8, (wis s.l).length = 8 := fun s => rfl
  simp -implicitDefEqProofs only [↓w_seq, ↓w_region, ↓ops_cons, ↓g_assign, ↓ops_nil, ev_const, of_str]
  refine call1 (by simp -implicitDefEqProofs only [List.map_nil] <;> rfl) firstS ?_
  simp -implicitDefEqProofs only [↓ops_cons, ↓g_alloc, zero86, Option.map_some, ↓g_store, Nat.reduceLT, ev_tab, upd_eq, ne_eq, Nat.reduceEqDiff, not_false_eq_true, upd_ne, ↓ops_nil, ↓w_seq, ↓w_region, alK_some, ints_one, List.length_nil, List.nil_append, wr_def, tyOk86, cells86, List.getElem?_cons_zero, hl8, List.length_replicate, wrA, List.set_cons_zero, onS_some, true_and]
  refine call1 (by simp -implicitDefEqProofs only [List.map_nil] <;> rfl) keysS ?_
  simp -implicitDefEqProofs only [↓ops_cons, ↓g_alloc, zero88, Option.map_some, ↓g_store, Nat.reduceLT, ev_tab, upd_eq, ne_eq, Nat.reduceEqDiff, not_false_eq_true, upd_ne, ↓ops_nil, ↓w_seq, ↓w_region, ↓g_move, reduceCtorEq, par0, alK_some, ints_one, List.length_cons, List.length_nil, Nat.zero_add, List.cons_append, List.nil_append, wr_def, tyOk88, cells88, List.getElem?_cons_succ, List.getElem?_cons_zero, wis_len, keys_len, List.length_replicate, wrA, List.set_cons_succ, List.set_cons_zero, onS_some, true_and]
  refine call1 (by simp -implicitDefEqProofs only [List.map_cons, Nat.reduceLT, ev_tab, upd_eq, List.map_nil] <;> rfl) (padS z hz) ?_
  simp -implicitDefEqProofs only [↓ops_cons, ↓g_assign, ↓ops_nil, ↓w_seq, ↓w_region, Nat.reduceLT, ev_tab, upd_eq, ↓w_block, ev_const, of_int]
  refine w_loop (ι := Nat) (fun n s => ∃ T : Nat → AV, s = ⟨tab 72 T, [⟨ints .u32 (wis (blks (padT z) n).l), true, true⟩, ⟨ints .u32 (wis keys), true, true⟩]⟩ ∧ n ≤ m ∧ T 3 = .ptr 0 0 ∧ T 4 = .ptr 1 0 ∧ T 5 = .sc (.string (padT z)) ∧ T 6 = .sc (.int .i64 ((64 * n : Nat) : Int))) (fun n => m - n) ?_ (i := 0) ?_
  · rintro n s ⟨T, rfl, a1, a2, a3, a4, a5⟩
    by_cases h : n < m
    · have k1 : ((64 * n : Nat) : Int) < (padT z).size := by omega
      have e1 : IntKind.i64.wrap (((64 * n : Nat) : Int) + 64) = ((64 * n + 64 : Nat) : Int) := by rw [w64 (by omega) (by omega)]; omega
      have k2 : (0 : Int) ≤ ((64 * n : Nat) : Int) := by omega
      have k3 : (0 : Int) ≤ ((64 * n + 64 : Nat) : Int) := by omega
      have k4 : 64 * n ≤ 64 * n + 64 := by omega
      have k5 : 64 * n + 64 ≤ (padT z).size := by omega
      simp -implicitDefEqProofs only [↓w_seq, ↓w_region, ↓ops_cons, ↓g_move, ↓g_len, Try.underlying9, Nat.reduceLT, ev_tab, a5, ne_eq, Nat.reduceEqDiff, not_false_eq_true, upd_ne, a4, upd_eq, len_str, ↓g_binOp, ↓ops_nil, ↓w_cond, ↓w_skip, ↓w_block, ↓w_exit, ↓g_makeSlice, Try.underlying22, ev_const, of_int, Int.reduceLE, mk5, Int.reduceToNat, ↓g_assign, alK_some, ints_one, List.length_cons, List.length_nil, Nat.zero_add, Nat.reduceAdd, List.cons_append, List.nil_append, true_and, if_true, onS_some, b_lss, k1, decide_true, onB_true]
      refine drawn [(0, 0), (6, 0)] follows (by kernel_rfl) (by kernel_rfl) ?_
      simp -implicitDefEqProofs only [↓dops_cons, ↓g_load, Nat.reduceLT, ev_tab, ne_eq, Nat.reduceEqDiff, not_false_eq_true, upd_ne, a2, rd_def, tyOk86, agg86, cells86, List.getElem?_cons_zero, hl8, rdA, ↓g_move, ↓g_binOp, a4, a5, upd_eq, ev_const, of_int, b_add, e1, ↓g_slice, Try.underlying9, Option.map_some, cut_str, bnd_int, k2, Int.toNat_natCast, if_true, a3, tyOk88, agg88, cells88, List.getElem?_cons_succ, wis_len, keys_len, onS_some, k3, cutS_some, k4, k5, and_self]
      have hx : ((padT z).extract (64 * n) (64 * n + 64)).size = 64 := by rw [ByteArray.size_extract]; omega
      refine call1 (by simp -implicitDefEqProofs only [List.map_cons, Nat.reduceLT, ev_tab, ne_eq, Nat.reduceEqDiff, not_false_eq_true, upd_ne, upd_eq, List.map_nil] <;> rfl) (blockS (blks (padT z) n) _ hx) ?_
      have hl9 : (wis (blks (padT z) n).l).length = 8 := rfl
      simp -implicitDefEqProofs only [↓dops_cons, ↓g_store, Nat.reduceLT, ev_tab, ne_eq, Nat.reduceEqDiff, not_false_eq_true, upd_ne, a2, upd_eq, wr_def, tyOk86, cells86, List.getElem?_cons_zero, hl8, wrA, List.set_cons_zero, ↓dops_p, ↓w_region, ↓ops_cons, ↓g_move, ↓g_binOp, a5, ev_const, of_int, b_add, e1, ↓g_assign, ↓ops_nil, onS_some]
      refine ⟨pairs_cons (same_H rfl) (pairs_cons (same_H rfl) (pairs_nil)), ?_⟩
      try simp -implicitDefEqProofs only [↓w_seq, ↓w_skip, ↓w_ret, ↓w_exit, ↓w_block, ↓w_cond, ↓w_region, ↓ops_nil, ↓ops_cons, ↓dops_0, ↓dops_p, ↓dops_cons, ↓g_move, ↓g_assign, ↓g_binOp, ↓g_unOp, ↓g_pick, ↓g_len, ↓g_index, ↓g_indexAddr, ↓g_slice, ↓g_convert, ↓g_load, ↓g_store, ↓g_extract, ↓g_nilCheck, ↓g_fieldT, ↓g_fieldAddrT, of_agg, rd_aggc, rd_onec, wr_c, cells_int, cells_str, cells_bool, cells_nil, cells_sl, cells_ptr, cells_agg, one_int, one_str, one_bool, one_nil, one_sl, one_ptr, over_0, over_s, List.all_cons, List.all_nil, Bool.and_true, Bool.and_self, List.getElem?_nil, List.drop_succ_cons, List.drop_nil, ↓g_guard_t, ↓g_guard_f, ↓g_alloc, ↓g_box, ↓g_buildSlice, ↓g_makeSlice, ↓g_buildV, rdA, wrA, ints_one, List.length_replicate, bools_one, strs_one, rd_bools, rd_strs, wr_bools, wr_strs, at_bools, at_strs, ap_bools, ap_boolsN, ap_strs, ap_strsN, ↓g_append, src_sl, src_nil, src_str, ap_ints, ap_intsN, kill_len, kill_0, kill_s, bnd_none, bnd_int, cut_str, cutS_some, cut_sl, cutL_some, bits_i64, bits_u32, bits_u8, List.getD_cons_zero, List.getD_cons_succ, at_end, at_a, at_b, yielded_tab, dstAt_0, dstAt_s, ybv_some, boolOf_b, ext_0, ext_1, ext_2, ext_3, alK_some, ev_tab, ev_const, upd_eq, upd_ne, par0, par1, par2, par3, par4, par5, of_int, of_str, of_bool, len_str, len_arr, len_sl, idx_str, adr_sl, adr_arr, c_int, c_str, c_bytes, c_text, pick_b, onS_some, onS_ite, onS_not, b_add, b_sub, b_mul, b_and, b_or, b_xor, b_eql, b_neq, b_lss, b_leq, b_gtr, b_geq, b_shl, b_shr, b_quo, b_rem, t_add, t_eql, t_neq, v_eql, v_neq, b_andNot, u_not, onB_true, onB_false, onB_dec, onB_not, ret_cell, ret_ct, retP_0, retP_1, retP_2, retP_3, res_tmp, res_cell, ret_one, ret_two, ret_three, ret_none, List.set_set, if_true, if_false, ite_true, ite_false, List.map_cons, List.map_nil, Option.map_some, Option.map_none, List.toList_toArray, rd_def, rd_ints, wr_def, wr_ints, at_def, at_ints, bytes_ints, bytesA_ints, ints_set, nums_len, List.length_nil, List.length_cons, List.length_set, List.length_append, List.nil_append, List.cons_append, List.getElem?_cons_zero, List.getElem?_cons_succ, List.set_cons_zero, List.set_cons_succ, List.drop_zero, List.take_succ_cons, List.take_zero, List.take_length, Option.bind_some, true_and, and_true, Nat.zero_add, Nat.mul_one, Int.toNat_zero, Int.reduceToNat, Int.reduceAdd, Int.reduceSub, Int.reduceMul, Int.reduceNeg, Nat.reduceAdd, Nat.reduceSub, Nat.reduceMul, Nat.reducePow, Nat.min_eq_left, Int.reducePow, Nat.le_refl, Int.cast_ofNat_Int, Nat.reduceLT, Nat.reduceLeDiff, Nat.reduceEqDiff, Int.reduceLE, Int.reduceLT, Int.reduceEq, ne_eq, not_false_eq_true, not_true_eq_false, reduceCtorEq, decide_true, decide_false, and_self, and_false, false_and, Bool.not_true, Bool.not_false, Try.underlying0, Try.underlying1, Try.underlying2, Try.underlying3, Try.underlying4, Try.underlying5, Try.underlying6, Try.underlying7, Try.underlying8, Try.underlying9, Try.underlying10, Try.underlying11, Try.underlying12, Try.underlying13, Try.underlying14, Try.underlying15, Try.underlying16, Try.underlying17, Try.underlying18, Try.underlying19, Try.underlying20, Try.underlying21, Try.underlying22, Try.underlying23, Try.underlying24, Try.underlying25, Try.underlying26, Try.underlying27, Try.underlying28, Try.underlying29, Try.underlying30, Try.underlying31, Try.underlying32, Try.underlying33, Try.underlying34, Try.underlying35, Try.underlying36, Try.underlying37, Try.underlying38, Try.underlying39, Try.underlying40, Try.underlying41, Try.underlying42, Try.underlying43, Try.underlying44, Try.underlying45, Try.underlying46, Try.underlying47, Try.underlying48, Try.underlying49, Try.underlying50, Try.underlying51, Try.underlying52, Try.underlying53, Try.underlying54, Try.underlying55, Try.underlying56, Try.underlying57, Try.underlying58, Try.underlying59, Try.underlying60, Try.underlying61, Try.underlying62, Try.underlying63, Try.underlying64, Try.underlying65, Try.underlying66, Try.underlying67, Try.underlying68, Try.underlying69, Try.underlying70, Try.underlying71, Try.underlying72, Try.underlying73, Try.underlying74, Try.underlying75, Try.underlying76, Try.underlying77, Try.underlying78, Try.underlying79, Try.underlying80, Try.underlying81, Try.underlying82, Try.underlying83, Try.underlying84, Try.underlying85, Try.underlying86, Try.underlying87, Try.underlying88, Try.underlying89, Try.underlying90, Try.underlying91, Try.underlying92, Try.underlying93, Try.underlying94, Try.underlying95, Try.underlying96, Try.underlying97, Try.underlying98, Try.underlying99, Try.underlying100, Try.underlying101, Try.underlying102, Try.underlying103, Try.underlying104, Try.underlying105, Try.underlying106, Try.underlying107, Try.underlying108, Try.underlying109, Try.underlying110, Try.underlying111, Try.underlying112, Try.underlying113, Try.underlying114, Try.underlying115, Try.underlying116, Try.underlying117, Try.underlying118, Try.underlying119, Try.underlying120, Try.underlying121, Try.underlying122, Try.underlying123, Try.underlying124, Try.underlying125, Try.underlying126, Try.underlying127, Try.underlying128, Try.underlying129, Try.underlying130, Try.underlying131, Try.underlying132, Try.underlying133, Try.underlying134, Try.underlying135, Try.underlying136, Try.underlying137, Try.underlying138, Try.underlying139, Try.underlying140, Try.underlying141, Try.underlying142, Try.underlying143, Try.underlying144, Try.underlying145, Try.underlying146, Try.underlying147, tyOk0, agg0, cells0, tyOk1, agg1, cells1, tyOk2, agg2, cells2, zero2, info2, mk2, bs2_0, bs2_1, bs2_2, bs2_3, bs2_4, bs2_5, bs2_6, bs2_7, bs2_8, bs2_10, bs2_11, bs2_12, bs2_13, tyOk3, agg3, cells3, zero3, apS26, apN26, info3, mk3, bs3_0, bs3_1, bs3_2, bs3_3, bs3_4, bs3_5, bs3_6, bs3_7, bs3_8, bs3_10, bs3_11, bs3_12, bs3_13, tyOk4, agg4, cells4, zero4, info4, mk4, bs4_0, bs4_1, bs4_2, apS52, apN52, tyOk5, agg5, cells5, isU5, zero5, apS22, apN22, apStr22, info5, mk5, bs5_0, bs5_1, bs5_2, bs5_3, bs5_4, bs5_5, bs5_6, bs5_7, bs5_8, bs5_10, bs5_11, bs5_12, bs5_13, tyOk6, agg6, cells6, isU6, zero6, info6, mk6, bs6_0, bs6_1, bs6_2, bs6_3, bs6_4, bs6_5, bs6_6, bs6_7, bs6_8, bs6_10, bs6_11, bs6_12, bs6_13, tyOk7, agg7, cells7, zero7, fadr7_0, fld7_0, fadr7_1, fld7_1, fadr7_2, fld7_2, fadr7_3, fld7_3, bz7, bds7, tyOk8, agg8, cells8, zero8, fadr8_0, fld8_0, fadr8_1, fld8_1, fadr8_2, fld8_2, fadr8_3, fld8_3, bz8, bds8, tyOk9, agg9, cells9, zero9, info9, bs9_0, bs9_1, bs9_2, bs9_3, bs9_4, bs9_5, bs9_6, bs9_8, bs9_9, bs9_10, apS125, apN125, tyOk10, agg10, cells10, zero10, info10, bs10_0, bs10_1, bs10_2, bs10_3, bs10_4, bs10_5, bs10_6, bs10_8, bs10_9, bs10_10, tyOk11, agg11, cells11, zero11, info11, bs11_0, bs11_1, bs11_2, bs11_3, bs11_4, bs11_5, bs11_6, bs11_8, bs11_9, bs11_10, tyOk12, agg12, cells12, zero12, info12, mk12, bs12_0, bs12_1, bs12_2, bs12_3, bs12_4, bs12_5, bs12_6, bs12_7, bs12_8, bs12_10, bs12_11, bs12_12, bs12_13, tyOk13, agg13, cells13, zero13, fadr13_0, fld13_0, fadr13_1, fld13_1, bz13, bds13, tyOk14, agg14, cells14, zero14, fadr14_0, fld14_0, fadr14_1, fld14_1, bz14, bds14, tyOk15, agg15, cells15, zero15, tyOk16, agg16, cells16, zero16, tyOk17, agg17, cells17, zero17, tyOk18, agg18, cells18, zero18, fadr18_0, fld18_0, bz18, bds18, tyOk19, agg19, cells19, zero19, fadr19_0, fld19_0, bz19, bds19, tyOk20, agg20, cells20, tyOk21, agg21, cells21, zero21, info21, mk21, bs21_0, bs21_1, bs21_2, bs21_3, bs21_4, bs21_5, bs21_6, bs21_7, bs21_8, bs21_10, bs21_11, bs21_12, bs21_13, tyOk22, agg22, cells22, zero22, tyOk23, agg23, cells23, tyOk24, agg24, cells24, tyOk25, agg25, cells25, tyOk26, agg26, cells26, zero26, tyOk27, agg27, cells27, tyOk28, agg28, cells28, tyOk29, agg29, cells29, zero29, info29, mk29, bs29_0, bs29_1, bs29_2, bs29_3, bs29_4, bs29_5, bs29_6, bs29_7, bs29_8, bs29_10, bs29_11, bs29_12, bs29_13, tyOk30, agg30, cells30, tyOk31, agg31, cells31, tyOk32, agg32, cells32, tyOk33, agg33, cells33, tyOk34, agg34, cells34, tyOk35, agg35, cells35, tyOk36, agg36, cells36, tyOk37, agg37, cells37, tyOk38, agg38, cells38, tyOk39, agg39, cells39, tyOk40, agg40, cells40, tyOk41, agg41, cells41, tyOk42, agg42, cells42, tyOk43, agg43, cells43, tyOk44, agg44, cells44, tyOk45, agg45, cells45, tyOk46, agg46, cells46, tyOk47, agg47, cells47, tyOk48, agg48, cells48, tyOk49, agg49, cells49, zero49, tyOk50, agg50, cells50, tyOk51, agg51, cells51, tyOk52, agg52, cells52, zero52, tyOk53, agg53, cells53, zero53, fadr53_0, fld53_0, fadr53_1, fld53_1, fadr53_2, fld53_2, fadr53_3, fld53_3, bz53, bds53, tyOk54, agg54, cells54, zero54, fadr54_0, fld54_0, fadr54_1, fld54_1, fadr54_2, fld54_2, fadr54_3, fld54_3, bz54, bds54, tyOk55, agg55, cells55, tyOk56, agg56, cells56, tyOk57, agg57, cells57, zero57, fadr57_0, fld57_0, fadr57_1, fld57_1, fadr57_2, fld57_2, fadr57_3, fld57_3, bz57, bds57, tyOk58, agg58, cells58, zero58, info58, apS49, apN49, bs58_1, bs58_0, fadr58_0, fld58_0, fadr58_1, fld58_1, fadr58_2, fld58_2, fadr58_3, fld58_3, bz58, bds58, tyOk59, agg59, cells59, tyOk60, agg60, cells60, tyOk61, agg61, cells61, tyOk62, agg62, cells62, tyOk63, agg63, cells63, tyOk64, agg64, cells64, tyOk65, agg65, cells65, tyOk66, agg66, cells66, tyOk67, agg67, cells67, tyOk68, agg68, cells68, tyOk69, agg69, cells69, tyOk70, agg70, cells70, tyOk71, agg71, cells71, tyOk72, agg72, cells72, tyOk73, agg73, cells73, tyOk74, agg74, cells74, zero74, tyOk75, agg75, cells75, tyOk76, agg76, cells76, tyOk77, agg77, cells77, tyOk78, agg78, cells78, zero78, ix78, bz78, tyOk79, agg79, cells79, tyOk80, agg80, cells80, tyOk81, agg81, cells81, tyOk82, agg82, cells82, tyOk83, agg83, cells83, tyOk84, agg84, cells84, tyOk85, agg85, cells85, zero85, info85, mk85, bs85_0, bs85_1, bs85_2, bs85_3, bs85_4, bs85_5, bs85_6, bs85_7, bs85_8, bs85_10, bs85_11, bs85_12, bs85_13, tyOk86, agg86, cells86, zero86, ix86, bz86, bd86, tyOk87, agg87, cells87, tyOk88, agg88, cells88, zero88, ix88, bz88, tyOk89, agg89, cells89, tyOk90, agg90, cells90, tyOk91, agg91, cells91, tyOk92, agg92, cells92, tyOk93, agg93, cells93, tyOk94, agg94, cells94, tyOk95, agg95, cells95, tyOk96, agg96, cells96, tyOk97, agg97, cells97, tyOk98, agg98, cells98, tyOk99, agg99, cells99, tyOk100, agg100, cells100, tyOk101, agg101, cells101, tyOk102, agg102, cells102, tyOk103, agg103, cells103, tyOk104, agg104, cells104, tyOk105, agg105, cells105, tyOk106, agg106, cells106, tyOk107, agg107, cells107, tyOk108, agg108, cells108, tyOk109, agg109, cells109, zero109, fadr109_0, fld109_0, fadr109_1, fld109_1, fadr109_2, fld109_2, bz109, bds109, tyOk110, agg110, cells110, zero110, fadr110_0, fld110_0, fadr110_1, fld110_1, fadr110_2, fld110_2, bz110, bds110, tyOk111, agg111, cells111, tyOk112, agg112, cells112, tyOk113, agg113, cells113, zero113, tyOk114, agg114, cells114, zero114, fadr114_0, fld114_0, fadr114_1, fld114_1, bz114, bds114, tyOk115, agg115, cells115, zero115, fadr115_0, fld115_0, fadr115_1, fld115_1, bz115, bds115, tyOk116, agg116, cells116, tyOk117, agg117, cells117, tyOk118, agg118, cells118, tyOk119, agg119, cells119, tyOk120, agg120, cells120, tyOk121, agg121, cells121, tyOk122, agg122, cells122, tyOk123, agg123, cells123, tyOk124, agg124, cells124, tyOk125, agg125, cells125, zero125, tyOk126, agg126, cells126, tyOk127, agg127, cells127, tyOk128, agg128, cells128, tyOk129, agg129, cells129, zero129, info129, mk129, bs129_0, bs129_1, bs129_2, bs129_3, bs129_4, bs129_5, bs129_6, bs129_7, bs129_8, bs129_10, bs129_11, bs129_12, bs129_13, tyOk130, agg130, cells130, tyOk131, agg131, cells131, tyOk132, agg132, cells132, zero132, tyOk133, agg133, cells133, zero133, tyOk134, agg134, cells134, tyOk135, agg135, cells135, tyOk136, agg136, cells136, zero136, fadr136_0, fld136_0, fadr136_1, fld136_1, fadr136_2, fld136_2, fadr136_3, fld136_3, bz136, bds136, tyOk137, agg137, cells137, zero137, fadr137_0, fld137_0, fadr137_1, fld137_1, fadr137_2, fld137_2, fadr137_3, fld137_3, bz137, bds137, tyOk138, agg138, cells138, zero138, tyOk139, agg139, cells139, zero139, tyOk140, agg140, cells140, zero140, tyOk141, agg141, cells141, isU141, zero141, info141, mk141, bs141_0, bs141_1, bs141_2, bs141_3, bs141_4, bs141_5, bs141_6, bs141_7, bs141_8, bs141_10, bs141_11, bs141_12, bs141_13, tyOk142, agg142, cells142, isU142, zero142, info142, mk142, bs142_0, bs142_1, bs142_2, bs142_3, bs142_4, bs142_5, bs142_6, bs142_7, bs142_8, bs142_10, bs142_11, bs142_12, bs142_13, tyOk143, agg143, cells143, tyOk144, agg144, cells144, zero144, info144, mk144, bs144_0, bs144_1, bs144_2, bs144_3, bs144_4, bs144_5, bs144_6, bs144_7, bs144_8, bs144_10, bs144_11, bs144_12, bs144_13, tyOk145, agg145, cells145, zero145, info145, mk145, bs145_0, bs145_1, bs145_2, bs145_3, bs145_4, bs145_5, bs145_6, bs145_7, bs145_8, bs145_10, bs145_11, bs145_12, bs145_13, tyOk146, agg146, cells146, fadr146_0, fld146_0, fadr146_1, fld146_1, fadr146_2, fld146_2, fadr146_3, fld146_3, fadr146_4, fld146_4, fadr146_5, fld146_5, fadr146_6, fld146_6, fadr146_7, fld146_7, fadr146_8, fld146_8, fadr146_9, fld146_9, fadr146_10, fld146_10, tyOk147, agg147, cells147, fadr147_0, fld147_0, fadr147_1, fld147_1, fadr147_2, fld147_2, fadr147_3, fld147_3, fadr147_4, fld147_4, fadr147_5, fld147_5, fadr147_6, fld147_6, fadr147_7, fld147_7, fadr147_8, fld147_8, fadr147_9, fld147_9, fadr147_10, fld147_10, a2, a5, e1, hl8]
      refine ⟨n + 1, by omega, _, rfl, by omega, ?_, ?_, ?_, ?_⟩ <;> simp -implicitDefEqProofs only [ne_eq, Nat.reduceEqDiff, not_false_eq_true, upd_ne, a2, a3, a4, upd_eq] <;> rfl
    · have k1 : ¬ ((64 * n : Nat) : Int) < (padT z).size := by omega
      have hn : n = m := by omega
      subst hn
      have hdl : digL z = wby (blks (padT z) n).l := by rw [digL, hd]
      have hl9 : (blks (padT z) n).l.length = 8 := rfl
      rw [dig, hdl]
      generalize (blks (padT z) n).l = L at *
      simp -implicitDefEqProofs only [↓w_seq, ↓w_region, ↓ops_cons, ↓g_move, ↓g_len, Try.underlying9, Nat.reduceLT, ev_tab, a5, ne_eq, Nat.reduceEqDiff, not_false_eq_true, upd_ne, a4, upd_eq, len_str, ↓g_binOp, ↓ops_nil, ↓w_cond, ↓w_skip, ↓w_block, ↓w_exit, ↓g_makeSlice, Try.underlying22, ev_const, of_int, Int.reduceLE, mk5, Int.reduceToNat, ↓g_assign, alK_some, ints_one, List.length_cons, List.length_nil, Nat.zero_add, Nat.reduceAdd, List.cons_append, List.nil_append, true_and, if_true, onS_some, b_lss, k1, decide_false, onB_false]
      refine w_loop (ι := Nat) (fun i s => ∃ T : Nat → AV, s = ⟨tab 72 T, [⟨ints .u32 (wis L), true, true⟩, ⟨ints .u32 (wis keys), true, true⟩, ⟨ints .u8 (wby (L.take i) ++ List.replicate (4 * (8 - i)) 0), true, true⟩]⟩ ∧ i ≤ 8 ∧ T 3 = .ptr 0 0 ∧ T 7 = .sl 2 0 32 1 ∧ T 8 = .sc (.int .i64 i)) (fun i => 8 - i) ?_ (i := 0) ?_
      · rintro i s ⟨T, rfl, b1, b2, b3, b4⟩
        by_cases hi : i < 8
        · have j1 : (i : Int) < 8 := by omega
          have j0 : ∀ j : Nat, (0 : Int) ≤ (j : Int) := fun j => by omega
          have e1 : IntKind.i64.wrap ((i : Int) + 1) = i + 1 := w64 (by omega) (by omega)
          have f0 : IntKind.i64.wrap (4 * (i : Int)) = ((4 * i : Nat) : Int) := by rw [w64 (by omega) (by omega)]; omega
          have f1 : IntKind.i64.wrap (((4 * i : Nat) : Int) + 1) = ((4 * i + 1 : Nat) : Int) := by rw [w64 (by omega) (by omega)]; omega
          have f2 : IntKind.i64.wrap (((4 * i : Nat) : Int) + 2) = ((4 * i + 2 : Nat) : Int) := by rw [w64 (by omega) (by omega)]; omega
          have f3 : IntKind.i64.wrap (((4 * i : Nat) : Int) + 3) = ((4 * i + 3 : Nat) : Int) := by rw [w64 (by omega) (by omega)]; omega
          have p0 : ((4 * i : Nat) : Int) < 32 := by omega
          have p1 : ((4 * i + 1 : Nat) : Int) < 32 := by omega
          have p2 : ((4 * i + 2 : Nat) : Int) < 32 := by omega
          have p3 : ((4 * i + 3 : Nat) : Int) < 32 := by omega
          have hA : (wby (L.take i)).length = 4 * i := by rw [wby_len, List.length_take]; omega
          obtain ⟨n2, hn2⟩ : ∃ n2, 8 - i = n2 + 1 := ⟨7 - i, by omega⟩
          have q0 : 4 * i < 4 * i + 4 * (n2 + 1) := by omega
          have q1 : 4 * i + 1 < 4 * i + 4 * (n2 + 1) := by omega
          have q2 : 4 * i + 2 < 4 * i + 4 * (n2 + 1) := by omega
          have q3 : 4 * i + 3 < 4 * i + 4 * (n2 + 1) := by omega
          have hlay := lay4 (wby (L.take i)) i n2 hA (wi (L.getD i 0)) _ _ _ _ (hiL4_eq _)
          rw [wby_take L i (by omega)] at hlay
          rw [hn2]
          simp -implicitDefEqProofs only [↓w_seq, ↓w_region, ↓ops_cons, ↓g_move, ↓g_binOp, Nat.reduceLT, ev_tab, b4, upd_eq, ev_const, of_int, b_lss, j1, decide_true, ↓ops_nil, ↓w_cond, ↓w_skip, ↓w_block, ne_eq, Nat.reduceEqDiff, not_false_eq_true, upd_ne, b3, b_mul, f0, ↓g_indexAddr, Try.underlying86, b2, adr_arr, j0, Int.cast_ofNat_Int, tyOk85, and_self, Int.toNat_natCast, cells85, Nat.mul_one, Nat.zero_add, if_true, ↓g_load, ↓g_convert, Try.underlying85, Try.underlying5, Try.underlying22, ↓g_store, b_add, e1, ↓g_assign, onS_some, rd_def, agg85, f3, adr_sl, p3, cells5, tyOk5, wr_def, f2, p2, f1, p1, List.getElem?_cons_zero, rd_ints, wis_len, hl9, hi, wis_get, b_shr, Int.reduceLT, Int.reduceToNat, bits_u32, Nat.reduceLeDiff, Nat.min_eq_left, Int.reducePow, if_false, c_int, by3, p0, List.getElem?_cons_succ, wr_ints, List.length_append, hA, List.length_replicate, q0, List.set_cons_succ, List.set_cons_zero, by2, List.length_set, q1, by1, q2, by0, q3, hlay, ↓w_exit, Try.underlying9, ↓w_ret, ret_one, c_text, isU5, at_def, at_ints, List.drop_zero, onB_true]
          refine ⟨i + 1, by omega, _, congrArg (St.mk _) (by rw [show 8 - (i + 1) = n2 by omega]), by omega, ?_, ?_, ?_⟩ <;> simp -implicitDefEqProofs only [ne_eq, Nat.reduceEqDiff, not_false_eq_true, upd_ne, b2, b3, upd_eq] <;> rfl
        · have j1 : ¬ (i : Int) < 8 := by omega
          have hi8 : i = 8 := by omega
          subst hi8
          have hz8 : wby (L.take 8) ++ List.replicate (4 * (8 - 8)) 0 = wby L := by
            rw [List.take_of_length_le (by omega)]
            simp
          have h32 : (wby L).take 32 = wby L := List.take_of_length_le (by rw [wby_len]; omega)
          rw [hz8]
          simp -implicitDefEqProofs only [↓w_seq, ↓w_region, Nat.reduceSub, ↓ops_cons, ↓g_move, ↓g_binOp, Nat.reduceLT, ev_tab, b4, Int.cast_ofNat_Int, upd_eq, ev_const, of_int, b_lss, Int.reduceLT, decide_false, ↓ops_nil, ↓w_cond, ↓w_skip, ↓w_block, ne_eq, Nat.reduceEqDiff, not_false_eq_true, upd_ne, b3, b_mul, Int.reduceMul, ↓g_indexAddr, Try.underlying86, b2, adr_arr, Int.reduceLE, tyOk85, and_true, and_false, Int.reduceToNat, cells85, Nat.mul_one, Nat.zero_add, if_false, ↓g_load, ↓g_convert, Try.underlying85, Try.underlying5, Try.underlying22, ↓g_store, b_add, Int.reduceAdd, ↓g_assign, onS_some, adr_sl, cells5, tyOk5, and_self, onS_ite, wr_def, ↓w_exit, Try.underlying9, ↓w_ret, ret_one, c_text, isU5, at_def, List.getElem?_cons_succ, List.getElem?_cons_zero, at_ints, wby_len, hl9, Nat.reduceMul, Nat.le_refl, List.drop_zero, h32, if_true, Option.bind_some, bytesA_ints, Option.map_some, onB_false]
      · refine ⟨_, rfl, by omega, ?_, ?_, ?_⟩ <;> simp -implicitDefEqProofs only [ne_eq, Nat.reduceEqDiff, not_false_eq_true, upd_ne, a2, upd_eq, Int.cast_ofNat_Int] <;> rfl
  · refine ⟨_, rfl, by omega, ?_, ?_, ?_, ?_⟩ <;> simp -implicitDefEqProofs only [ne_eq, Nat.reduceEqDiff, not_false_eq_true, upd_ne, upd_eq, Nat.reduceMul, Int.cast_ofNat_Int] <;> rfl
end Go.Proofs.Ytknmbiebnpojjaa.Sim
namespace Go.Proofs.Ytknmbiebnpojjaa.Sim
open Go
set_option maxRecDepth 100000
set_option maxHeartbeats 4000000
set_option linter.unusedSimpArgs false
set_option linter.unusedVariables false
def maskL (l : List Int) (x : Int) : List Int := l.map fun y => bits .xor .u8 y x
def maskT (z : ByteArray) (x : Int) : ByteArray := strOfNums (maskL (nums z) x)
theorem maskL_len (l : List Int) (x : Int) : (maskL l x).length = l.length := by simp [maskL]
def mixI (A B : List Int) (i : Nat) : List Int := B.take i ++ A.drop i
theorem mixI_len (A B : List Int) (i : Nat) (h : A.length = B.length) : (mixI A B i).length = B.length := by
  simp only [mixI, List.length_append, List.length_take, List.length_drop]
  omega
theorem mixI_get (A B : List Int) (i : Nat) (h : A.length = B.length) (hi : i < B.length) : (mixI A B i).getD i 0 = A.getD i 0 := by
  simp only [mixI, List.getD_eq_getElem?_getD]
  rw [List.getElem?_append_right (by rw [List.length_take]; omega), List.length_take, Nat.min_eq_left (by omega), Nat.sub_self, List.getElem?_drop, Nat.add_zero]
theorem mixI_set (A B : List Int) (i : Nat) (h : A.length = B.length) (hi : i < B.length) : (mixI A B i).set i (B.getD i 0) = mixI A B (i + 1) := by
  have hA : i < A.length := by omega
  simp only [mixI, List.getD_eq_getElem?_getD]
  rw [List.set_append_right _ _ (by rw [List.length_take]; omega), List.length_take, Nat.min_eq_left (by omega), Nat.sub_self, List.drop_eq_getElem_cons hA, List.set_cons_zero, List.take_add_one (l := B) (i := i), List.getElem?_eq_getElem hi]
  simp only [Option.getD_some, Option.toList_some, List.append_assoc, List.singleton_append]
theorem maskL_get (l : List Int) (x : Int) (i : Nat) (h : i < l.length) : (maskL l x).getD i 0 = bits .xor .u8 (l.getD i 0) x := by
  simp [maskL, h]
theorem mixI_0 (A B : List Int) : mixI A B 0 = A := by simp [mixI]
theorem mixI_all (A B : List Int) (h : A.length = B.length) : mixI A B B.length = B := by simp [mixI, h]
theorem maskI (z : ByteArray) (x : Int) (hz : z.size ≤ 1000000000) : Fn Try.prog 111 [.sc (.string z), .sc (.int .u8 x)] (.sc (.string (maskT z x))) := by
  refine Fn.run 24 [.tmp 4] Try.func111 rfl rfl rfl rfl (by simp) (flats_cons (.sc _) (flats_cons (.sc _) flats_nil)) (.sc _) ?_
  simp -implicitDefEqProofs only [↓w_seq, ↓w_region, ↓ops_cons, ↓g_assign, ↓ops_nil, ev_const, of_str, ↓g_move, ↓g_convert, Try.underlying9, Try.underlying22, Nat.reduceLT, ev_tab, ne_eq, reduceCtorEq, not_false_eq_true, upd_ne, par0, upd_eq, ↓g_len, ↓w_block, of_int, c_bytes, isU5, cells5, and_self, List.length_nil, len_sl, bytes_ints, List.nil_append, onS_some, true_and]
  have hAB : (nums z).length = (maskL (nums z) x).length := (maskL_len _ _).symm
  have hBl : (maskL (nums z) x).length = z.size := by rw [maskL_len, nums_len]
  refine w_loop (ι := Nat) (fun i s => ∃ T : Nat → AV, s = ⟨tab 24 T, [⟨ints .u8 (mixI (nums z) (maskL (nums z) x) i), true, true⟩]⟩ ∧ i ≤ z.size ∧ T 1 = .sc (.int .u8 x) ∧ T 5 = .sl 0 0 z.size 1 ∧ T 10 = .sc (.int .i64 z.size) ∧ T 11 = .sc (.int .i64 i)) (fun i => z.size - i) ?_ (i := 0) ?_
  · rintro i s ⟨T, rfl, a1, a2, a3, a4, a5⟩
    have hml : (mixI (nums z) (maskL (nums z) x) i).length = z.size := by rw [mixI_len _ _ _ hAB, hBl]
    by_cases h : i < z.size
    · have k1 : (i : Int) < z.size := by omega
      have k0 : (0 : Int) ≤ i := by omega
      have e1 : IntKind.i64.wrap ((i : Int) + 1) = i + 1 := w64 (by omega) (by omega)
      have hs := mixI_set (nums z) (maskL (nums z) x) i hAB (by omega)
      rw [maskL_get _ _ _ (by rw [nums_len]; exact h)] at hs
      have hg := mixI_get (nums z) (maskL (nums z) x) i hAB (by omega)
      simp -implicitDefEqProofs only [↓w_seq, ↓w_region, ↓ops_cons, ↓g_binOp, Nat.reduceLT, ev_tab, a5, a4, b_lss, k1, decide_true, ↓ops_nil, ↓w_cond, upd_eq, ↓w_skip, ↓w_block, ↓g_move, ↓g_assign, ne_eq, Nat.reduceEqDiff, not_false_eq_true, upd_ne, ↓g_indexAddr, Try.underlying22, a3, adr_sl, k0, cells5, tyOk5, and_self, Int.toNat_natCast, Nat.mul_one, Nat.zero_add, if_true, ↓g_load, a2, ↓g_store, ev_const, of_int, b_add, e1, onS_some, wr_def, List.getElem?_cons_zero, rd_def, agg5, rd_ints, hml, h, hg, b_xor, wr_ints, hs, List.set_cons_zero, ↓w_exit, ↓g_convert, Try.underlying9, ↓w_ret, ret_one, c_text, isU5, at_def, at_ints, Nat.le_refl, List.drop_zero, Option.bind_some, bytesA_ints, Option.map_some, onB_true]
      refine ⟨i + 1, by omega, _, rfl, by omega, ?_, ?_, ?_, ?_⟩ <;> simp -implicitDefEqProofs only [ne_eq, Nat.reduceEqDiff, not_false_eq_true, upd_ne, a2, a3, a4, upd_eq] <;> rfl
    · have k1 : ¬ (i : Int) < z.size := by omega
      have hi : i = z.size := by omega
      subst hi
      have hall : mixI (nums z) (maskL (nums z) x) z.size = maskL (nums z) x := by
        have := mixI_all _ _ hAB
        rwa [hBl] at this
      rw [hall] at hml ⊢
      have ht : (maskL (nums z) x).take z.size = maskL (nums z) x := List.take_of_length_le (by omega)
      simp -implicitDefEqProofs only [↓w_seq, ↓w_region, ↓ops_cons, ↓g_binOp, Nat.reduceLT, ev_tab, a5, a4, b_lss, k1, decide_false, ↓ops_nil, ↓w_cond, upd_eq, ↓w_skip, ↓w_block, ↓g_move, ↓g_assign, ne_eq, Nat.reduceEqDiff, not_false_eq_true, upd_ne, ↓g_indexAddr, Try.underlying22, a3, adr_sl, cells5, tyOk5, and_self, and_true, and_false, Nat.mul_one, Nat.zero_add, if_false, ↓g_load, a2, ↓g_store, ev_const, of_int, b_add, onS_some, ↓w_exit, ↓g_convert, Try.underlying9, ↓w_ret, ret_one, c_text, isU5, at_def, List.getElem?_cons_zero, at_ints, hml, Nat.le_refl, List.drop_zero, ht, if_true, Option.bind_some, bytesA_ints, Option.map_some, onB_false]
      rfl
  · refine ⟨_, congrArg (St.mk _) (by rw [mixI_0]), by omega, ?_, ?_, ?_, ?_⟩ <;> simp -implicitDefEqProofs only [ne_eq, Nat.reduceEqDiff, not_false_eq_true, upd_ne, par1, upd_eq, Int.cast_ofNat_Int] <;> rfl
theorem maskS (z : ByteArray) (x : Int) (hz : z.size ≤ 1000000000) : Fn Try.prog 113 [.sc (.string z), .sc (.int .u8 x)] (.sc (.string (maskT z x))) := by
  refine Fn.run 26 [.tmp 4] Try.func113 rfl rfl rfl rfl (by simp) (flats_cons (.sc _) (flats_cons (.sc _) flats_nil)) (.sc _) ?_
  simp -implicitDefEqProofs only [↓w_seq, ↓w_region, ↓ops_cons, ↓g_assign, ↓ops_nil, ev_const, of_str, ↓g_move, ↓g_convert, Try.underlying9, Try.underlying22, Nat.reduceLT, ev_tab, ne_eq, reduceCtorEq, not_false_eq_true, upd_ne, par0, upd_eq, ↓w_block, of_int, c_bytes, isU5, cells5, and_self, List.length_nil, bytes_ints, List.nil_append, true_and]
  have hAB : (nums z).length = (maskL (nums z) x).length := (maskL_len _ _).symm
  have hBl : (maskL (nums z) x).length = z.size := by rw [maskL_len, nums_len]
  refine w_loop (ι := Nat) (fun i s => ∃ T : Nat → AV, s = ⟨tab 26 T, [⟨ints .u8 (mixI (nums z) (maskL (nums z) x) i), true, true⟩]⟩ ∧ i ≤ z.size ∧ T 1 = .sc (.int .u8 x) ∧ T 5 = .sl 0 0 z.size 1 ∧ T 6 = .sc (.int .i64 i)) (fun i => z.size - i) ?_ (i := 0) ?_
  · rintro i s ⟨T, rfl, a1, a2, a3, a5⟩
    have hml : (mixI (nums z) (maskL (nums z) x) i).length = z.size := by rw [mixI_len _ _ _ hAB, hBl]
    by_cases h : i < z.size
    · have k1 : (i : Int) < z.size := by omega
      have k0 : (0 : Int) ≤ i := by omega
      have e1 : IntKind.i64.wrap ((i : Int) + 1) = i + 1 := w64 (by omega) (by omega)
      have hs := mixI_set (nums z) (maskL (nums z) x) i hAB (by omega)
      rw [maskL_get _ _ _ (by rw [nums_len]; exact h)] at hs
      have hg := mixI_get (nums z) (maskL (nums z) x) i hAB (by omega)
      simp -implicitDefEqProofs only [↓w_seq, ↓w_region, ↓ops_cons, ↓g_move, ↓g_len, Try.underlying22, Nat.reduceLT, ev_tab, a5, ne_eq, Nat.reduceEqDiff, not_false_eq_true, upd_ne, a3, upd_eq, len_sl, ↓g_binOp, ↓ops_nil, ↓w_cond, ↓w_skip, ↓w_block, ↓g_indexAddr, adr_sl, k1, cells5, tyOk5, and_self, and_true, Nat.mul_one, Nat.zero_add, ↓g_load, a2, ↓g_store, ev_const, of_int, b_add, ↓g_assign, onS_some, onS_ite, wr_def, List.getElem?_cons_zero, rd_def, agg5, rd_ints, b_xor, wr_ints, List.set_cons_zero, ↓w_exit, ↓g_convert, Try.underlying9, ↓w_ret, ret_one, c_text, isU5, at_def, at_ints, List.drop_zero, if_true, b_lss, decide_true, onB_true]
      try refine drawn [] follows (by kernel_rfl) (by kernel_rfl) ?_
      simp -implicitDefEqProofs only [k0, Int.toNat_natCast, hml, h, hg, e1, hs, true_and]
      refine ⟨i + 1, by omega, _, rfl, by omega, ?_, ?_, ?_⟩ <;> simp -implicitDefEqProofs only [ne_eq, Nat.reduceEqDiff, not_false_eq_true, upd_ne, a2, a3, upd_eq] <;> rfl
    · have k1 : ¬ (i : Int) < z.size := by omega
      have hi : i = z.size := by omega
      subst hi
      have hall : mixI (nums z) (maskL (nums z) x) z.size = maskL (nums z) x := by
        have := mixI_all _ _ hAB
        rwa [hBl] at this
      rw [hall] at hml ⊢
      have ht : (maskL (nums z) x).take z.size = maskL (nums z) x := List.take_of_length_le (by omega)
      simp -implicitDefEqProofs only [↓w_seq, ↓w_region, ↓ops_cons, ↓g_move, ↓g_len, Try.underlying22, Nat.reduceLT, ev_tab, a5, ne_eq, Nat.reduceEqDiff, not_false_eq_true, upd_ne, a3, upd_eq, len_sl, ↓g_binOp, ↓ops_nil, ↓w_cond, ↓w_skip, ↓w_block, ↓g_indexAddr, adr_sl, k1, cells5, tyOk5, and_self, and_true, and_false, Nat.mul_one, Nat.zero_add, if_false, ↓g_load, a2, ↓g_store, ev_const, of_int, b_add, ↓g_assign, onS_some, ↓w_exit, ↓g_convert, Try.underlying9, ↓w_ret, ret_one, c_text, isU5, at_def, List.getElem?_cons_zero, at_ints, hml, Nat.le_refl, List.drop_zero, ht, if_true, Option.bind_some, bytesA_ints, Option.map_some, b_lss, decide_false, onB_false]
      rfl
  · refine ⟨_, congrArg (St.mk _) (by rw [mixI_0]), by omega, ?_, ?_, ?_⟩ <;> simp -implicitDefEqProofs only [ne_eq, Nat.reduceEqDiff, not_false_eq_true, upd_ne, par1, upd_eq, Int.cast_ofNat_Int] <;> rfl
end Go.Proofs.Ytknmbiebnpojjaa.Sim
namespace Go.Proofs.Ytknmbiebnpojjaa.Sim
open Go
set_option maxRecDepth 100000
set_option linter.unusedSimpArgs false
set_option linter.unusedVariables false
theorem rep_next (b : Int) (n i : Nat) (h : i < n) : (List.replicate i b ++ List.replicate (n - i) 0).set i b = List.replicate (i + 1) b ++ List.replicate (n - (i + 1)) 0 := by
  obtain ⟨m, hm⟩ : ∃ m, n - i = m + 1 := ⟨n - i - 1, by omega⟩
  rw [hm, show n - (i + 1) = m by omega, List.set_append_right _ _ (by simp), List.length_replicate, Nat.sub_self, List.replicate_succ, List.set_cons_zero, List.replicate_succ', List.append_assoc]
  rfl
theorem longS (n : Nat) (b : Int) (hn : n ≤ 1000000000) : Fn Try.prog 83 [.sc (.int .i64 n), .sc (.int .u8 b)] (.sc (.string (strOfNums (List.replicate n b)))) := by
  refine Fn.run 20 [.tmp 4] Try.func83 rfl rfl rfl rfl (by simp) (flats_cons (.sc _) (flats_cons (.sc _) flats_nil)) (.sc _) ?_
  have k0 : ∀ j : Nat, (0 : Int) ≤ (j : Int) := fun j => by omega
  have k1 : (n : Int) ≤ 1000000000000 := by omega
  simp -implicitDefEqProofs only [↓w_seq, ↓w_region, ↓ops_cons, ↓g_assign, ↓ops_nil, ev_const, of_str, ↓g_move, ↓g_makeSlice, Try.underlying22, Nat.reduceLT, ev_tab, ne_eq, reduceCtorEq, not_false_eq_true, upd_ne, par0, upd_eq, k0, k1, mk5, Int.toNat_natCast, ↓w_block, of_int, alK_some, ints_one, List.length_nil, List.nil_append, true_and]
  refine w_loop (ι := Nat) (fun i s => ∃ T : Nat → AV, s = ⟨tab 20 T, [⟨ints .u8 (List.replicate i b ++ List.replicate (n - i) 0), true, true⟩]⟩ ∧ i ≤ n ∧ T 0 = .sc (.int .i64 n) ∧ T 1 = .sc (.int .u8 b) ∧ T 5 = .sl 0 0 n 1 ∧ T 6 = .sc (.int .i64 i)) (fun i => n - i) ?_ (i := 0) ?_
  · rintro i s ⟨T, rfl, a1, a2, a3, a4, a5⟩
    by_cases h : i < n
    · have k2 : (i : Int) < n := by omega
      have k3 : i < i + (n - i) := by omega
      have e1 : IntKind.i64.wrap ((i : Int) + 1) = i + 1 := w64 (by omega) (by omega)
      simp -implicitDefEqProofs only [↓w_seq, ↓w_region, ↓ops_cons, ↓g_move, ↓g_binOp, Nat.reduceLT, ev_tab, a5, ne_eq, reduceCtorEq, not_false_eq_true, upd_ne, a2, Nat.reduceEqDiff, upd_eq, b_lss, k2, decide_true, ↓ops_nil, ↓w_cond, ↓w_skip, ↓w_block, ↓g_indexAddr, Try.underlying22, a4, a3, adr_sl, k0, cells5, tyOk5, and_self, Int.toNat_natCast, Nat.mul_one, Nat.zero_add, if_true, ↓g_store, ev_const, of_int, b_add, e1, ↓g_assign, onS_some, wr_def, List.getElem?_cons_zero, wr_ints, List.length_append, List.length_replicate, k3, rep_next b n i h, List.set_cons_zero, ↓w_exit, ↓g_convert, Try.underlying9, ↓w_ret, ret_one, c_text, isU5, at_def, at_ints, List.drop_zero, onB_true]
      refine ⟨i + 1, by omega, _, rfl, by omega, ?_, ?_, ?_, ?_⟩ <;> simp -implicitDefEqProofs only [ne_eq, reduceCtorEq, not_false_eq_true, upd_ne, a2, Nat.reduceEqDiff, a3, a4, upd_eq] <;> rfl
    · have k2 : ¬ (i : Int) < n := by omega
      have hi : i = n := by omega
      subst hi
      have e : List.replicate i b ++ List.replicate (i - i) 0 = List.replicate i b := by simp
      have ht : (List.replicate i b).take i = List.replicate i b := List.take_of_length_le (by simp)
      rw [e]
      simp -implicitDefEqProofs only [↓w_seq, ↓w_region, ↓ops_cons, ↓g_move, ↓g_binOp, Nat.reduceLT, ev_tab, a5, ne_eq, reduceCtorEq, not_false_eq_true, upd_ne, a2, Nat.reduceEqDiff, upd_eq, b_lss, k2, decide_false, ↓ops_nil, ↓w_cond, ↓w_skip, ↓w_block, ↓g_indexAddr, Try.underlying22, a4, a3, adr_sl, cells5, tyOk5, and_self, and_true, and_false, Nat.mul_one, Nat.zero_add, if_false, ↓g_store, ev_const, of_int, b_add, ↓g_assign, onS_some, ↓w_exit, ↓g_convert, Try.underlying9, ↓w_ret, ret_one, c_text, isU5, at_def, List.getElem?_cons_zero, at_ints, List.length_replicate, Nat.le_refl, List.drop_zero, ht, if_true, Option.bind_some, bytesA_ints, Option.map_some, onB_false]
  · refine ⟨_, congrArg (St.mk _) (by simp), by omega, ?_, ?_, ?_, ?_⟩ <;> simp -implicitDefEqProofs only [ne_eq, reduceCtorEq, not_false_eq_true, upd_ne, par0, Nat.reduceEqDiff, par1, upd_eq, Int.cast_ofNat_Int] <;> rfl
end Go.Proofs.Ytknmbiebnpojjaa.Sim
namespace Go.Proofs.Ytknmbiebnpojjaa.Sim
open Go
set_option maxRecDepth 100000
set_option maxHeartbeats 4000000
set_option linter.unusedSimpArgs false
set_option linter.unusedVariables false
def keyK (z : ByteArray) : ByteArray := if 64 < z.size then dig z else z
def keyT (z : ByteArray) : ByteArray := strOfNums (nums (keyK z) ++ List.replicate (64 - (keyK z).size) 0)
theorem keyK_size (z : ByteArray) : (keyK z).size ≤ 64 := by
  unfold keyK
  split
  · rw [dig_size]; omega
  · omega
theorem keyT_size (z : ByteArray) : (keyT z).size = 64 := by
  have := keyK_size z
  rw [keyT, son_size, List.length_append, nums_len, List.length_replicate]
  omega
theorem app_son (z : ByteArray) (l : List Int) : z ++ strOfNums l = strOfNums (nums z ++ l) := by rw [← son_append, son_nums]
theorem mask_size (z : ByteArray) (x : Int) : (maskT z x).size = z.size := by rw [maskT, son_size, maskL_len, nums_len]
theorem keyI (z : ByteArray) (hz : z.size ≤ 1000000000) : Fn Try.prog 110 [.sc (.string z)] (.sc (.string (keyT z))) := by
  refine Fn.run 14 [.tmp 2] Try.func110 rfl rfl rfl rfl (by simp) (flats_cons (.sc _) flats_nil) (.sc _) ?_
  have hk := keyK_size z
  have e1 : IntKind.i64.wrap (64 - ((keyK z).size : Int)) = ((64 - (keyK z).size : Nat) : Int) := by rw [w64 (by omega) (by omega)]; omega
  simp -implicitDefEqProofs only [↓w_seq, ↓w_region, ↓ops_cons, ↓g_assign, ↓ops_nil, ev_const, of_str, ↓g_move, ↓g_len, Try.underlying9, Nat.reduceLT, ev_tab, ne_eq, reduceCtorEq, not_false_eq_true, upd_ne, par0, upd_eq, len_str, ↓g_binOp, of_int, ↓w_cond, ↓w_skip, onS_some, b_sub, b_gtr, onB_dec]
  by_cases h : (64 : Int) < z.size
  · rw [if_pos h]
    refine call1 (by simp -implicitDefEqProofs only [List.map_cons, Nat.reduceLT, ev_tab, upd_eq, List.map_nil] <;> rfl) (digI z hz) ?_
    have hd : dig z = keyK z := by rw [keyK, if_pos (by omega)]
    simp -implicitDefEqProofs only [↓ops_cons, ↓g_assign, ↓ops_nil, ↓w_seq, ↓w_region, hd, Nat.reduceLT, ev_tab, upd_eq, ↓g_move, ↓g_len, Try.underlying9, ne_eq, reduceCtorEq, not_false_eq_true, upd_ne, len_str, ↓g_binOp, ev_const, of_int, onS_some, b_sub, e1]
    refine call1 (by simp -implicitDefEqProofs only [List.map_cons, ev_const, of_str, Nat.reduceLT, ev_tab, upd_eq, List.map_nil] <;> rfl) (repeatC ⟨#[0]⟩ 0 rfl (64 - (keyK z).size) (by omega)) ?_
    simp -implicitDefEqProofs only [↓ops_cons, ↓g_binOp, Nat.reduceLT, ev_tab, ne_eq, Nat.reduceEqDiff, not_false_eq_true, upd_ne, upd_eq, t_add, son_size, List.length_replicate, ↓g_assign, ↓ops_nil, ↓w_ret, ret_one, onS_ite]
    refine ⟨by omega, ?_⟩
    rw [app_son, keyT]
    rfl
  · rw [if_neg h]
    have hd : z = keyK z := by rw [keyK, if_neg (by omega)]
    have e2 : IntKind.i64.wrap (64 - (z.size : Int)) = ((64 - z.size : Nat) : Int) := by rw [w64 (by omega) (by omega)]; omega
    simp -implicitDefEqProofs only [e2]
    refine call1 (by simp -implicitDefEqProofs only [List.map_cons, ev_const, of_str, Nat.reduceLT, ev_tab, upd_eq, List.map_nil] <;> rfl) (repeatC ⟨#[0]⟩ 0 rfl (64 - z.size) (by omega)) ?_
    simp -implicitDefEqProofs only [↓ops_cons, ↓g_binOp, Nat.reduceLT, ev_tab, ne_eq, Nat.reduceEqDiff, not_false_eq_true, upd_ne, upd_eq, t_add, son_size, List.length_replicate, ↓g_assign, ↓ops_nil, ↓w_ret, ret_one, onS_ite]
    refine ⟨by omega, ?_⟩
    rw [app_son, keyT, ← hd]
    rfl
theorem keyS (z : ByteArray) (hz : z.size ≤ 1000000000) : Fn Try.prog 112 [.sc (.string z)] (.sc (.string (keyT z))) := by
  refine Fn.run 14 [.tmp 2] Try.func112 rfl rfl rfl rfl (by simp) (flats_cons (.sc _) flats_nil) (.sc _) ?_
  have hk := keyK_size z
  have e1 : IntKind.i64.wrap (64 - ((keyK z).size : Int)) = ((64 - (keyK z).size : Nat) : Int) := by rw [w64 (by omega) (by omega)]; omega
  simp -implicitDefEqProofs only [↓w_seq, ↓w_region, ↓ops_cons, ↓g_assign, ↓ops_nil, ev_const, of_str, ↓g_move, ↓g_len, Try.underlying9, Nat.reduceLT, ev_tab, ne_eq, reduceCtorEq, not_false_eq_true, upd_ne, par0, upd_eq, len_str, ↓g_binOp, of_int, ↓w_cond, ↓w_skip, onS_some, b_sub, b_gtr, onB_dec]
  by_cases h : (64 : Int) < z.size
  · rw [if_pos h]
    refine call1 (by simp -implicitDefEqProofs only [List.map_cons, Nat.reduceLT, ev_tab, upd_eq, List.map_nil] <;> rfl) (digS z hz) ?_
    have hd : dig z = keyK z := by rw [keyK, if_pos (by omega)]
    simp -implicitDefEqProofs only [↓ops_cons, ↓g_assign, ↓ops_nil, ↓w_seq, ↓w_region, hd, Nat.reduceLT, ev_tab, upd_eq, ↓g_move, ↓g_len, Try.underlying9, ne_eq, reduceCtorEq, not_false_eq_true, upd_ne, len_str, ↓g_binOp, ev_const, of_int, onS_some, b_sub, e1]
    refine call1 (by simp -implicitDefEqProofs only [List.map_cons, Nat.reduceLT, ev_tab, upd_eq, ev_const, of_int, List.map_nil] <;> rfl) (longS (64 - (keyK z).size) 0 (by omega)) ?_
    simp -implicitDefEqProofs only [↓ops_cons, ↓g_binOp, Nat.reduceLT, ev_tab, ne_eq, Nat.reduceEqDiff, not_false_eq_true, upd_ne, upd_eq, t_add, son_size, List.length_replicate, ↓g_assign, ↓ops_nil, ↓w_ret, ret_one, onS_ite]
    refine ⟨by omega, ?_⟩
    rw [app_son, keyT]
  · rw [if_neg h]
    have hd : z = keyK z := by rw [keyK, if_neg (by omega)]
    have e2 : IntKind.i64.wrap (64 - (z.size : Int)) = ((64 - z.size : Nat) : Int) := by rw [w64 (by omega) (by omega)]; omega
    simp -implicitDefEqProofs only [e2]
    refine call1 (by simp -implicitDefEqProofs only [List.map_cons, Nat.reduceLT, ev_tab, upd_eq, ev_const, of_int, List.map_nil] <;> rfl) (longS (64 - z.size) 0 (by omega)) ?_
    simp -implicitDefEqProofs only [↓ops_cons, ↓g_binOp, Nat.reduceLT, ev_tab, ne_eq, Nat.reduceEqDiff, not_false_eq_true, upd_ne, upd_eq, t_add, son_size, List.length_replicate, ↓g_assign, ↓ops_nil, ↓w_ret, ret_one, onS_ite]
    refine ⟨by omega, ?_⟩
    rw [app_son, keyT, ← hd]
def hmac (k t : ByteArray) : ByteArray := dig (maskT (keyT k) 92 ++ dig (maskT (keyT k) 54 ++ t))
theorem hmac_size (k t : ByteArray) : (hmac k t).size = 32 := dig_size _
theorem hmacI (k t : ByteArray) (hk : k.size ≤ 900000000) (ht : t.size ≤ 900000000) : Fn Try.prog 79 [.sc (.string k), .sc (.string t)] (.sc (.string (hmac k t))) := by
  refine Fn.run 17 [.tmp 4] Try.func79 rfl rfl rfl rfl (by simp) (flats_cons (.sc _) (flats_cons (.sc _) flats_nil)) (.sc _) ?_
  have h1 := keyT_size k
  have h2 : (maskT (keyT k) 54).size = 64 := by rw [mask_size, h1]
  have h3 : (maskT (keyT k) 92).size = 64 := by rw [mask_size, h1]
  simp -implicitDefEqProofs only [↓w_seq, ↓w_region, ↓ops_cons, ↓g_assign, ↓ops_nil, ev_const, of_str, ↓g_move, Nat.reduceLT, ev_tab, ne_eq, reduceCtorEq, not_false_eq_true, upd_ne, par0]
  refine call1 (by simp -implicitDefEqProofs only [List.map_cons, Nat.reduceLT, ev_tab, upd_eq, List.map_nil] <;> rfl) (keyI k (by omega)) ?_
  simp -implicitDefEqProofs only [↓ops_cons, ↓g_assign, ↓ops_nil, ↓w_seq, ↓w_region, Nat.reduceLT, ev_tab, upd_eq, ↓g_move]
  refine call1 (by simp -implicitDefEqProofs only [List.map_cons, Nat.reduceLT, ev_tab, upd_eq, ev_const, of_int, List.map_nil] <;> rfl) (maskI _ 92 (by omega)) ?_
  simp -implicitDefEqProofs only [↓ops_cons, ↓g_move, Nat.reduceLT, ev_tab, ne_eq, Nat.reduceEqDiff, not_false_eq_true, upd_ne, upd_eq]
  refine call1 (by simp -implicitDefEqProofs only [List.map_cons, Nat.reduceLT, ev_tab, upd_eq, ev_const, of_int, List.map_nil] <;> rfl) (maskI _ 54 (by omega)) ?_
  simp -implicitDefEqProofs only [↓ops_cons, ↓g_move, ↓g_binOp, Nat.reduceLT, ev_tab, ne_eq, Nat.reduceEqDiff, not_false_eq_true, upd_ne, par1, upd_eq, t_add, h2, onS_ite]
  refine ⟨by omega, ?_⟩
  refine call1 (by simp -implicitDefEqProofs only [List.map_cons, Nat.reduceLT, ev_tab, upd_eq, List.map_nil] <;> rfl) (digI _ (by rw [ByteArray.size_append]; omega)) ?_
  simp -implicitDefEqProofs only [↓ops_cons, ↓g_binOp, Nat.reduceLT, ev_tab, ne_eq, Nat.reduceEqDiff, not_false_eq_true, upd_ne, upd_eq, t_add, h3, dig_size, Nat.reduceAdd, Nat.reduceLeDiff, if_true, onS_some]
  refine call1 (by simp -implicitDefEqProofs only [List.map_cons, Nat.reduceLT, ev_tab, upd_eq, List.map_nil] <;> rfl) (digI _ (by rw [ByteArray.size_append, dig_size]; omega)) ?_
  simp -implicitDefEqProofs only [↓ops_cons, ↓g_assign, ↓ops_nil, ↓w_ret, Nat.reduceLT, ev_tab, upd_eq, ret_one]
  rfl
theorem hmacS (k t : ByteArray) (hk : k.size ≤ 900000000) (ht : t.size ≤ 900000000) : Fn Try.prog 80 [.sc (.string k), .sc (.string t)] (.sc (.string (hmac k t))) := by
  refine Fn.run 17 [.tmp 4] Try.func80 rfl rfl rfl rfl (by simp) (flats_cons (.sc _) (flats_cons (.sc _) flats_nil)) (.sc _) ?_
  have h1 := keyT_size k
  have h2 : (maskT (keyT k) 54).size = 64 := by rw [mask_size, h1]
  have h3 : (maskT (keyT k) 92).size = 64 := by rw [mask_size, h1]
  simp -implicitDefEqProofs only [↓w_seq, ↓w_region, ↓ops_cons, ↓g_assign, ↓ops_nil, ev_const, of_str, ↓g_move, Nat.reduceLT, ev_tab, ne_eq, reduceCtorEq, not_false_eq_true, upd_ne, par0]
  refine call1 (by simp -implicitDefEqProofs only [List.map_cons, Nat.reduceLT, ev_tab, upd_eq, List.map_nil] <;> rfl) (keyS k (by omega)) ?_
  simp -implicitDefEqProofs only [↓ops_cons, ↓g_assign, ↓ops_nil, ↓w_seq, ↓w_region, Nat.reduceLT, ev_tab, upd_eq, ↓g_move]
  refine call1 (by simp -implicitDefEqProofs only [List.map_cons, Nat.reduceLT, ev_tab, upd_eq, ev_const, of_int, List.map_nil] <;> rfl) (maskS _ 92 (by omega)) ?_
  simp -implicitDefEqProofs only [↓ops_cons, ↓g_move, Nat.reduceLT, ev_tab, ne_eq, Nat.reduceEqDiff, not_false_eq_true, upd_ne, upd_eq]
  refine call1 (by simp -implicitDefEqProofs only [List.map_cons, Nat.reduceLT, ev_tab, upd_eq, ev_const, of_int, List.map_nil] <;> rfl) (maskS _ 54 (by omega)) ?_
  simp -implicitDefEqProofs only [↓ops_cons, ↓g_move, ↓g_binOp, Nat.reduceLT, ev_tab, ne_eq, Nat.reduceEqDiff, not_false_eq_true, upd_ne, par1, upd_eq, t_add, h2, onS_ite]
  refine ⟨by omega, ?_⟩
  refine call1 (by simp -implicitDefEqProofs only [List.map_cons, Nat.reduceLT, ev_tab, upd_eq, List.map_nil] <;> rfl) (digS _ (by rw [ByteArray.size_append]; omega)) ?_
  simp -implicitDefEqProofs only [↓ops_cons, ↓g_binOp, Nat.reduceLT, ev_tab, ne_eq, Nat.reduceEqDiff, not_false_eq_true, upd_ne, upd_eq, t_add, h3, dig_size, Nat.reduceAdd, Nat.reduceLeDiff, if_true, onS_some]
  refine call1 (by simp -implicitDefEqProofs only [List.map_cons, Nat.reduceLT, ev_tab, upd_eq, List.map_nil] <;> rfl) (digS _ (by rw [ByteArray.size_append, dig_size]; omega)) ?_
  simp -implicitDefEqProofs only [↓ops_cons, ↓g_assign, ↓ops_nil, ↓w_ret, Nat.reduceLT, ev_tab, upd_eq, ret_one]
  rfl
theorem extI (k t : ByteArray) (hk : k.size ≤ 900000000) (ht : t.size ≤ 900000000) : Fn Try.prog 22 [.sc (.string k), .sc (.string t)] (.sc (.string (hmac k t))) := by
  refine Fn.run 8 [.tmp 4] Try.func22 rfl rfl rfl rfl (by simp) (flats_cons (.sc _) (flats_cons (.sc _) flats_nil)) (.sc _) ?_
  simp -implicitDefEqProofs only [↓w_seq, ↓w_region, ↓ops_cons, ↓g_assign, ↓ops_nil, ev_const, of_str, ↓g_move, Nat.reduceLT, ev_tab, ne_eq, reduceCtorEq, not_false_eq_true, upd_ne, par0, Nat.reduceEqDiff, par1]
  refine call1 (by simp -implicitDefEqProofs only [List.map_cons, Nat.reduceLT, ev_tab, ne_eq, Nat.reduceEqDiff, not_false_eq_true, upd_ne, upd_eq, List.map_nil] <;> rfl) (hmacI k t hk ht) ?_
  simp -implicitDefEqProofs only [↓ops_cons, ↓g_assign, ↓ops_nil, ↓w_ret, Nat.reduceLT, ev_tab, upd_eq, ret_one]
theorem extS (k t : ByteArray) (hk : k.size ≤ 900000000) (ht : t.size ≤ 900000000) : Fn Try.prog 36 [.sc (.string k), .sc (.string t)] (.sc (.string (hmac k t))) := by
  refine Fn.run 8 [.tmp 4] Try.func36 rfl rfl rfl rfl (by simp) (flats_cons (.sc _) (flats_cons (.sc _) flats_nil)) (.sc _) ?_
  simp -implicitDefEqProofs only [↓w_seq, ↓w_region, ↓ops_cons, ↓g_assign, ↓ops_nil, ev_const, of_str, ↓g_move, Nat.reduceLT, ev_tab, ne_eq, reduceCtorEq, not_false_eq_true, upd_ne, par0, Nat.reduceEqDiff, par1]
  refine call1 (by simp -implicitDefEqProofs only [List.map_cons, Nat.reduceLT, ev_tab, ne_eq, Nat.reduceEqDiff, not_false_eq_true, upd_ne, upd_eq, List.map_nil] <;> rfl) (hmacS k t hk ht) ?_
  simp -implicitDefEqProofs only [↓ops_cons, ↓g_assign, ↓ops_nil, ↓w_ret, Nat.reduceLT, ev_tab, upd_eq, ret_one]
end Go.Proofs.Ytknmbiebnpojjaa.Sim
namespace Go.Proofs.Ytknmbiebnpojjaa.Sim
open Go
set_option maxRecDepth 100000
set_option maxHeartbeats 4000000
set_option linter.unusedSimpArgs false
set_option linter.unusedVariables false
def lastK (k f : ByteArray) : Nat → ByteArray
  | 0 => ByteArray.empty
  | i + 1 => hmac k (lastK k f i ++ f ++ strOfNums (hiL ((i + 1 : Nat) : Int) 1))
def outK (k f : ByteArray) : Nat → ByteArray
  | 0 => ByteArray.empty
  | i + 1 => outK k f i ++ lastK k f (i + 1)
theorem lastK_size (k f : ByteArray) : ∀ i, (lastK k f i).size ≤ 32
  | 0 => by simp [lastK]
  | i + 1 => by rw [lastK, hmac_size]; omega
theorem lastK_s (k f : ByteArray) (i : Nat) : (lastK k f (i + 1)).size = 32 := by rw [lastK, hmac_size]
theorem outK_size (k f : ByteArray) : ∀ i, (outK k f i).size = 32 * i
  | 0 => rfl
  | i + 1 => by rw [outK, ByteArray.size_append, outK_size k f i, lastK_s]; omega
def expT (k f : ByteArray) (n : Int) : ByteArray := (outK k f ((n.toNat + 31) / 32)).extract 0 n.toNat
def expV (k f : ByteArray) (n : Int) : AV := if 0 ≤ n ∧ n ≤ 8160 then .tup [.sc (.string (expT k f n)), .sc (.bool true)] else .tup [.sc (.string ByteArray.empty), .sc (.bool false)]
theorem expV_flat (k f : ByteArray) (n : Int) : Flat (expV k f n) := by
  unfold expV
  split <;> exact .tup (flats_cons (.sc _) (flats_cons (.sc _) flats_nil))
/-- A pair comes apart and is put together again. -/
theorem expV_pair (k f : ByteArray) (n : Int) : ∃ (z : ByteArray) (b : Bool), expV k f n = .tup [.sc (.string z), .sc (.bool b)] := by
  unfold expV
  split
  · exact ⟨_, _, rfl⟩
  · exact ⟨_, _, rfl⟩
theorem emp : (⟨#[]⟩ : ByteArray) = ByteArray.empty := rfl
theorem expI (k f : ByteArray) (n : Int) (hk : k.size ≤ 800000000) (hf : f.size ≤ 800000000) : Fn Try.prog 21 [.sc (.string k), .sc (.string f), .sc (.int .i64 n)] (expV k f n) := by
  refine Fn.run 34 [.tmp 6, .tmp 7] Try.func21 rfl rfl rfl rfl (by simp) (flats_cons (.sc _) (flats_cons (.sc _) (flats_cons (.sc _) flats_nil))) (expV_flat _ _ _) ?_
  simp -implicitDefEqProofs only [↓w_seq, ↓w_region, ↓ops_cons, ↓g_assign, ↓ops_nil, ev_const, of_str, of_bool, ↓g_move, Nat.reduceLT, ev_tab, ne_eq, Nat.reduceEqDiff, not_false_eq_true, upd_ne, par2]
  refine call1 (by simp -implicitDefEqProofs only [List.map_cons, Nat.reduceLT, ev_tab, upd_eq, ev_const, of_int, List.map_nil] <;> rfl) (inI n 0 8160) ?_
  by_cases h : 0 ≤ n ∧ n ≤ 8160
  · rw [decide_eq_true h, expV, if_pos h]
    simp -implicitDefEqProofs only [↓ops_cons, ↓g_unOp, Nat.reduceLT, ev_tab, upd_eq, u_not, Bool.not_true, Option.map_some, ↓ops_nil, ↓w_cond, ↓w_seq, ↓w_region, ↓g_assign, ↓w_ret, ev_const, of_str, of_bool, ret_two, ne_eq, Nat.reduceEqDiff, not_false_eq_true, upd_ne, ↓w_skip, ↓w_block, of_int, onS_some, onB_false]
    refine w_loop (ι := Nat) (fun i s => ∃ (T : Nat → AV) (G : AHeap), s = ⟨tab 34 T, G⟩ ∧ i ≤ (n.toNat + 31) / 32 ∧ T 0 = .sc (.string k) ∧ T 1 = .sc (.string f) ∧ T 2 = .sc (.int .i64 n) ∧ T 8 = .sc (.string (outK k f i)) ∧ T 9 = .sc (.string (lastK k f i)) ∧ T 10 = .sc (.int .i64 ((i + 1 : Nat) : Int))) (fun i => (n.toNat + 31) / 32 - i) ?_ (i := 0) ?_
    · rintro i s ⟨T, G, rfl, a1, a2, a3, a4, a5, a6, a7⟩
      have ho := outK_size k f i
      have hl := lastK_size k f i
      by_cases hi : 32 * i < n.toNat
      · have k1 : ((outK k f i).size : Int) < n := by omega
        have hx : (lastK k f i ++ f).size = (lastK k f i).size + f.size := ByteArray.size_append ..
        have e1 : IntKind.i64.wrap (((i + 1 : Nat) : Int) + 1) = ((i + 1 + 1 : Nat) : Int) := by rw [w64 (by omega) (by omega)]; omega
        simp -implicitDefEqProofs only [↓w_seq, ↓w_region, ↓ops_cons, ↓g_move, ↓g_len, Try.underlying9, Nat.reduceLT, ev_tab, a5, upd_eq, len_str, ↓g_binOp, ne_eq, Nat.reduceEqDiff, not_false_eq_true, upd_ne, a4, ↓ops_nil, ↓w_cond, ↓w_skip, ↓w_block, reduceCtorEq, a2, a6, a3, t_add, a7, onS_ite, ↓w_exit, ↓g_slice, Option.map_none, Option.map_some, cut_str, bnd_none, bnd_int, ↓g_assign, ↓w_ret, ev_const, of_bool, ret_two, if_true, onS_some, b_lss, k1, decide_true, onB_true]
        refine ⟨by omega, ?_⟩
        refine call1 (by simp -implicitDefEqProofs only [List.map_cons, Nat.reduceLT, ev_tab, upd_eq, ev_const, of_int, List.map_nil, Int.cast_ofNat_Int] <;> rfl) (highFirst ((i + 1 : Nat) : Int) 1 (by omega) (by omega) (by decide)) ?_
        simp -implicitDefEqProofs only [↓ops_cons, ↓g_binOp, Nat.reduceLT, ev_tab, ne_eq, Nat.reduceEqDiff, not_false_eq_true, upd_ne, upd_eq, t_add, hx, son_size, hiL_len, Nat.reduceLeDiff, onS_ite]
        refine ⟨by omega, ?_⟩
        refine call1 (by simp -implicitDefEqProofs only [List.map_cons, Nat.reduceLT, ev_tab, ne_eq, Nat.reduceEqDiff, not_false_eq_true, upd_ne, upd_eq, List.map_nil] <;> rfl) (hmacI k _ (by omega) (by rw [ByteArray.size_append, hx, son_size, hiL_len]; omega)) ?_
        have hls := lastK_s k f i
        rw [lastK] at hls
        simp -implicitDefEqProofs only [↓ops_cons, ↓g_assign, ↓ops_nil, ↓w_region, Nat.reduceLT, ev_tab, upd_eq, ↓g_move, ↓g_binOp, ne_eq, Nat.reduceEqDiff, not_false_eq_true, upd_ne, a5, t_add, hls, Nat.reduceLeDiff, a7, ev_const, of_int, b_add, e1, onS_some, onS_ite]
        refine ⟨by omega, i + 1, by omega, _, _, rfl, by omega, ?_, ?_, ?_, ?_, ?_, ?_⟩ <;> simp -implicitDefEqProofs only [ne_eq, reduceCtorEq, not_false_eq_true, upd_ne, a2, Nat.reduceEqDiff, a3, a4, upd_eq] <;> rfl
      · have k1 : ¬ ((outK k f i).size : Int) < n := by omega
        have hm : i = (n.toNat + 31) / 32 := by omega
        have k2 : 0 ≤ n := h.1
        have k3 : n.toNat ≤ (outK k f i).size := by omega
        simp -implicitDefEqProofs only [↓w_seq, ↓w_region, ↓ops_cons, ↓g_move, ↓g_len, Try.underlying9, Nat.reduceLT, ev_tab, a5, upd_eq, len_str, ↓g_binOp, ne_eq, Nat.reduceEqDiff, not_false_eq_true, upd_ne, a4, ↓ops_nil, ↓w_cond, ↓w_skip, ↓w_block, reduceCtorEq, a2, a6, a3, t_add, a7, onS_ite, ↓w_exit, ↓g_slice, Option.map_none, Option.map_some, cut_str, bnd_none, bnd_int, k2, if_true, cutS_some, Nat.zero_le, k3, and_self, ↓g_assign, ↓w_ret, ev_const, of_bool, ret_two, onS_some, b_lss, k1, decide_false, onB_false]
        rw [expT, ← hm]
    · refine ⟨_, _, rfl, by omega, ?_, ?_, ?_, ?_, ?_, ?_⟩ <;> simp -implicitDefEqProofs only [ne_eq, reduceCtorEq, not_false_eq_true, upd_ne, par0, Nat.reduceEqDiff, par1, par2, upd_eq, Nat.zero_add, Int.cast_ofNat_Int] <;> rfl
  · rw [decide_eq_false h, expV, if_neg h]
    simp -implicitDefEqProofs only [↓ops_cons, ↓g_unOp, Nat.reduceLT, ev_tab, upd_eq, u_not, Bool.not_false, Option.map_some, ↓ops_nil, ↓w_cond, ↓w_seq, ↓w_region, ↓g_assign, ↓w_ret, ev_const, of_str, of_bool, ret_two, ne_eq, Nat.reduceEqDiff, not_false_eq_true, upd_ne, ↓w_skip, ↓w_block, of_int, onS_some, onB_true]
    rfl
theorem expS (k f : ByteArray) (n : Int) (hk : k.size ≤ 800000000) (hf : f.size ≤ 800000000) : Fn Try.prog 25 [.sc (.string k), .sc (.string f), .sc (.int .i64 n)] (expV k f n) := by
  refine Fn.run 36 [.tmp 6, .tmp 7] Try.func25 rfl rfl rfl rfl (by simp) (flats_cons (.sc _) (flats_cons (.sc _) (flats_cons (.sc _) flats_nil))) (expV_flat _ _ _) ?_
  simp -implicitDefEqProofs only [↓w_seq, ↓w_region, ↓ops_cons, ↓g_assign, ↓ops_nil, ev_const, of_str, of_bool, ↓g_move, Nat.reduceLT, ev_tab, ne_eq, Nat.reduceEqDiff, not_false_eq_true, upd_ne, par2]
  refine call1 (by simp -implicitDefEqProofs only [List.map_cons, Nat.reduceLT, ev_tab, upd_eq, ev_const, of_int, List.map_nil] <;> rfl) (inS n 0 8160) ?_
  by_cases h : 0 ≤ n ∧ n ≤ 8160
  · rw [decide_eq_true h, expV, if_pos h]
    simp -implicitDefEqProofs only [↓ops_cons, ↓g_unOp, Nat.reduceLT, ev_tab, upd_eq, u_not, Bool.not_true, Option.map_some, ↓ops_nil, ↓w_cond, ↓w_seq, ↓w_region, ↓g_assign, ↓w_ret, ev_const, of_str, of_bool, ret_two, ne_eq, Nat.reduceEqDiff, not_false_eq_true, upd_ne, ↓w_skip, ↓w_block, of_int, onS_some, onB_false]
    refine w_loop (ι := Nat) (fun i s => ∃ (T : Nat → AV) (G : AHeap), s = ⟨tab 36 T, G⟩ ∧ i ≤ (n.toNat + 31) / 32 ∧ T 0 = .sc (.string k) ∧ T 1 = .sc (.string f) ∧ T 2 = .sc (.int .i64 n) ∧ T 8 = .sc (.string (outK k f i)) ∧ T 9 = .sc (.string (lastK k f i)) ∧ T 10 = .sc (.int .i64 ((i + 1 : Nat) : Int))) (fun i => (n.toNat + 31) / 32 - i) ?_ (i := 0) ?_
    · rintro i s ⟨T, G, rfl, a1, a2, a3, a4, a5, a6, a7⟩
      have ho := outK_size k f i
      have hl := lastK_size k f i
      by_cases hi : 32 * i < n.toNat
      · have k1 : ((outK k f i).size : Int) < n := by omega
        have hx : (lastK k f i ++ f).size = (lastK k f i).size + f.size := ByteArray.size_append ..
        have e1 : IntKind.i64.wrap (((i + 1 : Nat) : Int) + 1) = ((i + 1 + 1 : Nat) : Int) := by rw [w64 (by omega) (by omega)]; omega
        have e2 : IntKind.u8.wrap ((i + 1 : Nat) : Int) = ((i + 1 : Nat) : Int) % 256 := by rw [IntKind.wrap_u8]
        have e3 : [((i + 1 : Nat) : Int) % 256] = hiL ((i + 1 : Nat) : Int) 1 := rfl
        simp -implicitDefEqProofs only [↓w_seq, ↓w_region, ↓ops_cons, ↓g_move, ↓g_len, Try.underlying9, Nat.reduceLT, ev_tab, a5, upd_eq, len_str, ↓g_binOp, ne_eq, Nat.reduceEqDiff, not_false_eq_true, upd_ne, a4, ↓ops_nil, ↓w_cond, ↓w_skip, ↓w_block, reduceCtorEq, a2, a6, a3, t_add, ↓g_convert, Try.underlying3, Try.underlying5, a7, ↓g_buildSlice, Try.underlying22, List.map_cons, List.map_nil, c_int, e2, bs5_1, alK_some, ints_one, c_text, isU5, and_self, at_def, at_end, at_ints, Nat.zero_add, List.length_cons, List.length_nil, Nat.le_refl, List.drop_zero, List.take_succ_cons, List.take_zero, if_true, Option.bind_some, bytesA_ints, Option.map_some, onS_some, true_and, onS_ite, ↓w_exit, ↓g_slice, Option.map_none, cut_str, bnd_none, bnd_int, ↓g_assign, ↓w_ret, ev_const, of_bool, ret_two, b_lss, k1, decide_true, onB_true]
        refine ⟨by omega, ?_⟩
        try rw [e3]
        simp -implicitDefEqProofs only [hx, son_size, hiL_len, Nat.reduceLeDiff]
        refine ⟨by omega, ?_⟩
        refine call1 (by simp -implicitDefEqProofs only [List.map_cons, Nat.reduceLT, ev_tab, ne_eq, Nat.reduceEqDiff, not_false_eq_true, upd_ne, upd_eq, List.map_nil] <;> rfl) (hmacS k _ (by omega) (by rw [ByteArray.size_append, hx, son_size, hiL_len]; omega)) ?_
        have hls := lastK_s k f i
        rw [lastK] at hls
        simp -implicitDefEqProofs only [↓ops_cons, ↓g_assign, ↓ops_nil, ↓w_region, Nat.reduceLT, ev_tab, upd_eq, ↓g_move, ↓g_binOp, ne_eq, Nat.reduceEqDiff, not_false_eq_true, upd_ne, a5, t_add, hls, Nat.reduceLeDiff, a7, ev_const, of_int, b_add, e1, onS_some, onS_ite]
        refine ⟨by omega, i + 1, by omega, _, _, rfl, by omega, ?_, ?_, ?_, ?_, ?_, ?_⟩ <;> simp -implicitDefEqProofs only [ne_eq, reduceCtorEq, not_false_eq_true, upd_ne, a2, Nat.reduceEqDiff, a3, a4, upd_eq] <;> rfl
      · have k1 : ¬ ((outK k f i).size : Int) < n := by omega
        have hm : i = (n.toNat + 31) / 32 := by omega
        have k2 : 0 ≤ n := h.1
        have k3 : n.toNat ≤ (outK k f i).size := by omega
        simp -implicitDefEqProofs only [↓w_seq, ↓w_region, ↓ops_cons, ↓g_move, ↓g_len, Try.underlying9, Nat.reduceLT, ev_tab, a5, upd_eq, len_str, ↓g_binOp, ne_eq, Nat.reduceEqDiff, not_false_eq_true, upd_ne, a4, ↓ops_nil, ↓w_cond, ↓w_skip, ↓w_block, reduceCtorEq, a2, a6, a3, t_add, ↓g_convert, Try.underlying3, Try.underlying5, a7, ↓g_buildSlice, Try.underlying22, List.map_cons, List.map_nil, c_int, bs5_1, alK_some, ints_one, c_text, isU5, and_self, at_def, at_end, at_ints, Nat.zero_add, List.length_cons, List.length_nil, Nat.le_refl, List.drop_zero, List.take_succ_cons, List.take_zero, if_true, Option.bind_some, bytesA_ints, Option.map_some, onS_some, true_and, onS_ite, ↓w_exit, ↓g_slice, Option.map_none, cut_str, bnd_none, bnd_int, k2, cutS_some, Nat.zero_le, k3, ↓g_assign, ↓w_ret, ev_const, of_bool, ret_two, b_lss, k1, decide_false, onB_false]
        rw [expT, ← hm]
    · refine ⟨_, _, rfl, by omega, ?_, ?_, ?_, ?_, ?_, ?_⟩ <;> simp -implicitDefEqProofs only [ne_eq, reduceCtorEq, not_false_eq_true, upd_ne, par0, Nat.reduceEqDiff, par1, par2, upd_eq, Nat.zero_add, Int.cast_ofNat_Int] <;> rfl
  · rw [decide_eq_false h, expV, if_neg h]
    simp -implicitDefEqProofs only [↓ops_cons, ↓g_unOp, Nat.reduceLT, ev_tab, upd_eq, u_not, Bool.not_false, Option.map_some, ↓ops_nil, ↓w_cond, ↓w_seq, ↓w_region, ↓g_assign, ↓w_ret, ev_const, of_str, of_bool, ret_two, ne_eq, Nat.reduceEqDiff, not_false_eq_true, upd_ne, ↓w_skip, ↓w_block, of_int, onS_some, onB_true]
    rfl
end Go.Proofs.Ytknmbiebnpojjaa.Sim
