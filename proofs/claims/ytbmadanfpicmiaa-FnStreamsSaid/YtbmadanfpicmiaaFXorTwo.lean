/- XorTexts: byte by byte, as far as the shorter goes. -/
import Derived.Test.YtbmadanfpicmiaaTy
import Derived.Test.YtbmadanfpicmiaaChecked
namespace Go.Proofs.Ytbmadanfpicmiaa.Sim
open Go
set_option maxRecDepth 100000
set_option maxHeartbeats 4000000
set_option linter.unusedSimpArgs false
set_option linter.unusedVariables false
def xorL (a b : List Int) : List Int := List.zipWith (fun x y => bits .xor .u8 x y) a b
theorem xorL_len (a b : List Int) : (xorL a b).length = min a.length b.length := by simp [xorL]
theorem xorL_next (a b : ByteArray) (i : Nat) (ha : i < a.size) (hb : i < b.size) : (xorL (nums a) (nums b)).take i ++ [bits .xor .u8 (byteAt a i) (byteAt b i)] = (xorL (nums a) (nums b)).take (i + 1) := by
  have h1 : i < (nums a).length := by rw [nums_len]; exact ha
  have h2 : i < (nums b).length := by rw [nums_len]; exact hb
  rw [List.take_add_one]
  congr 1
  simp only [xorL, List.getElem?_zipWith, byteAt_nums, List.getElem?_eq_getElem h1, List.getElem?_eq_getElem h2, List.getD_eq_getElem?_getD]
  rfl
theorem xorI (a b : ByteArray) (ha : a.size ≤ 1000000000) (hb : b.size ≤ 1000000000) : Fn Try.prog 15 [.sc (.string a), .sc (.string b)] (.sc (.string (strOfNums (xorL (nums a) (nums b))))) := by
  refine Fn.run 32 [.tmp 4] Try.func15 rfl rfl rfl rfl (by simp) (flats_cons (.sc _) (flats_cons (.sc _) flats_nil)) (.sc _) ?_
  simp -implicitDefEqProofs only [↓w_seq, ↓w_region, ↓ops_cons, ↓g_assign, ↓ops_nil, ev_const, of_str, ↓g_buildSlice, Try.underlying22, List.map_nil, bs5_0, Nat.reduceLT, ev_tab, upd_eq, ↓w_block, of_int, alK_some, ints_one, List.length_nil, List.nil_append, true_and]
  have hX : (xorL (nums a) (nums b)).length = min a.size b.size := by rw [xorL_len, nums_len, nums_len]
  refine w_loop (ι := Nat) (fun i s => ∃ (T : Nat → AV) (G : AHeap), s = ⟨tab 32 T, G ++ [⟨ints .u8 ((xorL (nums a) (nums b)).take i), true, true⟩]⟩ ∧ i ≤ min a.size b.size ∧ T 5 = .sl G.length 0 i 1 ∧ T 6 = .sc (.int .i64 i) ∧ T 0 = .sc (.string a) ∧ T 1 = .sc (.string b)) (fun i => min a.size b.size - i) ?_ (i := 0) ?_
  · rintro i s ⟨T, G, rfl, a1, a2, a3, a4, a5⟩
    have hl : ((xorL (nums a) (nums b)).take i).length = i := by rw [List.length_take]; omega
    by_cases h1 : i < a.size
    · have k1 : (i : Int) < a.size := by omega
      by_cases h2 : i < b.size
      · have k2 : (i : Int) < b.size := by omega
        have k3 : (0 : Int) ≤ i := by omega
        have e1 : IntKind.i64.wrap ((i : Int) + 1) = i + 1 := w64 (by omega) (by omega)
        simp -implicitDefEqProofs only [↓w_seq, ↓w_region, ↓ops_cons, ↓g_move, ↓g_len, Try.underlying9, Nat.reduceLT, ev_tab, a3, ne_eq, reduceCtorEq, not_false_eq_true, upd_ne, a4, upd_eq, len_str, ↓g_binOp, Nat.reduceEqDiff, onS_some, b_lss, k1, decide_true, yielded_tab, dstAt_s, dstAt_0, ybv_some, boolOf_b, ↓g_guard_t, a5, ↓g_pick, ev_const, of_bool, pick_b, if_true, ↓ops_nil, ↓w_cond, ↓w_skip, ↓w_block, ↓w_exit, ↓g_convert, Try.underlying22, a2, ↓g_assign, ↓w_ret, ret_one, c_text, isU5, and_self, at_def, at_end, at_ints, Nat.zero_add, List.drop_zero, k2, onB_true]
        refine drawn [] follows (by kernel_rfl) (by kernel_rfl) ?_
        simp -implicitDefEqProofs only [↓dops_cons, ↓g_move, ↓g_index, Try.underlying9, Nat.reduceLT, ev_tab, ne_eq, Nat.reduceEqDiff, not_false_eq_true, upd_ne, a2, reduceCtorEq, a4, a3, upd_eq, idx_str, k3, Int.toNat_natCast, h1, and_self, if_true, a5, h2, ↓g_binOp, ↓g_buildSlice, Try.underlying22, List.map_cons, List.map_nil, ↓g_append, apS22, ↓g_assign, ↓dops_0, ↓w_region, ↓ops_cons, ev_const, of_int, b_add, e1, ↓ops_nil, onS_some, b_xor, bs5_1, alK_some, ints_one, at_a, List.length_append, List.length_cons, List.length_nil, Nat.zero_add, src_sl, at_b, at_ints, Nat.le_refl, List.drop_zero, List.take_succ_cons, List.take_zero, ap_ints, hl, Nat.mul_one, Nat.reduceLeDiff, true_and, onS_ite]
        refine ⟨by omega, i + 1, by omega, _, _, st_end ?_, by omega, ?_, ?_, ?_, ?_⟩
        · rw [List.take_take, Nat.min_self, xorL_next a b i h1 h2]
        · simp -implicitDefEqProofs only [ne_eq, Nat.reduceEqDiff, not_false_eq_true, upd_ne, upd_eq, kill_len, List.length_append, List.length_cons, List.length_nil, Nat.zero_add]
        · simp -implicitDefEqProofs only [upd_eq] <;> rfl
        · simp -implicitDefEqProofs only [ne_eq, reduceCtorEq, not_false_eq_true, upd_ne, a4]
        · simp -implicitDefEqProofs only [ne_eq, Nat.reduceEqDiff, not_false_eq_true, upd_ne, a5]
      · have k2 : ¬ (i : Int) < b.size := by omega
        have e2 : (xorL (nums a) (nums b)).length = i := by omega
        simp -implicitDefEqProofs only [↓w_seq, ↓w_region, ↓ops_cons, ↓g_move, ↓g_len, Try.underlying9, Nat.reduceLT, ev_tab, a3, ne_eq, reduceCtorEq, not_false_eq_true, upd_ne, a4, upd_eq, len_str, ↓g_binOp, Nat.reduceEqDiff, onS_some, b_lss, k1, decide_true, yielded_tab, dstAt_s, dstAt_0, ybv_some, boolOf_b, ↓g_guard_t, a5, ↓g_pick, ev_const, of_bool, pick_b, if_true, ↓ops_nil, ↓w_cond, ↓w_skip, ↓w_block, ↓w_exit, ↓g_convert, Try.underlying22, a2, ↓g_assign, ↓w_ret, ret_one, c_text, isU5, and_self, at_def, at_end, at_ints, Nat.zero_add, hl, Nat.le_refl, List.drop_zero, Option.bind_some, bytesA_ints, Option.map_some, k2, decide_false, onB_false]
        rw [List.take_of_length_le (by omega), List.take_of_length_le (by omega)]
    · have k1 : ¬ (i : Int) < a.size := by omega
      have e2 : (xorL (nums a) (nums b)).length = i := by omega
      simp -implicitDefEqProofs only [↓w_seq, ↓w_region, ↓ops_cons, ↓g_move, ↓g_len, Try.underlying9, Nat.reduceLT, ev_tab, a3, ne_eq, reduceCtorEq, not_false_eq_true, upd_ne, a4, upd_eq, len_str, ↓g_binOp, Nat.reduceEqDiff, onS_some, b_lss, k1, decide_false, yielded_tab, dstAt_s, dstAt_0, ybv_some, boolOf_b, Bool.not_true, ↓g_guard_f, ↓g_pick, ev_const, of_bool, pick_b, if_false, ↓ops_nil, ↓w_cond, ↓w_skip, ↓w_block, ↓w_exit, ↓g_convert, Try.underlying22, a2, ↓g_assign, ↓w_ret, ret_one, c_text, isU5, and_self, at_def, at_end, at_ints, Nat.zero_add, hl, Nat.le_refl, List.drop_zero, if_true, Option.bind_some, bytesA_ints, Option.map_some, onB_false]
      rw [List.take_of_length_le (by omega), List.take_of_length_le (by omega)]
  · refine ⟨_, [], by rw [List.take_zero]; rfl, by omega, ?_, ?_, ?_, ?_⟩
    · simp -implicitDefEqProofs only [ne_eq, Nat.reduceEqDiff, not_false_eq_true, upd_ne, upd_eq, List.length_nil] <;> rfl
    · simp -implicitDefEqProofs only [upd_eq, Int.cast_ofNat_Int] <;> rfl
    · simp -implicitDefEqProofs only [ne_eq, reduceCtorEq, not_false_eq_true, upd_ne, par0]
    · simp -implicitDefEqProofs only [ne_eq, Nat.reduceEqDiff, not_false_eq_true, upd_ne, par1]
theorem xorS (a b : ByteArray) (ha : a.size ≤ 1000000000) (hb : b.size ≤ 1000000000) : Fn Try.prog 36 [.sc (.string a), .sc (.string b)] (.sc (.string (strOfNums (xorL (nums a) (nums b))))) := by
  refine Fn.run 32 [.tmp 4] Try.func36 rfl rfl rfl rfl (by simp) (flats_cons (.sc _) (flats_cons (.sc _) flats_nil)) (.sc _) ?_
  simp -implicitDefEqProofs only [↓w_seq, ↓w_region, ↓ops_cons, ↓g_assign, ↓ops_nil, ev_const, of_str, ↓g_buildSlice, Try.underlying22, List.map_nil, bs5_0, Nat.reduceLT, ev_tab, upd_eq, ↓w_block, of_int, alK_some, ints_one, List.length_nil, List.nil_append, true_and]
  have hX : (xorL (nums a) (nums b)).length = min a.size b.size := by rw [xorL_len, nums_len, nums_len]
  refine w_loop (ι := Nat) (fun i s => ∃ (T : Nat → AV) (G : AHeap), s = ⟨tab 32 T, G ++ [⟨ints .u8 ((xorL (nums a) (nums b)).take i), true, true⟩]⟩ ∧ i ≤ min a.size b.size ∧ T 5 = .sl G.length 0 i 1 ∧ T 6 = .sc (.int .i64 i) ∧ T 0 = .sc (.string a) ∧ T 1 = .sc (.string b)) (fun i => min a.size b.size - i) ?_ (i := 0) ?_
  · rintro i s ⟨T, G, rfl, a1, a2, a3, a4, a5⟩
    have hl : ((xorL (nums a) (nums b)).take i).length = i := by rw [List.length_take]; omega
    by_cases h1 : i < a.size
    · have k1 : (i : Int) < a.size := by omega
      by_cases h2 : i < b.size
      · have k2 : (i : Int) < b.size := by omega
        have k3 : (0 : Int) ≤ i := by omega
        have e1 : IntKind.i64.wrap ((i : Int) + 1) = i + 1 := w64 (by omega) (by omega)
        simp -implicitDefEqProofs only [↓w_seq, ↓w_region, ↓ops_cons, ↓g_move, ↓g_len, Try.underlying9, Nat.reduceLT, ev_tab, a3, ne_eq, reduceCtorEq, not_false_eq_true, upd_ne, a4, upd_eq, len_str, ↓g_binOp, Nat.reduceEqDiff, onS_some, b_lss, k1, decide_true, yielded_tab, dstAt_s, dstAt_0, ybv_some, boolOf_b, ↓g_guard_t, a5, ↓g_pick, ev_const, of_bool, pick_b, if_true, ↓ops_nil, ↓w_cond, ↓w_skip, ↓w_block, ↓w_exit, ↓g_convert, Try.underlying22, a2, ↓g_assign, ↓w_ret, ret_one, c_text, isU5, and_self, at_def, at_end, at_ints, Nat.zero_add, List.drop_zero, k2, onB_true]
        refine drawn [] follows (by kernel_rfl) (by kernel_rfl) ?_
        simp -implicitDefEqProofs only [↓dops_cons, ↓g_move, ↓g_index, Try.underlying9, Nat.reduceLT, ev_tab, ne_eq, Nat.reduceEqDiff, not_false_eq_true, upd_ne, a2, reduceCtorEq, a4, a3, upd_eq, idx_str, k3, Int.toNat_natCast, h1, and_self, if_true, a5, h2, ↓g_binOp, ↓g_buildSlice, Try.underlying22, List.map_cons, List.map_nil, ↓g_append, apS22, ↓g_assign, ↓dops_0, ↓w_region, ↓ops_cons, ev_const, of_int, b_add, e1, ↓ops_nil, onS_some, b_xor, bs5_1, alK_some, ints_one, at_a, List.length_append, List.length_cons, List.length_nil, Nat.zero_add, src_sl, at_b, at_ints, Nat.le_refl, List.drop_zero, List.take_succ_cons, List.take_zero, ap_ints, hl, Nat.mul_one, Nat.reduceLeDiff, true_and, onS_ite]
        refine ⟨by omega, i + 1, by omega, _, _, st_end ?_, by omega, ?_, ?_, ?_, ?_⟩
        · rw [List.take_take, Nat.min_self, xorL_next a b i h1 h2]
        · simp -implicitDefEqProofs only [ne_eq, Nat.reduceEqDiff, not_false_eq_true, upd_ne, upd_eq, kill_len, List.length_append, List.length_cons, List.length_nil, Nat.zero_add]
        · simp -implicitDefEqProofs only [upd_eq] <;> rfl
        · simp -implicitDefEqProofs only [ne_eq, reduceCtorEq, not_false_eq_true, upd_ne, a4]
        · simp -implicitDefEqProofs only [ne_eq, Nat.reduceEqDiff, not_false_eq_true, upd_ne, a5]
      · have k2 : ¬ (i : Int) < b.size := by omega
        have e2 : (xorL (nums a) (nums b)).length = i := by omega
        simp -implicitDefEqProofs only [↓w_seq, ↓w_region, ↓ops_cons, ↓g_move, ↓g_len, Try.underlying9, Nat.reduceLT, ev_tab, a3, ne_eq, reduceCtorEq, not_false_eq_true, upd_ne, a4, upd_eq, len_str, ↓g_binOp, Nat.reduceEqDiff, onS_some, b_lss, k1, decide_true, yielded_tab, dstAt_s, dstAt_0, ybv_some, boolOf_b, ↓g_guard_t, a5, ↓g_pick, ev_const, of_bool, pick_b, if_true, ↓ops_nil, ↓w_cond, ↓w_skip, ↓w_block, ↓w_exit, ↓g_convert, Try.underlying22, a2, ↓g_assign, ↓w_ret, ret_one, c_text, isU5, and_self, at_def, at_end, at_ints, Nat.zero_add, hl, Nat.le_refl, List.drop_zero, Option.bind_some, bytesA_ints, Option.map_some, k2, decide_false, onB_false]
        rw [List.take_of_length_le (by omega), List.take_of_length_le (by omega)]
    · have k1 : ¬ (i : Int) < a.size := by omega
      have e2 : (xorL (nums a) (nums b)).length = i := by omega
      simp -implicitDefEqProofs only [↓w_seq, ↓w_region, ↓ops_cons, ↓g_move, ↓g_len, Try.underlying9, Nat.reduceLT, ev_tab, a3, ne_eq, reduceCtorEq, not_false_eq_true, upd_ne, a4, upd_eq, len_str, ↓g_binOp, Nat.reduceEqDiff, onS_some, b_lss, k1, decide_false, yielded_tab, dstAt_s, dstAt_0, ybv_some, boolOf_b, Bool.not_true, ↓g_guard_f, ↓g_pick, ev_const, of_bool, pick_b, if_false, ↓ops_nil, ↓w_cond, ↓w_skip, ↓w_block, ↓w_exit, ↓g_convert, Try.underlying22, a2, ↓g_assign, ↓w_ret, ret_one, c_text, isU5, and_self, at_def, at_end, at_ints, Nat.zero_add, hl, Nat.le_refl, List.drop_zero, if_true, Option.bind_some, bytesA_ints, Option.map_some, onB_false]
      rw [List.take_of_length_le (by omega), List.take_of_length_le (by omega)]
  · refine ⟨_, [], by rw [List.take_zero]; rfl, by omega, ?_, ?_, ?_, ?_⟩
    · simp -implicitDefEqProofs only [ne_eq, Nat.reduceEqDiff, not_false_eq_true, upd_ne, upd_eq, List.length_nil] <;> rfl
    · simp -implicitDefEqProofs only [upd_eq, Int.cast_ofNat_Int] <;> rfl
    · simp -implicitDefEqProofs only [ne_eq, reduceCtorEq, not_false_eq_true, upd_ne, par0]
    · simp -implicitDefEqProofs only [ne_eq, Nat.reduceEqDiff, not_false_eq_true, upd_ne, par1]
end Go.Proofs.Ytbmadanfpicmiaa.Sim

