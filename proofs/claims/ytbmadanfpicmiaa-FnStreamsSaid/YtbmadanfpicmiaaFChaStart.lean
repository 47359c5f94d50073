/- The state that ChaCha20 begins with. -/
import Derived.Test.YtbmadanfpicmiaaFLowNums
import Derived.Test.YtbmadanfpicmiaaFIn
namespace Go.Proofs.Ytbmadanfpicmiaa.Sim
open Go
set_option maxRecDepth 100000
set_option maxHeartbeats 4000000
set_option linter.unusedSimpArgs false
set_option linter.unusedVariables false
theorem byteAt_l (a b : ByteArray) (j : Nat) (h : j < a.size) : byteAt (a ++ b) j = byteAt a j := by
  have h2 : j < (nums a).length := by rw [nums_len]; exact h
  rw [byteAt_nums, byteAt_nums, nums_append, List.getD_eq_getElem?_getD, List.getD_eq_getElem?_getD, List.getElem?_append_left h2]
theorem byteAt_r (a b : ByteArray) (j : Nat) : byteAt (a ++ b) (a.size + j) = byteAt b j := by
  rw [byteAt_nums, byteAt_nums, nums_append, List.getD_eq_getElem?_getD, List.getD_eq_getElem?_getD, List.getElem?_append_right (by rw [nums_len]; omega), nums_len, Nat.add_sub_cancel_left]
theorem le4_l (a b : ByteArray) (j : Nat) (h : j + 3 < a.size) : le4 (a ++ b) j = le4 a j := by
  unfold le4
  rw [byteAt_l _ _ _ (by omega), byteAt_l _ _ _ (by omega), byteAt_l _ _ _ (by omega), byteAt_l _ _ _ (by omega)]
theorem le4_r (a b : ByteArray) (j : Nat) : le4 (a ++ b) (a.size + j) = le4 b j := by
  unfold le4
  rw [Nat.add_assoc, Nat.add_assoc, Nat.add_assoc, byteAt_r, byteAt_r, byteAt_r, byteAt_r]
theorem numL_app (a b : ByteArray) (p q : Nat) (h : a.size = 4 * p) : numL (a ++ b) (p + q) = numL a p ++ numL b q := by
  simp only [numL, List.range_add, List.map_append, List.map_map]
  congr 1
  · apply List.map_congr_left
    intro j hj
    have := List.mem_range.1 hj
    exact le4_l _ _ _ (by omega)
  · apply List.map_congr_left
    intro j hj
    simp only [Function.comp]
    rw [show 4 * (p + j) = a.size + 4 * j by omega, le4_r]
theorem le4_lo (c : Int) (h0 : 0 ≤ c) (h1 : c ≤ 4294967295) : numL (strOfNums (loL c 4)) 1 = [c] := by
  have hn : nums (strOfNums (loL c 4)) = loL c 4 := nums_son (loL_range c 4)
  have e : loL c 4 = [c / 1 % 256, c / 256 % 256, c / 65536 % 256, c / 16777216 % 256] := rfl
  show [le4 _ 0] = [c]
  congr 1
  unfold le4
  simp only [byteAt_nums, hn]
  rw [e]
  simp only [List.getD_cons_zero, List.getD_cons_succ, Nat.zero_add]
  omega
/-- "expand 32-byte k" -/
def cst : ByteArray := ⟨#[101, 120, 112, 97, 110, 100, 32, 51, 50, 45, 98, 121, 116, 101, 32, 107]⟩
def chaL (k n : ByteArray) (c : Int) : List Int := numL (cst ++ k) 12 ++ c :: numL n 3
def chaB (k n : ByteArray) (c : Int) : Prop := k.size = 32 ∧ n.size = 12 ∧ 0 ≤ c ∧ c ≤ 4294967295
theorem chaL_len (k n : ByteArray) (c : Int) : (chaL k n c).length = 16 := by simp [chaL, numL_len]
theorem cst_size (k : ByteArray) : (cst ++ k).size = 16 + k.size := by rw [ByteArray.size_append]; rfl
theorem chaL_eq (k n : ByteArray) (c : Int) (h : chaB k n c) : numL (((cst ++ k) ++ strOfNums (loL c 4)) ++ n) 16 = chaL k n c := by
  obtain ⟨hk, hn, h0, h1⟩ := h
  have hlo : (strOfNums (loL c 4)).size = 4 := by rw [son_size, loL_len]
  rw [show (16 : Nat) = 13 + 3 by rfl, numL_app _ _ 13 3 (by rw [ByteArray.size_append, cst_size, hlo, hk]), show (13 : Nat) = 12 + 1 by rfl, numL_app _ _ 12 1 (by rw [cst_size, hk]), le4_lo c h0 h1, chaL, List.append_assoc]
  rfl
theorem chaI_ok (k n : ByteArray) (c : Int) (h : chaB k n c) (H : AHeap) : Sound Try.prog 16 [.sc (.string k), .sc (.string n), .sc (.int .i64 c)] H (.tup [.sl H.length 0 16 1, .sc (.bool true)]) (H ++ [⟨ints .i64 (chaL k n c), true, true⟩]) := by
  obtain ⟨hk, hn, h0, h1⟩ := id h
  have key : ∃ v Z, Sound Try.prog 16 [.sc (.string k), .sc (.string n), .sc (.int .i64 c)] [] v Z ∧ (v = .tup [.sl 0 0 16 1, .sc (.bool true)] ∧ Z[0]? = some ⟨ints .i64 (chaL k n c), true, true⟩) := by
    refine Sound.runP (args := [.sc (.string k), .sc (.string n), .sc (.int .i64 c)]) 29 [.tmp 6, .tmp 7] Try.func16 rfl rfl rfl rfl (by simp) (fun v Z => v = .tup [.sl 0 0 16 1, .sc (.bool true)] ∧ Z[0]? = some ⟨ints .i64 (chaL k n c), true, true⟩) ?_
    simp -implicitDefEqProofs only [↓w_seq, ↓w_region, ↓ops_cons, ↓g_assign, ↓ops_nil, ev_const, of_bool, ↓g_move, ↓g_len, Try.underlying9, Nat.reduceLT, ev_tab, ne_eq, reduceCtorEq, not_false_eq_true, upd_ne, par0, upd_eq, len_str, hk, Int.cast_ofNat_Int, ↓g_binOp, of_int, onS_some, b_neq, decide_true, Bool.not_true, yielded_tab, dstAt_s, dstAt_0, ybv_some, boolOf_b, ↓g_guard_t, Nat.reduceEqDiff, par1, hn, ↓g_pick, pick_b, if_false, par2]
    refine call1 (by simp -implicitDefEqProofs only [List.map_cons, Nat.reduceLT, ev_tab, upd_eq, ev_const, of_int, List.map_nil] <;> rfl) (inI c 0 4294967295) ?_
    rw [decide_eq_true (p := 0 ≤ c ∧ c ≤ 4294967295) ⟨h0, h1⟩]
    have hx : (⟨#[101, 120, 112, 97, 110, 100, 32, 51, 50, 45, 98, 121, 116, 101, 32, 107]⟩ : ByteArray) = cst := rfl
    have hcs : cst.size = 16 := rfl
    simp -implicitDefEqProofs only [↓ops_cons, yielded_tab, dstAt_s, dstAt_0, Nat.reduceLT, ybv_some, ne_eq, Nat.reduceEqDiff, not_false_eq_true, upd_ne, upd_eq, boolOf_b, ↓g_guard_t, ↓g_unOp, ev_tab, u_not, Bool.not_true, Option.map_some, ↓g_pick, ev_const, of_bool, pick_b, reduceCtorEq, if_false, ↓ops_nil, ↓w_cond, ↓w_seq, ↓w_region, hx, ↓g_assign, ↓w_ret, retP_2, res_tmp, List.getElem?_nil, and_false, onS_some, ↓w_skip, ↓g_move, ↓g_binOp, par0, of_str, t_add, hcs, hk, Nat.reduceAdd, Nat.reduceLeDiff, if_true, par2, onB_false]
    refine call1 (by simp -implicitDefEqProofs only [List.map_cons, Nat.reduceLT, ev_tab, upd_eq, ev_const, of_int, List.map_nil, Int.cast_ofNat_Int] <;> rfl) (lowI c 4 h0 (by omega) (by decide)) ?_
    have hlo : (strOfNums (loL c 4)).size = 4 := by rw [son_size, loL_len]
    simp -implicitDefEqProofs only [↓ops_cons, ↓g_binOp, Nat.reduceLT, ev_tab, ne_eq, Nat.reduceEqDiff, not_false_eq_true, upd_ne, upd_eq, t_add, ByteArray.size_append, hcs, hk, Nat.reduceAdd, hlo, Nat.reduceLeDiff, if_true, ↓g_move, par1, onS_some, hn]
    refine call1L (by simp -implicitDefEqProofs only [List.map_cons, Nat.reduceLT, ev_tab, upd_eq, List.map_nil] <;> rfl) (lowNumsI (((cst ++ k) ++ strOfNums (loL c 4)) ++ n) 16 (by rw [ByteArray.size_append, ByteArray.size_append, cst_size, hlo, hk, hn]) (by rw [ByteArray.size_append, ByteArray.size_append, cst_size, hlo, hk, hn]; decide)) ?_
    rw [chaL_eq k n c h]
    simp -implicitDefEqProofs only [↓ops_cons, ↓g_assign, ↓ops_nil, ↓w_ret, List.length_nil, chaL_len, Nat.reduceLT, ev_tab, upd_eq, ev_const, of_bool, List.nil_append, retP_2, res_tmp, ne_eq, Nat.reduceEqDiff, not_false_eq_true, upd_ne, List.getElem?_cons_zero, and_true, onS_some]
  obtain ⟨v, Z, h2, rfl, h3⟩ := key
  exact Sound.fresh H 0 _ h2 h3 (FlatReg.ints _ _ _ _) (flats_cons (.sc _) (flats_cons (.sc _) (flats_cons (.sc _) flats_nil))) (.tups (.cons (.sl (if_pos rfl)) (.cons (.flat (.sc _)) .nil)))
theorem chaI_no (k n : ByteArray) (c : Int) (h : ¬ chaB k n c) : Fn Try.prog 16 [.sc (.string k), .sc (.string n), .sc (.int .i64 c)] (.tup [.sc (.slice none 0 0), .sc (.bool false)]) := by
  refine Fn.run 29 [.tmp 6, .tmp 7] Try.func16 rfl rfl rfl rfl (by simp) (flats_cons (.sc _) (flats_cons (.sc _) (flats_cons (.sc _) flats_nil))) (.tup (flats_cons (.sc _) (flats_cons (.sc _) flats_nil))) ?_
  by_cases hk : k.size = 32
  · by_cases hn : n.size = 12
    · have hc : ¬ (0 ≤ c ∧ c ≤ 4294967295) := fun hc => h ⟨hk, hn, hc⟩
      simp -implicitDefEqProofs only [↓w_seq, ↓w_region, ↓ops_cons, ↓g_assign, ↓ops_nil, ev_const, of_bool, ↓g_move, ↓g_len, Try.underlying9, Nat.reduceLT, ev_tab, ne_eq, reduceCtorEq, not_false_eq_true, upd_ne, par0, upd_eq, len_str, hk, Int.cast_ofNat_Int, ↓g_binOp, of_int, onS_some, b_neq, decide_true, Bool.not_true, yielded_tab, dstAt_s, dstAt_0, ybv_some, boolOf_b, ↓g_guard_t, Nat.reduceEqDiff, par1, hn, ↓g_pick, pick_b, if_false, par2]
      refine call1 (by simp -implicitDefEqProofs only [List.map_cons, Nat.reduceLT, ev_tab, upd_eq, ev_const, of_int, List.map_nil] <;> rfl) (inI c 0 4294967295) ?_
      rw [decide_eq_false hc]
      simp -implicitDefEqProofs only [↓ops_cons, yielded_tab, dstAt_s, dstAt_0, Nat.reduceLT, ybv_some, ne_eq, Nat.reduceEqDiff, not_false_eq_true, upd_ne, upd_eq, boolOf_b, ↓g_guard_t, ↓g_unOp, ev_tab, u_not, Bool.not_false, Option.map_some, ↓g_pick, ev_const, of_bool, pick_b, reduceCtorEq, if_false, ↓ops_nil, ↓w_cond, ↓w_seq, ↓w_region, ↓g_assign, ↓w_ret, ret_two, ↓w_skip, ↓g_move, ↓g_binOp, par0, of_str, t_add, par2, onS_ite, onS_some, onB_true]
      try rfl
    · have hn2 : ¬ (n.size : Int) = 12 := by omega
      simp -implicitDefEqProofs only [↓w_seq, ↓w_region, ↓ops_cons, ↓g_assign, ↓ops_nil, ev_const, of_bool, ↓g_move, ↓g_len, Try.underlying9, Nat.reduceLT, ev_tab, ne_eq, reduceCtorEq, not_false_eq_true, upd_ne, par0, upd_eq, len_str, hk, Int.cast_ofNat_Int, ↓g_binOp, of_int, onS_some, b_neq, decide_true, Bool.not_true, yielded_tab, dstAt_s, dstAt_0, ybv_some, boolOf_b, ↓g_guard_t, Nat.reduceEqDiff, par1, ↓g_pick, pick_b, if_false, hn2, decide_false, Bool.not_false, ↓g_guard_f, if_true, ↓w_cond, ↓w_ret, ret_two, ↓w_skip, of_str, t_add, Nat.reduceLeDiff, par2, onS_ite, onB_true]
      try rfl
  · have hk2 : ¬ (k.size : Int) = 32 := by omega
    simp -implicitDefEqProofs only [↓w_seq, ↓w_region, ↓ops_cons, ↓g_assign, ↓ops_nil, ev_const, of_bool, ↓g_move, ↓g_len, Try.underlying9, Nat.reduceLT, ev_tab, ne_eq, reduceCtorEq, not_false_eq_true, upd_ne, par0, upd_eq, len_str, ↓g_binOp, of_int, onS_some, b_neq, hk2, decide_false, Bool.not_false, yielded_tab, dstAt_s, dstAt_0, ybv_some, boolOf_b, ↓g_guard_f, Nat.reduceEqDiff, ↓g_pick, pick_b, if_true, ↓w_cond, ↓w_ret, ret_two, ↓w_skip, of_str, t_add, par2, onS_ite, onB_true]
    try rfl
theorem chaS_ok (k n : ByteArray) (c : Int) (h : chaB k n c) (H : AHeap) : Sound Try.prog 25 [.sc (.string k), .sc (.string n), .sc (.int .i64 c)] H (.tup [.sl H.length 0 16 1, .sc (.bool true)]) (H ++ [⟨ints .i64 (chaL k n c), true, true⟩]) := by
  obtain ⟨hk, hn, h0, h1⟩ := id h
  have key : ∃ v Z, Sound Try.prog 25 [.sc (.string k), .sc (.string n), .sc (.int .i64 c)] [] v Z ∧ ∃ r, v = .tup [.sl r 0 16 1, .sc (.bool true)] ∧ Z[r]? = some ⟨ints .i64 (chaL k n c), true, true⟩ := by
    refine Sound.runP (args := [.sc (.string k), .sc (.string n), .sc (.int .i64 c)]) 56 [.tmp 6, .tmp 7] Try.func25 rfl rfl rfl rfl (by simp) (fun v Z => ∃ r, v = .tup [.sl r 0 16 1, .sc (.bool true)] ∧ Z[r]? = some ⟨ints .i64 (chaL k n c), true, true⟩) ?_
    simp -implicitDefEqProofs only [↓w_seq, ↓w_region, ↓ops_cons, ↓g_assign, ↓ops_nil, ev_const, of_bool, ↓g_move, ↓g_len, Try.underlying9, Nat.reduceLT, ev_tab, ne_eq, reduceCtorEq, not_false_eq_true, upd_ne, par0, upd_eq, len_str, hk, Int.cast_ofNat_Int, ↓g_binOp, of_int, onS_some, b_neq, decide_true, Bool.not_true, yielded_tab, dstAt_s, dstAt_0, ybv_some, boolOf_b, ↓g_guard_t, Nat.reduceEqDiff, par1, hn, ↓g_pick, pick_b, if_false, par2]
    refine call1 (by simp -implicitDefEqProofs only [List.map_cons, Nat.reduceLT, ev_tab, upd_eq, ev_const, of_int, List.map_nil] <;> rfl) (inS c 0 4294967295) ?_
    rw [decide_eq_true (p := 0 ≤ c ∧ c ≤ 4294967295) ⟨h0, h1⟩]
    have hx : (⟨#[101, 120, 112, 97, 110, 100, 32, 51, 50, 45, 98, 121, 116, 101, 32, 107]⟩ : ByteArray) = cst := rfl
    have hcs : cst.size = 16 := rfl
    have hsz : (cst ++ k).size = 48 := by rw [cst_size, hk]
    simp -implicitDefEqProofs only [↓ops_cons, yielded_tab, dstAt_s, dstAt_0, Nat.reduceLT, ybv_some, ne_eq, Nat.reduceEqDiff, not_false_eq_true, upd_ne, upd_eq, boolOf_b, ↓g_guard_t, ↓g_unOp, ev_tab, u_not, Bool.not_true, Option.map_some, ↓g_pick, ev_const, of_bool, pick_b, reduceCtorEq, if_false, ↓ops_nil, ↓w_cond, ↓w_seq, ↓w_region, hx, ↓g_buildSlice, Try.underlying26, List.map_nil, bs3_0, ↓g_assign, ↓w_ret, retP_2, res_tmp, onS_some, alK_some, ints_one, List.length_nil, List.nil_append, true_and, ↓w_skip, ↓g_move, ↓g_binOp, par0, of_str, t_add, hcs, hk, Nat.reduceAdd, Nat.reduceLeDiff, if_true, ↓w_block, of_int, onB_false]
    refine w_loop (ι := Nat) (fun i s => ∃ (T : Nat → AV) (G : AHeap), s = ⟨tab 56 T, G ++ [⟨ints .i64 (numL (cst ++ k) i), true, true⟩]⟩ ∧ i ≤ 12 ∧ T 1 = .sc (.string n) ∧ T 2 = .sc (.int .i64 c) ∧ T 8 = .sc (.string (cst ++ k)) ∧ T 9 = .sl G.length 0 i 1 ∧ T 10 = .sc (.int .i64 i)) (fun i => 12 - i) ?_ (i := 0) ?_
    · rintro i s ⟨T, G, rfl, a1, a2, a3, a4, a5, a6⟩
      have hl := numL_len (cst ++ k) i
      by_cases hi : i < 12
      · have k1 : (i : Int) < 12 := by omega
        have e1 : IntKind.i64.wrap ((i : Int) + 1) = i + 1 := w64 (by omega) (by omega)
        have e4 : IntKind.i64.wrap (4 * (i : Int)) = ((4 * i : Nat) : Int) := by rw [w64 (by omega) (by omega)]; omega
        simp -implicitDefEqProofs only [↓w_seq, ↓w_region, ↓ops_cons, ↓g_move, ↓g_binOp, Nat.reduceLT, ev_tab, a6, upd_eq, ev_const, of_int, b_lss, k1, decide_true, ↓ops_nil, ↓w_cond, ↓w_skip, ↓w_block, ne_eq, Nat.reduceEqDiff, not_false_eq_true, upd_ne, a5, a4, b_mul, e4, onS_some, ↓w_exit, ↓g_buildSlice, Try.underlying26, a3, List.map_cons, List.map_nil, bs3_1, ↓g_append, apS26, ↓g_assign, alK_some, ints_one, at_a, List.length_append, List.length_cons, List.length_nil, Nat.zero_add, src_sl, at_b, at_ints, Nat.le_refl, List.drop_zero, List.take_succ_cons, List.take_zero, if_true, ap_ints, Nat.reduceLeDiff, onS_ite, true_and, onB_true]
        refine call1 (by simp -implicitDefEqProofs only [List.map_cons, Nat.reduceLT, ev_tab, ne_eq, Nat.reduceEqDiff, not_false_eq_true, upd_ne, upd_eq, List.map_nil] <;> rfl) (fourS (cst ++ k) (4 * i) (by omega) (by omega)) ?_
        simp -implicitDefEqProofs only [↓ops_cons, ↓g_buildSlice, Try.underlying26, List.map_cons, Nat.reduceLT, ev_tab, upd_eq, List.map_nil, bs3_1, ↓g_append, ne_eq, Nat.reduceEqDiff, not_false_eq_true, upd_ne, apS26, ↓g_assign, ↓ops_nil, ↓w_region, ↓g_move, ↓g_binOp, a6, ev_const, of_int, b_add, e1, onS_some, alK_some, ints_one, at_a, List.length_append, List.length_cons, List.length_nil, Nat.zero_add, src_sl, at_b, at_ints, Nat.le_refl, List.drop_zero, List.take_succ_cons, List.take_zero, if_true, ap_ints, hl, Nat.reduceLeDiff, true_and, onS_ite]
        refine ⟨by omega, i + 1, by omega, _, _, st_end ?_, by omega, ?_, ?_, ?_, ?_, ?_⟩
        · rw [List.take_of_length_le (by omega), numL_s]
        · simp -implicitDefEqProofs only [ne_eq, Nat.reduceEqDiff, not_false_eq_true, upd_ne, a2]
        · simp -implicitDefEqProofs only [ne_eq, Nat.reduceEqDiff, not_false_eq_true, upd_ne, a3]
        · simp -implicitDefEqProofs only [ne_eq, Nat.reduceEqDiff, not_false_eq_true, upd_ne, a4]
        · simp -implicitDefEqProofs only [ne_eq, Nat.reduceEqDiff, not_false_eq_true, upd_ne, upd_eq, kill_len, List.length_append, List.length_cons, List.length_nil, Nat.zero_add]
          try (congr 1 <;> simp only [List.length_append, kill_len, List.length_cons, List.length_nil])
        · simp -implicitDefEqProofs only [upd_eq] <;> rfl
      · have hi12 : i = 12 := by omega
        have k1 : ¬ (i : Int) < 12 := by omega
        subst hi12
        simp -implicitDefEqProofs only [↓w_seq, ↓w_region, Nat.reduceSub, ↓ops_cons, ↓g_move, ↓g_binOp, Nat.reduceLT, ev_tab, a6, Int.cast_ofNat_Int, upd_eq, ev_const, of_int, b_lss, Int.reduceLT, decide_false, ↓ops_nil, ↓w_cond, ↓w_skip, ↓w_block, ne_eq, Nat.reduceEqDiff, not_false_eq_true, upd_ne, a5, a4, b_mul, Int.reduceMul, onS_some, ↓w_exit, ↓g_buildSlice, Try.underlying26, a3, List.map_cons, List.map_nil, bs3_1, ↓g_append, apS26, ↓g_assign, alK_some, ints_one, at_a, List.length_append, List.length_cons, List.length_nil, Nat.zero_add, src_sl, at_b, at_ints, Nat.le_refl, List.drop_zero, List.take_succ_cons, List.take_zero, if_true, ap_ints, hl, Nat.reduceAdd, Nat.reduceMul, Nat.reduceLeDiff, and_self, true_and, onB_false]
        refine w_loop (ι := Nat) (fun i s => ∃ (T : Nat → AV) (G : AHeap), s = ⟨tab 56 T, G ++ [⟨ints .i64 (numL (cst ++ k) 12 ++ c :: numL n i), true, true⟩]⟩ ∧ i ≤ 3 ∧ T 1 = .sc (.string n) ∧ T 9 = .sl G.length 0 (13 + i) 1 ∧ T 11 = .sc (.int .i64 i)) (fun i => 3 - i) ?_ (i := 0) ?_
        · rintro i s ⟨T, G, rfl, b1, b2, b3, b4⟩
          have hl2 : (numL (cst ++ k) 12 ++ c :: numL n i).length = 13 + i := by simp only [List.length_append, numL_len, List.length_cons]; omega
          by_cases hi : i < 3
          · have k1 : (i : Int) < 3 := by omega
            have e1 : IntKind.i64.wrap ((i : Int) + 1) = i + 1 := w64 (by omega) (by omega)
            have e4 : IntKind.i64.wrap (4 * (i : Int)) = ((4 * i : Nat) : Int) := by rw [w64 (by omega) (by omega)]; omega
            simp -implicitDefEqProofs only [↓w_seq, ↓w_region, ↓ops_cons, ↓g_move, ↓g_binOp, Nat.reduceLT, ev_tab, b4, upd_eq, ev_const, of_int, b_lss, k1, decide_true, ↓ops_nil, ↓w_cond, ↓w_skip, ↓w_block, ne_eq, Nat.reduceEqDiff, not_false_eq_true, upd_ne, b3, b2, b_mul, e4, onS_some, ↓w_exit, ↓g_assign, ↓w_ret, of_bool, retP_2, res_tmp, if_true, onB_true]
            refine call1 (by simp -implicitDefEqProofs only [List.map_cons, Nat.reduceLT, ev_tab, ne_eq, Nat.reduceEqDiff, not_false_eq_true, upd_ne, upd_eq, List.map_nil] <;> rfl) (fourS n (4 * i) (by omega) (by omega)) ?_
            generalize hA : numL (cst ++ k) 12 ++ c :: numL n i = A at *
            simp -implicitDefEqProofs only [↓ops_cons, ↓g_buildSlice, Try.underlying26, List.map_cons, Nat.reduceLT, ev_tab, upd_eq, List.map_nil, bs3_1, ↓g_append, ne_eq, Nat.reduceEqDiff, not_false_eq_true, upd_ne, apS26, ↓g_assign, ↓ops_nil, ↓w_region, ↓g_move, ↓g_binOp, b4, ev_const, of_int, b_add, e1, onS_some, alK_some, ints_one, at_a, List.length_append, List.length_cons, List.length_nil, Nat.zero_add, src_sl, at_b, at_ints, Nat.le_refl, List.drop_zero, List.take_succ_cons, List.take_zero, if_true, ap_ints, hl2, Nat.reduceLeDiff, true_and, onS_ite]
            refine ⟨by omega, i + 1, by omega, _, _, st_end ?_, by omega, ?_, ?_, ?_⟩
            · rw [List.take_of_length_le (by omega), ← hA, List.append_assoc, List.cons_append, numL_s]
            · simp -implicitDefEqProofs only [ne_eq, Nat.reduceEqDiff, not_false_eq_true, upd_ne, b2]
            · simp -implicitDefEqProofs only [ne_eq, Nat.reduceEqDiff, not_false_eq_true, upd_ne, upd_eq, kill_len, List.length_append, List.length_cons, List.length_nil, Nat.zero_add]
              try (congr 1 <;> simp only [List.length_append, kill_len, List.length_cons, List.length_nil])
            · simp -implicitDefEqProofs only [upd_eq] <;> rfl
          · have hi3 : i = 3 := by omega
            have k1 : ¬ (i : Int) < 3 := by omega
            subst hi3
            simp -implicitDefEqProofs only [↓w_seq, ↓w_region, Nat.reduceSub, ↓ops_cons, ↓g_move, ↓g_binOp, Nat.reduceLT, ev_tab, b4, Int.cast_ofNat_Int, upd_eq, ev_const, of_int, b_lss, Int.reduceLT, decide_false, ↓ops_nil, ↓w_cond, ↓w_skip, ↓w_block, ne_eq, Nat.reduceEqDiff, not_false_eq_true, upd_ne, b3, Nat.reduceAdd, b2, b_mul, Int.reduceMul, onS_some, ↓w_exit, ↓g_assign, ↓w_ret, of_bool, retP_2, res_tmp, if_true, onB_false]
            exact ⟨G.length, rfl, by rw [at_end]; rfl⟩
        · refine ⟨_, _, st_end ?_, by omega, ?_, ?_, ?_⟩
          · rw [List.take_of_length_le (by omega)]
            simp [numL]
          · simp -implicitDefEqProofs only [ne_eq, Nat.reduceEqDiff, not_false_eq_true, upd_ne, a2]
          · simp -implicitDefEqProofs only [ne_eq, Nat.reduceEqDiff, not_false_eq_true, upd_ne, upd_eq, kill_len, List.length_append, List.length_cons, List.length_nil, Nat.zero_add, Nat.reduceAdd]
            try (congr 1 <;> simp only [List.length_append, kill_len, List.length_cons, List.length_nil])
          · simp -implicitDefEqProofs only [upd_eq, Int.cast_ofNat_Int] <;> rfl
    · refine ⟨_, [], rfl, by omega, ?_, ?_, ?_, ?_, ?_⟩ <;> simp -implicitDefEqProofs only [ne_eq, Nat.reduceEqDiff, not_false_eq_true, upd_ne, par1, par2, upd_eq, List.length_nil, Int.cast_ofNat_Int] <;> rfl
  obtain ⟨v, Z, h2, r, rfl, h3⟩ := key
  exact Sound.fresh H r _ h2 h3 (FlatReg.ints _ _ _ _) (flats_cons (.sc _) (flats_cons (.sc _) (flats_cons (.sc _) flats_nil))) (.tups (.cons (.sl (if_pos rfl)) (.cons (.flat (.sc _)) .nil)))
theorem chaS_no (k n : ByteArray) (c : Int) (h : ¬ chaB k n c) (H : AHeap) : Sound Try.prog 25 [.sc (.string k), .sc (.string n), .sc (.int .i64 c)] H (.tup [.sl H.length 0 0 1, .sc (.bool false)]) (H ++ [⟨ints .i64 [], true, true⟩]) := by
  have key : ∃ v Z, Sound Try.prog 25 [.sc (.string k), .sc (.string n), .sc (.int .i64 c)] [] v Z ∧ (v = .tup [.sl 0 0 0 1, .sc (.bool false)] ∧ Z[0]? = some ⟨ints .i64 [], true, true⟩) := by
    refine Sound.runP (args := [.sc (.string k), .sc (.string n), .sc (.int .i64 c)]) 56 [.tmp 6, .tmp 7] Try.func25 rfl rfl rfl rfl (by simp) (fun v Z => v = .tup [.sl 0 0 0 1, .sc (.bool false)] ∧ Z[0]? = some ⟨ints .i64 [], true, true⟩) ?_
    by_cases hk : k.size = 32
    · by_cases hn : n.size = 12
      · have hc : ¬ (0 ≤ c ∧ c ≤ 4294967295) := fun hc => h ⟨hk, hn, hc⟩
        simp -implicitDefEqProofs only [↓w_seq, ↓w_region, ↓ops_cons, ↓g_assign, ↓ops_nil, ev_const, of_bool, ↓g_move, ↓g_len, Try.underlying9, Nat.reduceLT, ev_tab, ne_eq, reduceCtorEq, not_false_eq_true, upd_ne, par0, upd_eq, len_str, hk, Int.cast_ofNat_Int, ↓g_binOp, of_int, onS_some, b_neq, decide_true, Bool.not_true, yielded_tab, dstAt_s, dstAt_0, ybv_some, boolOf_b, ↓g_guard_t, Nat.reduceEqDiff, par1, hn, ↓g_pick, pick_b, if_false, par2]
        refine call1 (by simp -implicitDefEqProofs only [List.map_cons, Nat.reduceLT, ev_tab, upd_eq, ev_const, of_int, List.map_nil] <;> rfl) (inS c 0 4294967295) ?_
        rw [decide_eq_false hc]
        simp -implicitDefEqProofs only [↓ops_cons, yielded_tab, dstAt_s, dstAt_0, Nat.reduceLT, ybv_some, ne_eq, Nat.reduceEqDiff, not_false_eq_true, upd_ne, upd_eq, boolOf_b, ↓g_guard_t, ↓g_unOp, ev_tab, u_not, Bool.not_false, Option.map_some, ↓g_pick, ev_const, of_bool, pick_b, reduceCtorEq, if_false, ↓ops_nil, ↓w_cond, ↓w_seq, ↓w_region, ↓g_buildSlice, Try.underlying26, List.map_nil, bs3_0, ↓g_assign, ↓w_ret, retP_2, res_tmp, onS_some, alK_some, ints_one, List.length_nil, List.nil_append, List.getElem?_cons_zero, and_self, ↓w_skip, ↓g_move, ↓g_binOp, par0, of_str, t_add, ↓w_block, of_int, true_and, onS_ite, onB_true]
      · have hn2 : ¬ (n.size : Int) = 12 := by omega
        simp -implicitDefEqProofs only [↓w_seq, ↓w_region, ↓ops_cons, ↓g_assign, ↓ops_nil, ev_const, of_bool, ↓g_move, ↓g_len, Try.underlying9, Nat.reduceLT, ev_tab, ne_eq, reduceCtorEq, not_false_eq_true, upd_ne, par0, upd_eq, len_str, hk, Int.cast_ofNat_Int, ↓g_binOp, of_int, onS_some, b_neq, decide_true, Bool.not_true, yielded_tab, dstAt_s, dstAt_0, ybv_some, boolOf_b, ↓g_guard_t, Nat.reduceEqDiff, par1, ↓g_pick, pick_b, if_false, hn2, decide_false, Bool.not_false, ↓g_guard_f, if_true, ↓w_cond, ↓g_buildSlice, Try.underlying26, List.map_nil, bs3_0, ↓w_ret, retP_2, res_tmp, alK_some, ints_one, List.length_nil, List.nil_append, List.getElem?_cons_zero, and_self, ↓w_skip, of_str, t_add, Nat.reduceLeDiff, ↓w_block, true_and, onS_ite, onB_true]
    · have hk2 : ¬ (k.size : Int) = 32 := by omega
      simp -implicitDefEqProofs only [↓w_seq, ↓w_region, ↓ops_cons, ↓g_assign, ↓ops_nil, ev_const, of_bool, ↓g_move, ↓g_len, Try.underlying9, Nat.reduceLT, ev_tab, ne_eq, reduceCtorEq, not_false_eq_true, upd_ne, par0, upd_eq, len_str, ↓g_binOp, of_int, onS_some, b_neq, hk2, decide_false, Bool.not_false, yielded_tab, dstAt_s, dstAt_0, ybv_some, boolOf_b, ↓g_guard_f, Nat.reduceEqDiff, ↓g_pick, pick_b, if_true, ↓w_cond, ↓g_buildSlice, Try.underlying26, List.map_nil, bs3_0, ↓w_ret, retP_2, res_tmp, alK_some, ints_one, List.length_nil, List.nil_append, List.getElem?_cons_zero, and_self, ↓w_skip, of_str, t_add, ↓w_block, true_and, onS_ite, onB_true]
  obtain ⟨v, Z, h2, rfl, h3⟩ := key
  exact Sound.fresh H 0 _ h2 h3 (FlatReg.ints _ _ _ _) (flats_cons (.sc _) (flats_cons (.sc _) (flats_cons (.sc _) flats_nil))) (.tups (.cons (.sl (if_pos rfl)) (.cons (.flat (.sc _)) .nil)))
end Go.Proofs.Ytbmadanfpicmiaa.Sim

