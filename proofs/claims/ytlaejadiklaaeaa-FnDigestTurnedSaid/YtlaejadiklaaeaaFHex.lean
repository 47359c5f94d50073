/- A text's bytes in figures. -/
import Derived.Test.YtlaejadiklaaeaaFDigI
import Derived.Test.YtlaejadiklaaeaaFDigS
namespace Go.Proofs.Ytlaejadiklaaeaa.Sim
open Go
set_option maxRecDepth 100000
set_option maxHeartbeats 4000000
set_option linter.unusedSimpArgs false
set_option linter.unusedVariables false
def fig (n : Int) : Int := if n < 10 then 48 + n else 87 + n
def hexL : List Int → List Int
  | [] => []
  | x :: l => fig (x / 16) :: fig (x % 16) :: hexL l
theorem hexL_len : ∀ l : List Int, (hexL l).length = 2 * l.length
  | [] => rfl
  | x :: l => by
    simp only [hexL, List.length_cons, hexL_len l]
    omega
theorem hexL_app : ∀ a b : List Int, hexL (a ++ b) = hexL a ++ hexL b
  | [], b => rfl
  | x :: a, b => by simp [hexL, hexL_app a b]
theorem hexL_s (l : List Int) (i : Nat) (h : i < l.length) : hexL (l.take i) ++ [fig (l.getD i 0 / 16), fig (l.getD i 0 % 16)] = hexL (l.take (i + 1)) := by
  rw [List.take_add_one, List.getD_eq_getElem?_getD, List.getElem?_eq_getElem h, hexL_app]
  rfl
theorem figS (n : Int) (h0 : 0 ≤ n) (h1 : n < 16) : Fn Try.prog 76 [.sc (.int .i64 n)] (.sc (.int .u8 (fig n))) := by
  refine Fn.run 12 [.tmp 2] Try.func76 rfl rfl rfl rfl (by simp) (flats_cons (.sc _) flats_nil) (.sc _) ?_
  unfold fig
  by_cases h : n < 10
  · have e1 : IntKind.i64.wrap (48 + n) = 48 + n := w64 (by omega) (by omega)
    have e2 : IntKind.u8.wrap (48 + n) = 48 + n := u8_id (by omega) (by omega)
    rw [if_pos h]
    simp -implicitDefEqProofs only [↓w_seq, ↓w_region, ↓ops_cons, ↓g_assign, ↓ops_nil, ev_const, of_int, ↓g_move, ↓g_binOp, Nat.reduceLT, ev_tab, ne_eq, reduceCtorEq, not_false_eq_true, upd_ne, par0, upd_eq, b_lss, h, decide_true, ↓w_cond, b_add, e1, ↓g_convert, Try.underlying3, Try.underlying5, ↓w_ret, ret_one, onS_some, c_int, e2, ↓w_skip, b_sub, onB_true]
  · have e1 : IntKind.i64.wrap (97 + n) = 97 + n := w64 (by omega) (by omega)
    have e3 : IntKind.i64.wrap (97 + n - 10) = 87 + n := by rw [w64 (by omega) (by omega)]; omega
    have e2 : IntKind.u8.wrap (87 + n) = 87 + n := u8_id (by omega) (by omega)
    rw [if_neg h]
    simp -implicitDefEqProofs only [↓w_seq, ↓w_region, ↓ops_cons, ↓g_assign, ↓ops_nil, ev_const, of_int, ↓g_move, ↓g_binOp, Nat.reduceLT, ev_tab, ne_eq, reduceCtorEq, not_false_eq_true, upd_ne, par0, upd_eq, b_lss, h, decide_false, ↓w_cond, b_add, ↓g_convert, Try.underlying3, Try.underlying5, ↓w_ret, ret_one, onS_some, c_int, ↓w_skip, e1, b_sub, e3, e2, onB_false]
def figT : ByteArray := ⟨#[48, 49, 50, 51, 52, 53, 54, 55, 56, 57, 97, 98, 99, 100, 101, 102]⟩
theorem figT_at (n : Nat) (h : n < 16) : byteAt figT n = fig n := by
  match n, h with
  | 0, _ => rfl
  | 1, _ => rfl
  | 2, _ => rfl
  | 3, _ => rfl
  | 4, _ => rfl
  | 5, _ => rfl
  | 6, _ => rfl
  | 7, _ => rfl
  | 8, _ => rfl
  | 9, _ => rfl
  | 10, _ => rfl
  | 11, _ => rfl
  | 12, _ => rfl
  | 13, _ => rfl
  | 14, _ => rfl
  | 15, _ => rfl
  | n + 16, h => exact absurd h (by omega)
theorem hexI (z : ByteArray) (hz : z.size ≤ 20000) : Fn Try.prog 48 [.sc (.string z)] (.tup [.sc (.string (strOfNums (hexL (nums z)))), .sc (.bool true)]) := by
  refine Fn.run 31 [.tmp 2, .tmp 3] Try.func48 rfl rfl rfl rfl (by simp) (flats_cons (.sc _) flats_nil) (.tup (flats_cons (.sc _) (flats_cons (.sc _) flats_nil))) ?_
  have hb : ¬ (20000 : Int) < z.size := by omega
  have k0 : ∀ j : Nat, (0 : Int) ≤ (j : Int) := fun j => by omega
  simp -implicitDefEqProofs only [↓w_seq, ↓w_region, ↓ops_cons, ↓g_assign, ↓ops_nil, ev_const, of_str, of_bool, ↓g_move, ↓g_len, Try.underlying9, Nat.reduceLT, ev_tab, ne_eq, reduceCtorEq, not_false_eq_true, upd_ne, par0, upd_eq, len_str, ↓g_binOp, of_int, ↓w_cond, ↓w_ret, ret_two, Nat.reduceEqDiff, ↓w_skip, ↓g_buildSlice, Try.underlying24, List.map_nil, bs5_0, ↓w_block, alK_some, ints_one, List.length_nil, List.nil_append, true_and, onS_some, b_gtr, hb, decide_false, onB_false]
  refine w_loop (ι := Nat) (fun i s => ∃ (T : Nat → AV) (G : AHeap), s = ⟨tab 31 T, G ++ [⟨ints .u8 (hexL ((nums z).take i)), true, true⟩]⟩ ∧ i ≤ z.size ∧ T 0 = .sc (.string z) ∧ T 4 = .sl G.length 0 (2 * i) 1 ∧ T 5 = .sc (.int .i64 i)) (fun i => z.size - i) ?_ (i := 0) ?_
  · rintro i s ⟨T, G, rfl, a1, a2, a3, a4⟩
    have hl : (hexL ((nums z).take i)).length = 2 * i := by rw [hexL_len, List.length_take, nums_len]; omega
    by_cases h : i < z.size
    · have k1 : (i : Int) < z.size := by omega
      have e1 : IntKind.i64.wrap ((i : Int) + 1) = i + 1 := w64 (by omega) (by omega)
      have hr := byte_range z i
      have q1 : IntKind.u8.wrap ((byteAt z i).tdiv 16) = byteAt z i / 16 := by rw [Int.tdiv_eq_ediv_of_nonneg hr.1, u8_id (by omega) (by omega)]
      have q2 : (byteAt z i).tmod 16 = byteAt z i % 16 := Int.tmod_eq_emod_of_nonneg hr.1
      have c1 : 0 ≤ byteAt z i / 16 := by omega
      have c2 : (byteAt z i / 16).toNat < 16 := by omega
      have c3 : 0 ≤ byteAt z i % 16 := by omega
      have c4 : (byteAt z i % 16).toNat < 16 := by omega
      have hF : (⟨#[48, 49, 50, 51, 52, 53, 54, 55, 56, 57, 97, 98, 99, 100, 101, 102]⟩ : ByteArray) = figT := rfl
      have hFs : figT.size = 16 := rfl
      have d1 : byteAt figT (byteAt z i / 16).toNat = fig (byteAt z i / 16) := by rw [figT_at _ c2, Int.toNat_of_nonneg c1]
      have d2 : byteAt figT (byteAt z i % 16).toNat = fig (byteAt z i % 16) := by rw [figT_at _ c4, Int.toNat_of_nonneg c3]
      have hs := hexL_s (nums z) i (by rw [nums_len]; exact h)
      rw [← byteAt_nums] at hs
      simp -implicitDefEqProofs only [↓w_seq, ↓w_region, ↓ops_cons, ↓g_move, ↓g_len, Try.underlying9, Nat.reduceLT, ev_tab, a4, ne_eq, reduceCtorEq, not_false_eq_true, upd_ne, a2, upd_eq, len_str, ↓g_binOp, Nat.reduceEqDiff, ↓ops_nil, ↓w_cond, ↓w_skip, ↓w_block, ↓w_exit, ↓g_convert, Try.underlying24, a3, ↓g_assign, ↓w_ret, ev_const, of_bool, ret_two, c_text, isU5, and_self, at_def, at_end, at_ints, Nat.zero_add, List.drop_zero, if_true, onS_some, b_lss, k1, decide_true, onB_true]
      refine drawn [] follows (by kernel_rfl) (by kernel_rfl) ?_
      simp -implicitDefEqProofs only [hF, ↓dops_cons, ↓g_move, ↓g_index, Try.underlying9, Nat.reduceLT, ev_tab, ne_eq, Nat.reduceEqDiff, not_false_eq_true, upd_ne, a3, reduceCtorEq, a2, a4, upd_eq, idx_str, k0, Int.toNat_natCast, h, and_self, if_true, ↓g_binOp, ev_const, of_int, of_str, ↓g_buildSlice, Try.underlying24, List.map_cons, List.map_nil, ↓g_append, apS24, ↓g_assign, ↓dops_0, ↓w_region, ↓ops_cons, b_add, e1, ↓ops_nil, onS_some, b_rem, Int.reduceEq, q2, if_false, c3, hFs, c4, d2, b_quo, q1, c1, c2, d1, bs5_2, alK_some, ints_one, at_a, List.length_append, List.length_cons, List.length_nil, Nat.zero_add, src_sl, at_b, at_ints, Nat.reduceAdd, Nat.le_refl, List.drop_zero, List.take_succ_cons, List.take_zero, ap_ints, hl, Nat.mul_one, Nat.reduceLeDiff, true_and, onS_ite]
      refine ⟨by omega, i + 1, by omega, _, _, st_end ?_, by omega, ?_, ?_, ?_⟩
      · rw [List.take_of_length_le (by omega), hs]
      · simp -implicitDefEqProofs only [ne_eq, reduceCtorEq, not_false_eq_true, upd_ne, a2]
      · simp -implicitDefEqProofs only [ne_eq, Nat.reduceEqDiff, not_false_eq_true, upd_ne, upd_eq, kill_len, List.length_append, List.length_cons, List.length_nil, Nat.zero_add]
        try simp only [kill_len, List.length_append, List.length_cons, List.length_nil]
        try rfl
      · simp -implicitDefEqProofs only [upd_eq] <;> rfl
    · have k1 : ¬ (i : Int) < z.size := by omega
      have hi : i = z.size := by omega
      subst hi
      have ht : (nums z).take z.size = nums z := List.take_of_length_le (by rw [nums_len]; omega)
      rw [ht] at hl ⊢
      have ht2 : (hexL (nums z)).take (2 * z.size) = hexL (nums z) := List.take_of_length_le (by omega)
      simp -implicitDefEqProofs only [↓w_seq, ↓w_region, ↓ops_cons, ↓g_move, ↓g_len, Try.underlying9, Nat.reduceLT, ev_tab, a4, ne_eq, reduceCtorEq, not_false_eq_true, upd_ne, a2, upd_eq, len_str, ↓g_binOp, Nat.reduceEqDiff, ↓ops_nil, ↓w_cond, ↓w_skip, ↓w_block, ↓w_exit, ↓g_convert, Try.underlying24, a3, ↓g_assign, ↓w_ret, ev_const, of_bool, ret_two, c_text, isU5, and_self, at_def, at_end, at_ints, Nat.zero_add, hl, Nat.le_refl, List.drop_zero, ht2, if_true, Option.bind_some, bytesA_ints, Option.map_some, onS_some, b_lss, k1, decide_false, onB_false]
  · refine ⟨_, [], rfl, by omega, ?_, ?_, ?_⟩ <;> simp -implicitDefEqProofs only [ne_eq, reduceCtorEq, not_false_eq_true, upd_ne, par0, Nat.reduceEqDiff, upd_eq, List.length_nil, Nat.reduceMul, Int.cast_ofNat_Int] <;> rfl
theorem hexS (z : ByteArray) (hz : z.size ≤ 20000) : Fn Try.prog 55 [.sc (.string z)] (.tup [.sc (.string (strOfNums (hexL (nums z)))), .sc (.bool true)]) := by
  refine Fn.run 33 [.tmp 2, .tmp 3] Try.func55 rfl rfl rfl rfl (by simp) (flats_cons (.sc _) flats_nil) (.tup (flats_cons (.sc _) (flats_cons (.sc _) flats_nil))) ?_
  have hb : ¬ (20000 : Int) < z.size := by omega
  have k0 : ∀ j : Nat, (0 : Int) ≤ (j : Int) := fun j => by omega
  simp -implicitDefEqProofs only [↓w_seq, ↓w_region, ↓ops_cons, ↓g_assign, ↓ops_nil, ev_const, of_str, of_bool, ↓g_move, ↓g_len, Try.underlying9, Nat.reduceLT, ev_tab, ne_eq, reduceCtorEq, not_false_eq_true, upd_ne, par0, upd_eq, len_str, ↓g_binOp, of_int, ↓w_cond, ↓w_ret, ret_two, Nat.reduceEqDiff, ↓w_skip, ↓g_buildSlice, Try.underlying24, List.map_nil, bs5_0, ↓w_block, alK_some, ints_one, List.length_nil, List.nil_append, true_and, onS_some, b_gtr, hb, decide_false, onB_false]
  refine w_loop (ι := Nat) (fun i s => ∃ (T : Nat → AV) (G : AHeap), s = ⟨tab 33 T, G ++ [⟨ints .u8 (hexL ((nums z).take i)), true, true⟩]⟩ ∧ i ≤ z.size ∧ T 0 = .sc (.string z) ∧ T 4 = .sl G.length 0 (2 * i) 1 ∧ T 5 = .sc (.int .i64 i)) (fun i => z.size - i) ?_ (i := 0) ?_
  · rintro i s ⟨T, G, rfl, a1, a2, a3, a4⟩
    have hl : (hexL ((nums z).take i)).length = 2 * i := by rw [hexL_len, List.length_take, nums_len]; omega
    by_cases h : i < z.size
    · have k1 : (i : Int) < z.size := by omega
      have e1 : IntKind.i64.wrap ((i : Int) + 1) = i + 1 := w64 (by omega) (by omega)
      have hr := byte_range z i
      have q0 : IntKind.i64.wrap (byteAt z i) = byteAt z i := w64 (by omega) (by omega)
      have q1 : IntKind.i64.wrap ((byteAt z i).tdiv 16) = byteAt z i / 16 := by rw [Int.tdiv_eq_ediv_of_nonneg hr.1, w64 (by omega) (by omega)]
      have q2 : (byteAt z i).tmod 16 = byteAt z i % 16 := Int.tmod_eq_emod_of_nonneg hr.1
      have hs := hexL_s (nums z) i (by rw [nums_len]; exact h)
      rw [← byteAt_nums] at hs
      simp -implicitDefEqProofs only [↓w_seq, ↓w_region, ↓ops_cons, ↓g_move, ↓g_len, Try.underlying9, Nat.reduceLT, ev_tab, a4, ne_eq, reduceCtorEq, not_false_eq_true, upd_ne, a2, upd_eq, len_str, ↓g_binOp, Nat.reduceEqDiff, ↓ops_nil, ↓w_cond, ↓w_skip, ↓w_block, ↓w_exit, ↓g_convert, Try.underlying24, a3, ↓g_assign, ↓w_ret, ev_const, of_bool, ret_two, c_text, isU5, and_self, at_def, at_end, at_ints, Nat.zero_add, List.drop_zero, if_true, onS_some, b_lss, k1, decide_true, onB_true]
      refine drawn [] follows (by kernel_rfl) (by kernel_rfl) ?_
      simp -implicitDefEqProofs only [↓dops_cons, ↓g_move, ↓g_index, Try.underlying9, Nat.reduceLT, ev_tab, ne_eq, Nat.reduceEqDiff, not_false_eq_true, upd_ne, a3, reduceCtorEq, a2, a4, upd_eq, idx_str, k0, Int.toNat_natCast, h, and_self, if_true, ↓g_convert, Try.underlying5, Try.underlying3, ↓g_binOp, ev_const, of_int, onS_some, c_int, q0, b_quo, Int.reduceEq, q1, if_false]
      refine call1 (by simp -implicitDefEqProofs only [List.map_cons, Nat.reduceLT, ev_tab, upd_eq, List.map_nil] <;> rfl) (figS _ (by omega) (by omega)) ?_
      simp -implicitDefEqProofs only [↓dops_cons, ↓g_move, ↓g_index, Try.underlying9, Nat.reduceLT, ev_tab, ne_eq, reduceCtorEq, not_false_eq_true, upd_ne, a2, Nat.reduceEqDiff, a4, upd_eq, idx_str, k0, Int.toNat_natCast, h, and_self, if_true, ↓g_convert, Try.underlying5, Try.underlying3, ↓g_binOp, ev_const, of_int, onS_some, c_int, q0, b_rem, Int.reduceEq, q2, if_false]
      refine call1 (by simp -implicitDefEqProofs only [List.map_cons, Nat.reduceLT, ev_tab, upd_eq, List.map_nil] <;> rfl) (figS _ (by omega) (by omega)) ?_
      simp -implicitDefEqProofs only [↓dops_cons, ↓g_buildSlice, Try.underlying24, List.map_cons, Nat.reduceLT, ev_tab, ne_eq, Nat.reduceEqDiff, not_false_eq_true, upd_ne, upd_eq, List.map_nil, bs5_2, ↓g_append, apS24, ↓g_assign, ↓dops_0, ↓w_region, ↓ops_cons, ↓g_move, ↓g_binOp, a4, ev_const, of_int, b_add, e1, ↓ops_nil, onS_some, alK_some, ints_one, at_a, List.length_append, List.length_cons, List.length_nil, Nat.zero_add, src_sl, at_b, at_ints, Nat.reduceAdd, Nat.le_refl, List.drop_zero, List.take_succ_cons, List.take_zero, if_true, ap_ints, hl, Nat.mul_one, Nat.reduceLeDiff, and_self, true_and, onS_ite]
      refine ⟨by omega, i + 1, by omega, _, _, st_end ?_, by omega, ?_, ?_, ?_⟩
      · rw [List.take_of_length_le (by omega), hs]
      · simp -implicitDefEqProofs only [ne_eq, reduceCtorEq, not_false_eq_true, upd_ne, a2]
      · simp -implicitDefEqProofs only [ne_eq, Nat.reduceEqDiff, not_false_eq_true, upd_ne, upd_eq, kill_len, List.length_append, List.length_cons, List.length_nil, Nat.zero_add]
        try simp only [kill_len, List.length_append, List.length_cons, List.length_nil]
        try rfl
      · simp -implicitDefEqProofs only [upd_eq] <;> rfl
    · have k1 : ¬ (i : Int) < z.size := by omega
      have hi : i = z.size := by omega
      subst hi
      have ht : (nums z).take z.size = nums z := List.take_of_length_le (by rw [nums_len]; omega)
      rw [ht] at hl ⊢
      have ht2 : (hexL (nums z)).take (2 * z.size) = hexL (nums z) := List.take_of_length_le (by omega)
      simp -implicitDefEqProofs only [↓w_seq, ↓w_region, ↓ops_cons, ↓g_move, ↓g_len, Try.underlying9, Nat.reduceLT, ev_tab, a4, ne_eq, reduceCtorEq, not_false_eq_true, upd_ne, a2, upd_eq, len_str, ↓g_binOp, Nat.reduceEqDiff, ↓ops_nil, ↓w_cond, ↓w_skip, ↓w_block, ↓w_exit, ↓g_convert, Try.underlying24, a3, ↓g_assign, ↓w_ret, ev_const, of_bool, ret_two, c_text, isU5, and_self, at_def, at_end, at_ints, Nat.zero_add, hl, Nat.le_refl, List.drop_zero, ht2, if_true, Option.bind_some, bytesA_ints, Option.map_some, onS_some, b_lss, k1, decide_false, onB_false]
  · refine ⟨_, [], rfl, by omega, ?_, ?_, ?_⟩ <;> simp -implicitDefEqProofs only [ne_eq, reduceCtorEq, not_false_eq_true, upd_ne, par0, Nat.reduceEqDiff, upd_eq, List.length_nil, Nat.reduceMul, Int.cast_ofNat_Int] <;> rfl
theorem hxI (z : ByteArray) (hz : z.size ≤ 1000000000) : Fn Try.prog 19 [.sc (.string z)] (.sc (.string (strOfNums (hexL (nums (dig z)))))) := by
  refine Fn.run 12 [.tmp 2] Try.func19 rfl rfl rfl rfl (by simp) (flats_cons (.sc _) flats_nil) (.sc _) ?_
  simp -implicitDefEqProofs only [↓w_seq, ↓w_region, ↓ops_cons, ↓g_assign, ↓ops_nil, ev_const, of_str, ↓g_move, Nat.reduceLT, ev_tab, ne_eq, reduceCtorEq, not_false_eq_true, upd_ne, par0]
  refine call1 (by simp -implicitDefEqProofs only [List.map_cons, Nat.reduceLT, ev_tab, upd_eq, List.map_nil] <;> rfl) (digI z hz) ?_
  simp -implicitDefEqProofs only [↓ops_cons]
  refine call1 (by simp -implicitDefEqProofs only [List.map_cons, Nat.reduceLT, ev_tab, upd_eq, List.map_nil] <;> rfl) (hexI _ (by rw [dig_size]; decide)) ?_
  simp -implicitDefEqProofs only [↓ops_cons, ↓g_move, ↓g_extract, Nat.reduceLT, ev_tab, upd_eq, ext_0, ne_eq, Nat.reduceEqDiff, not_false_eq_true, upd_ne, ext_1, ↓g_assign, ↓ops_nil, ↓w_seq, ↓w_region, ↓w_ret, ret_one, onS_some]
theorem hxS (z : ByteArray) (hz : z.size ≤ 1000000000) : Fn Try.prog 26 [.sc (.string z)] (.sc (.string (strOfNums (hexL (nums (dig z)))))) := by
  refine Fn.run 12 [.tmp 2] Try.func26 rfl rfl rfl rfl (by simp) (flats_cons (.sc _) flats_nil) (.sc _) ?_
  simp -implicitDefEqProofs only [↓w_seq, ↓w_region, ↓ops_cons, ↓g_assign, ↓ops_nil, ev_const, of_str, ↓g_move, Nat.reduceLT, ev_tab, ne_eq, reduceCtorEq, not_false_eq_true, upd_ne, par0]
  refine call1 (by simp -implicitDefEqProofs only [List.map_cons, Nat.reduceLT, ev_tab, upd_eq, List.map_nil] <;> rfl) (digS z hz) ?_
  simp -implicitDefEqProofs only [↓ops_cons]
  refine call1 (by simp -implicitDefEqProofs only [List.map_cons, Nat.reduceLT, ev_tab, upd_eq, List.map_nil] <;> rfl) (hexS _ (by rw [dig_size]; decide)) ?_
  simp -implicitDefEqProofs only [↓ops_cons, ↓g_move, ↓g_extract, Nat.reduceLT, ev_tab, upd_eq, ext_0, ne_eq, Nat.reduceEqDiff, not_false_eq_true, upd_ne, ext_1, ↓g_assign, ↓ops_nil, ↓w_seq, ↓w_region, ↓w_ret, ret_one, onS_some]
end Go.Proofs.Ytlaejadiklaaeaa.Sim

