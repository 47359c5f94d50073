/- A number, hidden by a stream. -/
import Derived.Test.YtbmadanfpicmiaaFStream
namespace Go.Proofs.Ytbmadanfpicmiaa.Sim
open Go
set_option maxRecDepth 100000
set_option maxHeartbeats 4000000
set_option linter.unusedSimpArgs false
set_option linter.unusedVariables false
def hidT (h : ByteArray) (s : ByteArray) : ByteArray := strmT h (s.extract 4 16) (le4 s 0) 2
def hidV (h : ByteArray) (q : Int) (s : ByteArray) : AV := if h.size = 32 ∧ 16 ≤ s.size ∧ 0 ≤ q ∧ q ≤ 65535 then .tup [.sc (.int .i64 (bits .xor .i64 q (byteAt (hidT h s) 0 * 256 + byteAt (hidT h s) 1))), .sc (.bool true)] else .tup [.sc (.int .i64 0), .sc (.bool false)]
theorem hidV_flat (h : ByteArray) (q : Int) (s : ByteArray) : Flat (hidV h q s) := by
  unfold hidV
  split <;> exact .tup (flats_cons (.sc _) (flats_cons (.sc _) flats_nil))
theorem hidV_pair (h : ByteArray) (q : Int) (s : ByteArray) : ∃ (z : Int) (b : Bool), hidV h q s = .tup [.sc (.int .i64 z), .sc (.bool b)] := by
  unfold hidV
  split
  · exact ⟨_, _, rfl⟩
  · exact ⟨_, _, rfl⟩
theorem hid_size (h s : ByteArray) : (hidT h s).size = 2 := by
  rw [hidT, strmT, son_size, List.length_take, strmL_len]
  rfl
theorem hid_B {h s : ByteArray} (hh : h.size = 32) (hs : 16 ≤ s.size) : chaB h (s.extract 4 16) (le4 s 0) := by
  have := le4_range s 0
  refine ⟨hh, ?_, by omega, by omega⟩
  rw [ByteArray.size_extract]
  omega
theorem hid_strm {h s : ByteArray} (hh : h.size = 32) (hs : 16 ≤ s.size) : strmV h (s.extract 4 16) (le4 s 0) 2 = .tup [.sc (.string (hidT h s)), .sc (.bool true)] := by
  rw [strmV, if_pos ⟨hid_B hh hs, by decide, by decide⟩]
  rfl
theorem le4_ext (s : ByteArray) (hs : 16 ≤ s.size) : numL (s.extract 0 4) 1 = [le4 s 0] := by
  have e : ∀ j, j < 4 → byteAt (s.extract 0 4) j = byteAt s j := by
    intro j hj
    rw [byteAt_nums, byteAt_nums, nums_extract, List.drop_zero, List.getD_eq_getElem?_getD, List.getD_eq_getElem?_getD, List.getElem?_take, if_pos hj]
  show [le4 _ 0] = _
  congr 1
  unfold le4
  rw [e 0 (by decide), e 1 (by decide), e 2 (by decide), e 3 (by decide)]
theorem or_hi (u v : Int) (u0 : 0 ≤ u) (u1 : u < 256) (v0 : 0 ≤ v) (v1 : v < 256) : bits .or .i64 (u * 256) v = u * 256 + v := by
  obtain ⟨x, rfl⟩ := Int.eq_ofNat_of_zero_le u0
  obtain ⟨y, rfl⟩ := Int.eq_ofNat_of_zero_le v0
  have hxx : ((x : Int) * 256) = ((x * 256 : Nat) : Int) := by omega
  rw [hxx, (bits_nat .i64 63 (by decide) wraps_i64 (x * 256) y (by omega) (by omega)).2]
  have := Nat.two_pow_add_eq_or_of_lt (i := 8) (b := y) (by omega) x
  rw [Nat.mul_comm x 256]
  have h8 : (2 : Nat) ^ 8 = 256 := rfl
  rw [h8] at this
  rw [← this]
  omega
theorem hidS (h : ByteArray) (q : Int) (s : ByteArray) (hsz : s.size ≤ 1000000000) : Fn Try.prog 29 [.sc (.string h), .sc (.int .i64 q), .sc (.string s)] (hidV h q s) := by
  refine Fn.run 42 [.tmp 6, .tmp 7] Try.func29 rfl rfl rfl rfl (by simp) (flats_cons (.sc _) (flats_cons (.sc _) (flats_cons (.sc _) flats_nil))) (hidV_flat _ _ _) ?_
  by_cases hh : h.size = 32
  · by_cases hs : 16 ≤ s.size
    · have hs2 : ¬ (s.size : Int) < 16 := by omega
      simp -implicitDefEqProofs only [↓w_seq, ↓w_region, ↓ops_cons, ↓g_assign, ↓ops_nil, ev_const, of_int, of_bool, ↓g_move, ↓g_len, Try.underlying9, Nat.reduceLT, ev_tab, ne_eq, reduceCtorEq, not_false_eq_true, upd_ne, par0, upd_eq, len_str, hh, Int.cast_ofNat_Int, ↓g_binOp, onS_some, b_neq, decide_true, Bool.not_true, yielded_tab, dstAt_s, dstAt_0, ybv_some, boolOf_b, ↓g_guard_t, Nat.reduceEqDiff, par2, ↓g_pick, pick_b, if_false, b_lss, hs2, decide_false, par1]
      refine call1 (by simp -implicitDefEqProofs only [List.map_cons, Nat.reduceLT, ev_tab, upd_eq, ev_const, of_int, List.map_nil] <;> rfl) (inS q 0 65535) ?_
      by_cases hq : 0 ≤ q ∧ q ≤ 65535
      · rw [decide_eq_true (p := 0 ≤ q ∧ q ≤ 65535) hq, hidV, if_pos ⟨hh, hs, hq⟩]
        have b0 := byte_range (hidT h s) 0
        have b1 := byte_range (hidT h s) 1
        have e0 : IntKind.i64.wrap (byteAt (hidT h s) 0) = byteAt (hidT h s) 0 := w64 (by omega) (by omega)
        have e1 : IntKind.i64.wrap (byteAt (hidT h s) 1) = byteAt (hidT h s) 1 := w64 (by omega) (by omega)
        have e2 : IntKind.i64.wrap (byteAt (hidT h s) 0 * 256) = byteAt (hidT h s) 0 * 256 := w64 (by omega) (by omega)
        have e3 : IntKind.i64.wrap (byteAt (hidT h s) 0 * 256 + byteAt (hidT h s) 1) = byteAt (hidT h s) 0 * 256 + byteAt (hidT h s) 1 := w64 (by omega) (by omega)
        have hsm := strmS h (s.extract 4 16) (le4 s 0) 2
        rw [hid_strm hh hs] at hsm
        have hs16 : 4 ≤ 16 ∧ 16 ≤ s.size := ⟨by decide, hs⟩
        simp -implicitDefEqProofs only [↓ops_cons, yielded_tab, dstAt_s, dstAt_0, Nat.reduceLT, ybv_some, ne_eq, Nat.reduceEqDiff, not_false_eq_true, upd_ne, upd_eq, boolOf_b, ↓g_guard_t, ↓g_unOp, ev_tab, u_not, Bool.not_true, Option.map_some, ↓g_pick, ev_const, of_bool, pick_b, reduceCtorEq, if_false, ↓ops_nil, ↓w_cond, ↓w_seq, ↓w_region, ↓g_assign, ↓w_ret, of_int, ret_two, ↓w_skip, onS_some, onB_false]
        refine drawn [] follows (by kernel_rfl) (by kernel_rfl) ?_
        simp -implicitDefEqProofs only [↓dops_cons, ↓g_move, ↓g_slice, Try.underlying9, Nat.reduceLT, ev_tab, ne_eq, reduceCtorEq, not_false_eq_true, upd_ne, par0, Nat.reduceEqDiff, par2, upd_eq, Option.map_some, ev_const, of_int, cut_str, bnd_int, Int.reduceLE, Int.reduceToNat, if_true, cutS_some, Nat.reduceLeDiff, hs, and_self, onS_some]
        refine call1 (by simp -implicitDefEqProofs only [List.map_cons, Nat.reduceLT, ev_tab, upd_eq, ev_const, of_int, List.map_nil, Int.cast_ofNat_Int] <;> rfl) (fourS s 0 (by omega) hsz) ?_
        simp -implicitDefEqProofs only [↓dops_cons]
        refine call1 (by simp -implicitDefEqProofs only [List.map_cons, Nat.reduceLT, ev_tab, ne_eq, Nat.reduceEqDiff, not_false_eq_true, upd_ne, upd_eq, ev_const, of_int, List.map_nil] <;> rfl) hsm ?_
        simp -implicitDefEqProofs only [↓dops_cons, ↓g_move, ↓g_extract, Nat.reduceLT, ev_tab, upd_eq, ext_0, ne_eq, Nat.reduceEqDiff, not_false_eq_true, upd_ne, ext_1, ↓g_assign, ↓dops_0, ↓w_seq, onS_some]
        refine drawn [] follows (by kernel_rfl) (by kernel_rfl) ?_
        simp -implicitDefEqProofs only [↓dops_cons, ↓g_move, ↓g_index, Try.underlying9, Nat.reduceLT, ev_tab, ne_eq, Nat.reduceEqDiff, not_false_eq_true, upd_ne, par1, upd_eq, ev_const, of_int, idx_str, Int.reduceLE, Int.toNat_zero, hid_size, and_self, if_true, ↓g_convert, Try.underlying5, Try.underlying3, ↓g_binOp, Int.reduceToNat, ↓g_assign, ↓dops_0, ↓w_ret, of_bool, ret_two, onS_some, c_int, e1, e0, b_shl, Int.reduceLT, bits_i64, Nat.reduceLeDiff, Nat.min_eq_left, Int.reducePow, e2, if_false, b_add, e3, b_xor]
      · rw [decide_eq_false (p := 0 ≤ q ∧ q ≤ 65535) hq, hidV, if_neg (fun x => hq x.2.2)]
        simp -implicitDefEqProofs only [↓ops_cons, yielded_tab, dstAt_s, dstAt_0, Nat.reduceLT, ybv_some, ne_eq, Nat.reduceEqDiff, not_false_eq_true, upd_ne, upd_eq, boolOf_b, ↓g_guard_t, ↓g_unOp, ev_tab, u_not, Bool.not_false, Option.map_some, ↓g_pick, ev_const, of_bool, pick_b, reduceCtorEq, if_false, ↓ops_nil, ↓w_cond, ↓w_seq, ↓w_region, ↓g_assign, ↓w_ret, of_int, ret_two, ↓w_skip, onS_some, onB_true]
        try rfl
    · have hs2 : (s.size : Int) < 16 := by omega
      rw [hidV, if_neg (fun x => hs x.2.1)]
      simp -implicitDefEqProofs only [↓w_seq, ↓w_region, ↓ops_cons, ↓g_assign, ↓ops_nil, ev_const, of_int, of_bool, ↓g_move, ↓g_len, Try.underlying9, Nat.reduceLT, ev_tab, ne_eq, reduceCtorEq, not_false_eq_true, upd_ne, par0, upd_eq, len_str, hh, Int.cast_ofNat_Int, ↓g_binOp, onS_some, b_neq, decide_true, Bool.not_true, yielded_tab, dstAt_s, dstAt_0, ybv_some, boolOf_b, ↓g_guard_t, Nat.reduceEqDiff, par2, ↓g_pick, pick_b, if_false, b_lss, hs2, Bool.not_false, ↓g_guard_f, if_true, ↓w_cond, ↓w_ret, ret_two, ↓w_skip, onB_true]
      try rfl
  · have hh2 : ¬ (h.size : Int) = 32 := by omega
    rw [hidV, if_neg (fun x => hh x.1)]
    simp -implicitDefEqProofs only [↓w_seq, ↓w_region, ↓ops_cons, ↓g_assign, ↓ops_nil, ev_const, of_int, of_bool, ↓g_move, ↓g_len, Try.underlying9, Nat.reduceLT, ev_tab, ne_eq, reduceCtorEq, not_false_eq_true, upd_ne, par0, upd_eq, len_str, ↓g_binOp, onS_some, b_neq, hh2, decide_false, Bool.not_false, yielded_tab, dstAt_s, dstAt_0, ybv_some, boolOf_b, ↓g_guard_f, Nat.reduceEqDiff, ↓g_pick, pick_b, if_true, ↓w_cond, ↓w_ret, ret_two, ↓w_skip, onB_true]
    try rfl
theorem hidI (h : ByteArray) (q : Int) (s : ByteArray) (hsz : s.size ≤ 1000000000) : Fn Try.prog 30 [.sc (.string h), .sc (.int .i64 q), .sc (.string s)] (hidV h q s) := by
  refine Fn.run 49 [.tmp 6, .tmp 7] Try.func30 rfl rfl rfl rfl (by simp) (flats_cons (.sc _) (flats_cons (.sc _) (flats_cons (.sc _) flats_nil))) (hidV_flat _ _ _) ?_
  by_cases hh : h.size = 32
  · by_cases hs : 16 ≤ s.size
    · have hs2 : ¬ (s.size : Int) < 16 := by omega
      simp -implicitDefEqProofs only [↓w_seq, ↓w_region, ↓ops_cons, ↓g_assign, ↓ops_nil, ev_const, of_int, of_bool, ↓g_move, ↓g_len, Try.underlying9, Nat.reduceLT, ev_tab, ne_eq, reduceCtorEq, not_false_eq_true, upd_ne, par0, upd_eq, len_str, hh, Int.cast_ofNat_Int, ↓g_binOp, onS_some, b_neq, decide_true, Bool.not_true, yielded_tab, dstAt_s, dstAt_0, ybv_some, boolOf_b, ↓g_guard_t, Nat.reduceEqDiff, par2, ↓g_pick, pick_b, if_false, b_lss, hs2, decide_false, par1]
      refine call1 (by simp -implicitDefEqProofs only [List.map_cons, Nat.reduceLT, ev_tab, upd_eq, ev_const, of_int, List.map_nil] <;> rfl) (inI q 0 65535) ?_
      by_cases hq : 0 ≤ q ∧ q ≤ 65535
      · rw [decide_eq_true (p := 0 ≤ q ∧ q ≤ 65535) hq, hidV, if_pos ⟨hh, hs, hq⟩]
        have b0 := byte_range (hidT h s) 0
        have b1 := byte_range (hidT h s) 1
        have e0 : IntKind.i64.wrap (byteAt (hidT h s) 0) = byteAt (hidT h s) 0 := w64 (by omega) (by omega)
        have e1 : IntKind.i64.wrap (byteAt (hidT h s) 1) = byteAt (hidT h s) 1 := w64 (by omega) (by omega)
        have e2 : IntKind.i64.wrap (byteAt (hidT h s) 0 * 256) = byteAt (hidT h s) 0 * 256 := w64 (by omega) (by omega)
        have e3 := or_hi _ _ b0.1 b0.2 b1.1 b1.2
        have hsm := strmI h (s.extract 4 16) (le4 s 0) 2
        rw [hid_strm hh hs] at hsm
        have k4 : 4 ≤ s.size := by omega
        have hx4 : (s.extract 0 4).size = 4 := by rw [ByteArray.size_extract]; omega
        simp -implicitDefEqProofs only [↓ops_cons, yielded_tab, dstAt_s, dstAt_0, Nat.reduceLT, ybv_some, ne_eq, Nat.reduceEqDiff, not_false_eq_true, upd_ne, upd_eq, boolOf_b, ↓g_guard_t, ↓g_unOp, ev_tab, u_not, Bool.not_true, Option.map_some, ↓g_pick, ev_const, of_bool, pick_b, reduceCtorEq, if_false, ↓ops_nil, ↓w_cond, ↓w_seq, ↓w_region, ↓g_assign, ↓w_ret, of_int, ret_two, ↓w_skip, ↓g_move, ↓g_slice, Try.underlying9, par2, Option.map_none, cut_str, bnd_none, bnd_int, Int.reduceLE, Int.reduceToNat, if_true, cutS_some, Nat.zero_le, k4, and_self, onS_some, onB_false]
        refine call1L (by simp -implicitDefEqProofs only [List.map_cons, Nat.reduceLT, ev_tab, upd_eq, List.map_nil] <;> rfl) (lowNumsI (s.extract 0 4) 1 (by omega) (by omega)) ?_
        rw [le4_ext s hs]
        simp -implicitDefEqProofs only [↓ops_cons, ↓g_indexAddr, Try.underlying26, List.length_nil, List.length_cons, Nat.zero_add, Nat.reduceLT, ev_tab, upd_eq, ev_const, of_int, adr_sl, Int.reduceLE, Int.cast_ofNat_Int, Int.reduceLT, cells3, tyOk3, and_self, Int.toNat_zero, Nat.mul_one, if_true, ↓g_load, List.nil_append, ↓g_assign, ↓ops_nil, ↓w_seq, ↓w_region, ↓g_move, ↓g_slice, Try.underlying9, ne_eq, reduceCtorEq, not_false_eq_true, upd_ne, par0, Nat.reduceEqDiff, par2, Option.map_some, cut_str, bnd_int, Int.reduceToNat, cutS_some, Nat.reduceLeDiff, hs, onS_some, rd_def, agg3, List.getElem?_cons_zero, rd_ints, List.getD_cons_zero]
        refine call1 (by simp -implicitDefEqProofs only [List.map_cons, Nat.reduceLT, ev_tab, ne_eq, Nat.reduceEqDiff, not_false_eq_true, upd_ne, upd_eq, ev_const, of_int, List.map_nil] <;> rfl) hsm ?_
        simp -implicitDefEqProofs only [↓ops_cons, ↓g_move, ↓g_extract, Nat.reduceLT, ev_tab, upd_eq, ext_0, ne_eq, Nat.reduceEqDiff, not_false_eq_true, upd_ne, ext_1, ↓g_assign, ↓ops_nil, ↓w_seq, ↓w_region, ↓g_unOp, ↓w_cond, ↓w_ret, ev_const, of_int, of_bool, ret_two, ↓w_skip, onS_some, u_not, Bool.not_true, Option.map_some, onB_false]
        refine drawn [] follows (by kernel_rfl) (by kernel_rfl) ?_
        simp -implicitDefEqProofs only [↓dops_cons, ↓g_move, ↓g_index, Try.underlying9, Nat.reduceLT, ev_tab, ne_eq, Nat.reduceEqDiff, not_false_eq_true, upd_ne, par1, upd_eq, ev_const, of_int, idx_str, Int.reduceLE, Int.toNat_zero, hid_size, and_self, if_true, ↓g_convert, Try.underlying5, Try.underlying3, ↓g_binOp, Int.reduceToNat, ↓g_assign, ↓dops_0, ↓w_ret, of_bool, ret_two, onS_some, c_int, e1, e0, b_shl, Int.reduceLT, bits_i64, Nat.reduceLeDiff, Nat.min_eq_left, Int.reducePow, e2, if_false, b_or, e3, b_xor]
      · rw [decide_eq_false (p := 0 ≤ q ∧ q ≤ 65535) hq, hidV, if_neg (fun x => hq x.2.2)]
        simp -implicitDefEqProofs only [↓ops_cons, yielded_tab, dstAt_s, dstAt_0, Nat.reduceLT, ybv_some, ne_eq, Nat.reduceEqDiff, not_false_eq_true, upd_ne, upd_eq, boolOf_b, ↓g_guard_t, ↓g_unOp, ev_tab, u_not, Bool.not_false, Option.map_some, ↓g_pick, ev_const, of_bool, pick_b, reduceCtorEq, if_false, ↓ops_nil, ↓w_cond, ↓w_seq, ↓w_region, ↓g_assign, ↓w_ret, of_int, ret_two, ↓w_skip, ↓g_move, ↓g_slice, Try.underlying9, par2, Option.map_none, cut_str, bnd_none, bnd_int, Int.reduceLE, Int.reduceToNat, if_true, cutS_some, Nat.reduceLeDiff, true_and, onS_ite, onS_some, onB_true]
        try rfl
    · have hs2 : (s.size : Int) < 16 := by omega
      rw [hidV, if_neg (fun x => hs x.2.1)]
      simp -implicitDefEqProofs only [↓w_seq, ↓w_region, ↓ops_cons, ↓g_assign, ↓ops_nil, ev_const, of_int, of_bool, ↓g_move, ↓g_len, Try.underlying9, Nat.reduceLT, ev_tab, ne_eq, reduceCtorEq, not_false_eq_true, upd_ne, par0, upd_eq, len_str, hh, Int.cast_ofNat_Int, ↓g_binOp, onS_some, b_neq, decide_true, Bool.not_true, yielded_tab, dstAt_s, dstAt_0, ybv_some, boolOf_b, ↓g_guard_t, Nat.reduceEqDiff, par2, ↓g_pick, pick_b, if_false, b_lss, hs2, Bool.not_false, ↓g_guard_f, if_true, ↓w_cond, ↓w_ret, ret_two, ↓w_skip, ↓g_slice, Option.map_none, Option.map_some, cut_str, bnd_none, bnd_int, Int.reduceLE, Int.reduceToNat, cutS_some, Nat.reduceLeDiff, true_and, onS_ite, onB_true]
      try rfl
  · have hh2 : ¬ (h.size : Int) = 32 := by omega
    rw [hidV, if_neg (fun x => hh x.1)]
    simp -implicitDefEqProofs only [↓w_seq, ↓w_region, ↓ops_cons, ↓g_assign, ↓ops_nil, ev_const, of_int, of_bool, ↓g_move, ↓g_len, Try.underlying9, Nat.reduceLT, ev_tab, ne_eq, reduceCtorEq, not_false_eq_true, upd_ne, par0, upd_eq, len_str, ↓g_binOp, onS_some, b_neq, hh2, decide_false, Bool.not_false, yielded_tab, dstAt_s, dstAt_0, ybv_some, boolOf_b, ↓g_guard_f, Nat.reduceEqDiff, ↓g_pick, pick_b, if_true, ↓w_cond, ↓w_ret, ret_two, ↓w_skip, ↓g_slice, par2, Option.map_none, Option.map_some, cut_str, bnd_none, bnd_int, Int.reduceLE, Int.reduceToNat, cutS_some, Nat.reduceLeDiff, true_and, onS_ite, onB_true]
    try rfl
end Go.Proofs.Ytbmadanfpicmiaa.Sim

