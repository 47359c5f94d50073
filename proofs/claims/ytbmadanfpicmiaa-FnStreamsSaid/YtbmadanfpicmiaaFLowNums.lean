/- The numbers of four bytes each, that a text holds. -/
import Derived.Test.YtbmadanfpicmiaaFLow
namespace Go.Proofs.Ytbmadanfpicmiaa.Sim
open Go
set_option maxRecDepth 100000
set_option maxHeartbeats 4000000
set_option linter.unusedSimpArgs false
set_option linter.unusedVariables false
def numL (z : ByteArray) (m : Nat) : List Int := (List.range m).map fun j => le4 z (4 * j)
theorem numL_len (z : ByteArray) (m : Nat) : (numL z m).length = m := by simp [numL]
theorem numL_s (z : ByteArray) (m : Nat) : numL z m ++ [le4 z (4 * m)] = numL z (m + 1) := by simp [numL, List.range_succ]
theorem lowNumsI (z : ByteArray) (m : Nat) (hm : z.size = 4 * m) (hz : z.size ≤ 1000000000) : FnL Try.prog 43 [.sc (.string z)] .i64 (numL z m) := by
  refine FnL.run 42 [.tmp 2] Try.func43 rfl rfl rfl rfl (by simp) (flats_cons (.sc _) flats_nil) ?_
  have k0 : ∀ j : Nat, (0 : Int) ≤ (j : Int) := fun j => by omega
  simp -implicitDefEqProofs only [↓w_seq, ↓w_region, ↓ops_cons, ↓g_assign, ↓ops_nil, ev_const, ↓g_buildSlice, Try.underlying26, List.map_nil, bs3_0, Nat.reduceLT, ev_tab, upd_eq, ↓w_block, of_int, alK_some, ints_one, List.length_nil, List.nil_append, true_and]
  refine w_loop (ι := Nat) (fun i s => ∃ (T : Nat → AV) (G : AHeap), s = ⟨tab 42 T, G ++ [⟨ints .i64 (numL z i), true, true⟩]⟩ ∧ i ≤ m ∧ T 0 = .sc (.string z) ∧ T 3 = .sl G.length 0 i 1 ∧ T 4 = .sc (.int .i64 ((4 * i : Nat) : Int))) (fun i => m - i) ?_ (i := 0) ?_
  · rintro i s ⟨T, G, rfl, a1, a2, a3, a4⟩
    have f4 : IntKind.i64.wrap (((4 * i : Nat) : Int) + 4) = ((4 * (i + 1) : Nat) : Int) := by rw [w64 (by omega) (by omega)]; omega
    have hl := numL_len z i
    by_cases h : i < m
    · have h0 := byte_range z (4 * i)
      have h1 := byte_range z (4 * i + 1)
      have h2 := byte_range z (4 * i + 2)
      have h3 := byte_range z (4 * i + 3)
      have k1 : ((4 * (i + 1) : Nat) : Int) ≤ z.size := by omega
      have e1 : IntKind.i64.wrap (((4 * i : Nat) : Int) + 1) = ((4 * i + 1 : Nat) : Int) := by rw [w64 (by omega) (by omega)]; omega
      have e2 : IntKind.i64.wrap (((4 * i : Nat) : Int) + 2) = ((4 * i + 2 : Nat) : Int) := by rw [w64 (by omega) (by omega)]; omega
      have e3 : IntKind.i64.wrap (((4 * i : Nat) : Int) + 3) = ((4 * i + 3 : Nat) : Int) := by rw [w64 (by omega) (by omega)]; omega
      have q0 : 4 * i < z.size := by omega
      have q1 : 4 * i + 1 < z.size := by omega
      have q2 : 4 * i + 2 < z.size := by omega
      have q3 : 4 * i + 3 < z.size := by omega
      have b0 : ∀ j, IntKind.i64.wrap (byteAt z j) = byteAt z j := fun j => by have := byte_range z j; exact w64 (by omega) (by omega)
      have c1 : ∀ j, IntKind.i64.wrap (byteAt z j * 256) = byteAt z j * 256 := fun j => by have := byte_range z j; exact w64 (by omega) (by omega)
      have c2 : ∀ j, IntKind.i64.wrap (byteAt z j * 65536) = byteAt z j * 65536 := fun j => by have := byte_range z j; exact w64 (by omega) (by omega)
      have c3 : ∀ j, IntKind.i64.wrap (byteAt z j * 16777216) = byteAt z j * 16777216 := fun j => by have := byte_range z j; exact w64 (by omega) (by omega)
      have o1 : bits .or .i64 (byteAt z (4 * i)) (byteAt z (4 * i + 1) * 256) = byteAt z (4 * i) + byteAt z (4 * i + 1) * 256 := or_add _ _ 8 (by omega) (by omega) (by omega) (by omega) (by decide)
      have o2 : bits .or .i64 (byteAt z (4 * i) + byteAt z (4 * i + 1) * 256) (byteAt z (4 * i + 2) * 65536) = byteAt z (4 * i) + byteAt z (4 * i + 1) * 256 + byteAt z (4 * i + 2) * 65536 := or_add _ _ 16 (by omega) (by omega) (by omega) (by omega) (by decide)
      have o3 : bits .or .i64 (byteAt z (4 * i) + byteAt z (4 * i + 1) * 256 + byteAt z (4 * i + 2) * 65536) (byteAt z (4 * i + 3) * 16777216) = le4 z (4 * i) := or_add _ _ 24 (by omega) (by omega) (by omega) (by omega) (by decide)
      simp -implicitDefEqProofs only [↓w_seq, ↓w_region, ↓ops_cons, ↓g_move, ↓g_binOp, Nat.reduceLT, ev_tab, a4, upd_eq, ev_const, of_int, b_add, f4, ↓g_len, Try.underlying9, ne_eq, reduceCtorEq, not_false_eq_true, upd_ne, a2, len_str, Nat.reduceEqDiff, ↓ops_nil, ↓w_cond, ↓w_skip, ↓w_block, ↓w_exit, ↓g_assign, ↓w_ret, a3, if_true, onS_some, b_leq, k1, decide_true, onB_true]
      refine drawn [] follows (by kernel_rfl) (by kernel_rfl) ?_
      simp -implicitDefEqProofs only [↓dops_cons, ↓g_move, ↓g_index, Try.underlying9, Nat.reduceLT, ev_tab, ne_eq, Nat.reduceEqDiff, not_false_eq_true, upd_ne, a3, reduceCtorEq, a2, a4, upd_eq, idx_str, k0, Int.toNat_natCast, q0, and_self, if_true, ↓g_convert, Try.underlying5, Try.underlying3, ↓g_binOp, ev_const, of_int, b_add, e1, e2, e3, ↓g_buildSlice, Try.underlying26, List.map_cons, List.map_nil, ↓g_append, apS26, ↓g_assign, ↓dops_0, ↓w_region, ↓ops_cons, f4, ↓ops_nil, onS_some, q3, c_int, b0, b_shl, Int.reduceLT, Int.reduceToNat, bits_i64, Nat.reduceLeDiff, Nat.min_eq_left, Int.reducePow, c3, if_false, q2, c2, q1, c1, b_or, o1, o2, o3, bs3_1, alK_some, ints_one, at_a, List.length_append, List.length_cons, List.length_nil, Nat.zero_add, src_sl, at_b, at_ints, Nat.le_refl, List.drop_zero, List.take_succ_cons, List.take_zero, ap_ints, hl, true_and, onS_ite]
      refine ⟨by omega, i + 1, by omega, _, _, st_end ?_, by omega, ?_, ?_, ?_⟩
      · rw [List.take_of_length_le (by omega), numL_s]
      · simp -implicitDefEqProofs only [ne_eq, reduceCtorEq, not_false_eq_true, upd_ne, a2]
      · simp -implicitDefEqProofs only [ne_eq, Nat.reduceEqDiff, not_false_eq_true, upd_ne, upd_eq, kill_len, List.length_append, List.length_cons, List.length_nil, Nat.zero_add]
        try (congr 1 <;> simp only [List.length_append, kill_len, List.length_cons, List.length_nil])
      · simp -implicitDefEqProofs only [upd_eq]
    · have hi : i = m := by omega
      have k1 : ¬ ((4 * (i + 1) : Nat) : Int) ≤ z.size := by omega
      subst hi
      simp -implicitDefEqProofs only [↓w_seq, ↓w_region, ↓ops_cons, ↓g_move, ↓g_binOp, Nat.reduceLT, ev_tab, a4, upd_eq, ev_const, of_int, b_add, f4, ↓g_len, Try.underlying9, ne_eq, reduceCtorEq, not_false_eq_true, upd_ne, a2, len_str, Nat.reduceEqDiff, ↓ops_nil, ↓w_cond, ↓w_skip, ↓w_block, ↓w_exit, ↓g_assign, ↓w_ret, a3, if_true, onS_some, b_leq, k1, decide_false, onB_false]
      refine retL_one (by decide) G.length ?_ (at_end _ _)
      simp -implicitDefEqProofs only [upd_eq, hl]
  · refine ⟨_, [], rfl, by omega, ?_, ?_, ?_⟩ <;> simp -implicitDefEqProofs only [ne_eq, reduceCtorEq, not_false_eq_true, upd_ne, par0, Nat.reduceEqDiff, upd_eq, List.length_nil, Nat.reduceMul, Int.cast_ofNat_Int] <;> rfl
end Go.Proofs.Ytbmadanfpicmiaa.Sim

