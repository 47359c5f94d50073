/- Numbers in bytes of seven bits. -/
import Derived.Test.YtheeehbaholjmaaFIn
namespace Go.Proofs.Ytheeehbaholjmaa.Sim
open Go
set_option maxRecDepth 100000
set_option maxHeartbeats 4000000
set_option linter.unusedSimpArgs false
set_option linter.unusedVariables false
def varN (n : Nat) : List Int := if 127 < n then ((n % 128 + 128 : Nat) : Int) :: varN (n / 128) else [(n : Int)]
termination_by n
decreasing_by omega
theorem varN_big {n : Nat} (h : 127 < n) : varN n = ((n % 128 + 128 : Nat) : Int) :: varN (n / 128) := by rw [varN, if_pos h]
theorem varN_small {n : Nat} (h : ¬ 127 < n) : varN n = [(n : Int)] := by rw [varN, if_neg h]
theorem varN_len (k : Nat) : ∀ n, n < 128 ^ (k + 1) → (varN n).length ≤ k + 1 := by
  induction k with
  | zero =>
    intro n h
    rw [varN_small (by omega)]
    simp
  | succ k ih =>
    intro n h
    by_cases hb : 127 < n
    · rw [varN_big hb]
      have : n / 128 < 128 ^ (k + 1) := by
        rw [Nat.div_lt_iff_lt_mul (by decide)]
        rw [Nat.pow_succ] at h
        exact h
      have := ih _ this
      simp only [List.length_cons]
      omega
    · rw [varN_small hb]
      simp
theorem varN_5 (n : Nat) (h : n ≤ 1000000000) : (varN n).length ≤ 5 := varN_len 4 n (by omega)
def varT (n : Nat) : ByteArray := strOfNums (varN n)
theorem at_kill2 (G : AHeap) (X Y g : Reg) : (killReg ((G ++ [X]) ++ [Y]) G.length ++ [g])[G.length + 1 + 1]? = some g := by
  have := at_end (killReg ((G ++ [X]) ++ [Y]) G.length) g
  rwa [kill_len, List.length_append, List.length_append] at this
theorem varS (n : Nat) (hn : n ≤ 1000000000) : Fn Try.prog 45 [.sc (.int .i64 n)] (.sc (.string (varT n))) := by
  refine Fn.run 22 [.tmp 2] Try.func45 rfl rfl rfl rfl (by simp) (flats_cons (.sc _) flats_nil) (.sc _) ?_
  simp -implicitDefEqProofs only [↓w_seq, ↓w_region, ↓ops_cons, ↓g_assign, ↓ops_nil, ev_const, of_str, ↓g_buildSlice, Try.underlying45, List.map_nil, bs5_0, ↓w_block, Nat.reduceLT, ev_tab, upd_eq, alK_some, ints_one, List.length_nil, List.nil_append, true_and]
  refine w_loop (ι := Nat) (fun c s => ∃ (T : Nat → AV) (G : AHeap) (A : List Int), s = ⟨tab 22 T, G ++ [⟨ints .u8 A, true, true⟩]⟩ ∧ c ≤ 1000000000 ∧ A.length ≤ 1000000000 - c ∧ A ++ varN c = varN n ∧ T 0 = .sc (.int .i64 c) ∧ T 3 = .sl G.length 0 A.length 1) (fun c => c) ?_ (i := n) ?_
  · rintro c s ⟨T, G, A, rfl, a0, a1, a2, a3, a4⟩
    have htk : A.take A.length = A := List.take_length
    by_cases h : 127 < c
    · have k1 : (127 : Int) < c := by omega
      have e1 : ((c : Int)).tmod 128 = ((c % 128 : Nat) : Int) := by rw [Int.tmod_eq_emod_of_nonneg (by omega)]; omega
      have e2 : IntKind.i64.wrap (((c % 128 : Nat) : Int) + 128) = ((c % 128 + 128 : Nat) : Int) := by rw [w64 (by omega) (by omega)]; omega
      have e3 : IntKind.u8.wrap ((c % 128 + 128 : Nat) : Int) = ((c % 128 + 128 : Nat) : Int) := u8_id (by omega) (by omega)
      have e4 : IntKind.i64.wrap (((c : Int)).tdiv 128) = ((c / 128 : Nat) : Int) := by rw [Int.tdiv_eq_ediv_of_nonneg (by omega), w64 (by omega) (by omega)]; omega
      rw [varN_big h] at a2
      simp -implicitDefEqProofs only [↓w_seq, ↓w_region, ↓ops_cons, ↓g_move, ↓g_binOp, Nat.reduceLT, ev_tab, a3, upd_eq, ev_const, of_int, b_gtr, k1, decide_true, ↓ops_nil, ↓w_cond, ↓w_skip, ↓w_block, ne_eq, Nat.reduceEqDiff, not_false_eq_true, upd_ne, a4, reduceCtorEq, b_rem, Int.reduceEq, e1, if_false, ↓g_convert, Try.underlying3, Try.underlying5, ↓g_buildSlice, Try.underlying45, List.map_cons, List.map_nil, ↓g_append, apS45, ↓g_assign, b_quo, e4, onS_some, b_add, e2, c_int, e3, bs5_1, alK_some, ints_one, at_a, List.length_append, List.length_cons, List.length_nil, Nat.zero_add, src_sl, at_b, at_ints, Nat.le_refl, List.drop_zero, List.take_succ_cons, List.take_zero, if_true, ap_ints, Nat.mul_one, Nat.reduceLeDiff, and_self, true_and, List.take_length, onS_ite, ↓w_exit, Try.underlying9, ↓w_ret, ret_one, c_text, isU5, at_def, onB_true]
      refine ⟨by omega, c / 128, by omega, _, _, A ++ [((c % 128 + 128 : Nat) : Int)], rfl, by omega, by simp; omega, by rw [List.append_assoc]; exact a2, ?_, ?_⟩
      · simp -implicitDefEqProofs only [upd_eq]
      · simp -implicitDefEqProofs only [ne_eq, reduceCtorEq, not_false_eq_true, upd_ne, Nat.reduceEqDiff, upd_eq, kill_len, List.length_append, List.length_cons, List.length_nil, Nat.zero_add]
        try simp only [kill_len, List.length_append, List.length_cons, List.length_nil]
        try rfl
    · have k1 : ¬ (127 : Int) < c := by omega
      have e3 : IntKind.u8.wrap (c : Int) = c := u8_id (by omega) (by omega)
      rw [varN_small h] at a2
      have hA : A.length + 1 = (varN n).length := by rw [← a2]; simp
      have h5 := varN_5 n hn
      have htk2 : (A ++ [(c : Int)]).take (A.length + 1) = A ++ [(c : Int)] := List.take_of_length_le (by simp)
      simp -implicitDefEqProofs only [↓w_seq, ↓w_region, ↓ops_cons, ↓g_move, ↓g_binOp, Nat.reduceLT, ev_tab, a3, upd_eq, ev_const, of_int, b_gtr, k1, decide_false, ↓ops_nil, ↓w_cond, ↓w_skip, ↓w_block, ne_eq, Nat.reduceEqDiff, not_false_eq_true, upd_ne, a4, reduceCtorEq, b_rem, Int.reduceEq, if_false, ↓g_convert, Try.underlying3, Try.underlying5, ↓g_buildSlice, Try.underlying45, List.map_cons, List.map_nil, ↓g_append, apS45, ↓g_assign, b_quo, onS_some, b_add, c_int, bs5_1, alK_some, ints_one, at_a, List.length_append, List.length_cons, List.length_nil, Nat.zero_add, src_sl, at_b, at_ints, Nat.le_refl, List.drop_zero, List.take_succ_cons, List.take_zero, if_true, ap_ints, Nat.mul_one, Nat.reduceLeDiff, and_self, true_and, List.take_length, onS_ite, ↓w_exit, Try.underlying9, ↓w_ret, ret_one, e3, c_text, isU5, at_def, at_kill2, htk2, Option.bind_some, bytesA_ints, Option.map_some, onB_false]
      refine ⟨by omega, ?_⟩
      rw [a2]
      rfl
  · refine ⟨_, [], [], rfl, hn, by simp, rfl, ?_, ?_⟩ <;> simp -implicitDefEqProofs only [ne_eq, reduceCtorEq, not_false_eq_true, upd_ne, par0, upd_eq, List.length_nil] <;> rfl
theorem varI (n : Nat) (hn : n ≤ 1000000000) : Fn Try.prog 46 [.sc (.int .i64 n)] (.tup [.sc (.string (varT n)), .sc (.bool true)]) := by
  refine Fn.run 26 [.tmp 2, .tmp 3] Try.func46 rfl rfl rfl rfl (by simp) (flats_cons (.sc _) flats_nil) (.tup (flats_cons (.sc _) (flats_cons (.sc _) flats_nil))) ?_
  simp -implicitDefEqProofs only [↓w_seq, ↓w_region, ↓ops_cons, ↓g_assign, ↓ops_nil, ev_const, of_str, of_bool, ↓g_move, Nat.reduceLT, ev_tab, ne_eq, reduceCtorEq, not_false_eq_true, upd_ne, par0]
  refine call1 (by simp -implicitDefEqProofs only [List.map_cons, Nat.reduceLT, ev_tab, upd_eq, ev_const, of_int, List.map_nil] <;> rfl) (inI _ 0 1000000000) ?_
  rw [decide_eq_true (p := 0 ≤ (n : Int) ∧ (n : Int) ≤ 1000000000) (by omega)]
  simp -implicitDefEqProofs only [↓ops_cons, ↓g_unOp, Nat.reduceLT, ev_tab, upd_eq, u_not, Bool.not_true, Option.map_some, ↓ops_nil, ↓w_cond, ↓w_seq, ↓w_region, ↓g_assign, ↓w_ret, ev_const, of_str, of_bool, ret_two, ne_eq, Nat.reduceEqDiff, not_false_eq_true, upd_ne, ↓w_skip, ↓g_buildSlice, Try.underlying45, List.map_nil, bs5_0, ↓w_block, alK_some, ints_one, List.length_nil, List.nil_append, true_and, onS_some, onB_false]
  refine w_loop (ι := Nat) (fun c s => ∃ (T : Nat → AV) (G : AHeap) (A : List Int), s = ⟨tab 26 T, G ++ [⟨ints .u8 A, true, true⟩]⟩ ∧ c ≤ 1000000000 ∧ A.length ≤ 1000000000 - c ∧ A ++ varN c = varN n ∧ T 0 = .sc (.int .i64 c) ∧ T 4 = .sl G.length 0 A.length 1) (fun c => c) ?_ (i := n) ?_
  · rintro c s ⟨T, G, A, rfl, a0, a1, a2, a3, a4⟩
    have htk : A.take A.length = A := List.take_length
    by_cases h : 127 < c
    · have k1 : (127 : Int) < c := by omega
      have e1 : ((c : Int)).tmod 128 = ((c % 128 : Nat) : Int) := by rw [Int.tmod_eq_emod_of_nonneg (by omega)]; omega
      have e2 : IntKind.i64.wrap (((c % 128 : Nat) : Int) + 128) = ((c % 128 + 128 : Nat) : Int) := by rw [w64 (by omega) (by omega)]; omega
      have e3 : IntKind.u8.wrap ((c % 128 + 128 : Nat) : Int) = ((c % 128 + 128 : Nat) : Int) := u8_id (by omega) (by omega)
      have e4 : IntKind.i64.wrap (((c : Int)).tdiv 128) = ((c / 128 : Nat) : Int) := by rw [Int.tdiv_eq_ediv_of_nonneg (by omega), w64 (by omega) (by omega)]; omega
      rw [varN_big h] at a2
      simp -implicitDefEqProofs only [↓w_seq, ↓w_region, ↓ops_cons, ↓g_move, ↓g_binOp, Nat.reduceLT, ev_tab, a3, upd_eq, ev_const, of_int, b_gtr, k1, decide_true, ↓ops_nil, ↓w_cond, ↓w_skip, ↓w_block, ne_eq, Nat.reduceEqDiff, not_false_eq_true, upd_ne, a4, reduceCtorEq, b_rem, Int.reduceEq, e1, if_false, ↓g_convert, Try.underlying3, Try.underlying5, ↓g_buildSlice, Try.underlying45, List.map_cons, List.map_nil, ↓g_append, apS45, ↓g_assign, b_quo, e4, onS_some, b_add, e2, c_int, e3, bs5_1, alK_some, ints_one, at_a, List.length_append, List.length_cons, List.length_nil, Nat.zero_add, src_sl, at_b, at_ints, Nat.le_refl, List.drop_zero, List.take_succ_cons, List.take_zero, if_true, ap_ints, Nat.mul_one, Nat.reduceLeDiff, and_self, true_and, List.take_length, onS_ite, ↓w_exit, Try.underlying9, ↓w_ret, of_bool, ret_two, c_text, isU5, at_def, onB_true]
      refine ⟨by omega, c / 128, by omega, _, _, A ++ [((c % 128 + 128 : Nat) : Int)], rfl, by omega, by simp; omega, by rw [List.append_assoc]; exact a2, ?_, ?_⟩
      · simp -implicitDefEqProofs only [upd_eq]
      · simp -implicitDefEqProofs only [ne_eq, reduceCtorEq, not_false_eq_true, upd_ne, Nat.reduceEqDiff, upd_eq, kill_len, List.length_append, List.length_cons, List.length_nil, Nat.zero_add]
        try simp only [kill_len, List.length_append, List.length_cons, List.length_nil]
        try rfl
    · have k1 : ¬ (127 : Int) < c := by omega
      have e3 : IntKind.u8.wrap (c : Int) = c := u8_id (by omega) (by omega)
      rw [varN_small h] at a2
      have hA : A.length + 1 = (varN n).length := by rw [← a2]; simp
      have h5 := varN_5 n hn
      have htk2 : (A ++ [(c : Int)]).take (A.length + 1) = A ++ [(c : Int)] := List.take_of_length_le (by simp)
      simp -implicitDefEqProofs only [↓w_seq, ↓w_region, ↓ops_cons, ↓g_move, ↓g_binOp, Nat.reduceLT, ev_tab, a3, upd_eq, ev_const, of_int, b_gtr, k1, decide_false, ↓ops_nil, ↓w_cond, ↓w_skip, ↓w_block, ne_eq, Nat.reduceEqDiff, not_false_eq_true, upd_ne, a4, reduceCtorEq, b_rem, Int.reduceEq, if_false, ↓g_convert, Try.underlying3, Try.underlying5, ↓g_buildSlice, Try.underlying45, List.map_cons, List.map_nil, ↓g_append, apS45, ↓g_assign, b_quo, onS_some, b_add, c_int, bs5_1, alK_some, ints_one, at_a, List.length_append, List.length_cons, List.length_nil, Nat.zero_add, src_sl, at_b, at_ints, Nat.le_refl, List.drop_zero, List.take_succ_cons, List.take_zero, if_true, ap_ints, Nat.mul_one, Nat.reduceLeDiff, and_self, true_and, List.take_length, onS_ite, ↓w_exit, Try.underlying9, ↓w_ret, of_bool, ret_two, e3, c_text, isU5, at_def, at_kill2, htk2, Option.bind_some, bytesA_ints, Option.map_some, onB_false]
      refine ⟨by omega, ?_⟩
      rw [a2]
      rfl
  · refine ⟨_, [], [], rfl, hn, by simp, rfl, ?_, ?_⟩ <;> simp -implicitDefEqProofs only [ne_eq, reduceCtorEq, not_false_eq_true, upd_ne, par0, upd_eq, List.length_nil] <;> rfl
end Go.Proofs.Ytheeehbaholjmaa.Sim

