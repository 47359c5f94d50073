/- What a tag is taken of: as the program makes it and as the reference does. -/
import Derived.Test.YtngnklpoheejjaaFLow
import Derived.Test.YtngnklpoheejjaaFRep
import Derived.Test.YtngnklpoheejjaaFLong
import Derived.Test.YtngnklpoheejjaaFHap
namespace Go.Proofs.Ytngnklpoheejjaa.Sim
open Go
set_option maxRecDepth 100000
set_option maxHeartbeats 4000000
set_option linter.unusedSimpArgs false
set_option linter.unusedVariables false
def fillN (n : Nat) : Nat := (16 - n % 16) % 16
def fillT (z : ByteArray) : ByteArray := z ++ strOfNums (List.replicate (fillN z.size) 0)
theorem fill_e (n : Nat) (h : n ≤ 1000000000) : ((n : Int)).tmod 16 = ((n % 16 : Nat) : Int) ∧ IntKind.i64.wrap (16 - ((n % 16 : Nat) : Int)) = ((16 - n % 16 : Nat) : Int) ∧ (((16 - n % 16 : Nat) : Int)).tmod 16 = ((fillN n : Nat) : Int) := by
  refine ⟨?_, ?_, ?_⟩
  · rw [Int.tmod_eq_emod_of_nonneg (by omega)]; omega
  · rw [w64 (by omega) (by omega)]; omega
  · rw [Int.tmod_eq_emod_of_nonneg (by omega)]
    unfold fillN
    omega
theorem fill_lt (n : Nat) : fillN n < 16 := Nat.mod_lt _ (by decide)
theorem fillT_size (z : ByteArray) : (fillT z).size ≤ z.size + 16 := by
  have := fill_lt z.size
  rw [fillT, ByteArray.size_append, son_size, List.length_replicate]
  omega
theorem fillI (z : ByteArray) (hz : z.size ≤ 100000000) : Fn Try.prog 13 [.sc (.string z)] (.sc (.string (fillT z))) := by
  refine Fn.run 11 [.tmp 2] Try.func13 rfl rfl rfl rfl (by simp) (flats_cons (.sc _) flats_nil) (.sc _) ?_
  obtain ⟨e1, e2, e3⟩ := fill_e z.size (by omega)
  have hl := fill_lt z.size
  simp -implicitDefEqProofs only [↓w_seq, ↓w_region, ↓ops_cons, ↓g_assign, ↓ops_nil, ev_const, of_str, ↓g_move, ↓g_len, Try.underlying9, Nat.reduceLT, ev_tab, ne_eq, reduceCtorEq, not_false_eq_true, upd_ne, par0, upd_eq, len_str, ↓g_binOp, of_int, onS_some, b_rem, Int.reduceEq, e1, if_false, b_sub, e2, e3]
  refine call1 (by simp -implicitDefEqProofs only [List.map_cons, ev_const, of_str, Nat.reduceLT, ev_tab, upd_eq, List.map_nil] <;> rfl) (repeatC ⟨#[0]⟩ 0 rfl (fillN z.size) (by omega)) ?_
  simp -implicitDefEqProofs only [↓ops_cons, ↓g_binOp, Nat.reduceLT, ev_tab, ne_eq, Nat.reduceEqDiff, not_false_eq_true, upd_ne, upd_eq, t_add, son_size, List.length_replicate, ↓g_assign, ↓ops_nil, ↓w_ret, ret_one, onS_ite]
  exact ⟨by omega, rfl⟩
theorem fillS (z : ByteArray) (hz : z.size ≤ 100000000) : Fn Try.prog 11 [.sc (.string z)] (.sc (.string (fillT z))) := by
  refine Fn.run 11 [.tmp 2] Try.func11 rfl rfl rfl rfl (by simp) (flats_cons (.sc _) flats_nil) (.sc _) ?_
  obtain ⟨e1, e2, e3⟩ := fill_e z.size (by omega)
  have hl := fill_lt z.size
  simp -implicitDefEqProofs only [↓w_seq, ↓w_region, ↓ops_cons, ↓g_assign, ↓ops_nil, ev_const, of_str, ↓g_move, ↓g_len, Try.underlying9, Nat.reduceLT, ev_tab, ne_eq, reduceCtorEq, not_false_eq_true, upd_ne, par0, upd_eq, len_str, ↓g_binOp, of_int, onS_some, b_rem, Int.reduceEq, e1, if_false, b_sub, e2, e3]
  refine call1 (by simp -implicitDefEqProofs only [List.map_cons, Nat.reduceLT, ev_tab, upd_eq, ev_const, of_int, List.map_nil] <;> rfl) (longS (fillN z.size) 0 (by omega)) ?_
  simp -implicitDefEqProofs only [↓ops_cons, ↓g_binOp, Nat.reduceLT, ev_tab, ne_eq, Nat.reduceEqDiff, not_false_eq_true, upd_ne, upd_eq, t_add, son_size, List.length_replicate, ↓g_assign, ↓ops_nil, ↓w_ret, ret_one, onS_ite]
  exact ⟨by omega, rfl⟩
theorem eightS (x : Int) (h0 : 0 ≤ x) (h1 : x < 9223372036854775808) : Fn Try.prog 12 [.sc (.int .i64 x)] (.sc (.string (strOfNums (loL x 8)))) := by
  refine Fn.run 21 [.tmp 2] Try.func12 rfl rfl rfl rfl (by simp) (flats_cons (.sc _) flats_nil) (.sc _) ?_
  simp -implicitDefEqProofs only [↓w_seq, ↓w_region, ↓ops_cons, ↓g_assign, ↓ops_nil, ev_const, of_str, ↓g_buildSlice, Try.underlying31, List.map_nil, bs5_0, Nat.reduceLT, ev_tab, upd_eq, ↓w_block, of_int, alK_some, ints_one, List.length_nil, List.nil_append, true_and]
  refine w_loop (ι := Nat) (fun i s => ∃ (T : Nat → AV) (Z : AHeap) (q : Nat), s = ⟨tab 21 T, Z⟩ ∧ i ≤ 8 ∧ Z[q]? = some ⟨ints .u8 (loL x i), true, true⟩ ∧ T 0 = .sc (.int .i64 x) ∧ T 3 = .sl q 0 i 1 ∧ T 4 = .sc (.int .i64 i)) (fun i => 8 - i) ?_ (i := 0) ?_
  · rintro i s ⟨T, Z, q, rfl, a1, a2, a3, a4, a5⟩
    by_cases h : i < 8
    · have k1 : (i : Int) < 8 := by omega
      have e1 : IntKind.i64.wrap ((i : Int) + 1) = i + 1 := w64 (by omega) (by omega)
      have e2 : IntKind.i64.wrap (8 * (i : Int)) = ((8 * i : Nat) : Int) := by rw [w64 (by omega) (by omega)]; omega
      have ql := at_lt a2
      have hq2 : ∀ g : Reg, (Z ++ [g])[q]? = some ⟨ints .u8 (loL x i), true, true⟩ := fun g => (at_more _ _ _ ql).trans a2
      have b1 : (i + 1) * 1 ≤ 140737488355328 := by omega
      have b2 : i + 1 ≤ 140737488355328 := by omega
      have b3 : i ≤ (loL x i).length := by rw [loL_len]; exact Nat.le_refl _
      have b4 : (loL x i).take i = loL x i := List.take_of_length_le (by rw [loL_len]; exact Nat.le_refl _)
      have e3 : IntKind.u64.wrap ((8 * i : Nat) : Int) = ((8 * i : Nat) : Int) := wu64 (by omega) (by omega)
      have e4 : ¬ ((8 * i : Nat) : Int) < 0 := by omega
      have e5 : min (8 * i) 64 = 8 * i := by omega
      have e6 : x / 2 ^ (8 * i) = x / 256 ^ i := by
        rw [Int.pow_mul]
        rfl
      have e7 : IntKind.u8.wrap (x / 256 ^ i) = x / 256 ^ i % 256 := by rw [IntKind.wrap_u8]
      simp -implicitDefEqProofs only [↓w_seq, ↓w_region, ↓ops_cons, ↓g_move, ↓g_binOp, Nat.reduceLT, ev_tab, a5, upd_eq, ev_const, of_int, b_lss, k1, decide_true, ↓ops_nil, ↓w_cond, ↓w_skip, ↓w_block, ne_eq, Nat.reduceEqDiff, not_false_eq_true, upd_ne, a4, reduceCtorEq, a3, b_mul, e2, ↓g_convert, Try.underlying3, Try.underlying32, Try.underlying5, ↓g_buildSlice, Try.underlying31, List.map_cons, List.map_nil, ↓g_append, apS31, ↓g_assign, b_add, e1, onS_some, c_int, e3, b_shr, e4, Int.toNat_natCast, bits_i64, e5, e6, if_false, e7, bs5_1, alK_some, ints_one, hq2, src_sl, at_end, at_ints, Nat.zero_add, List.length_cons, List.length_nil, Nat.le_refl, List.drop_zero, List.take_succ_cons, List.take_zero, if_true, ap_ints, loL_len, Nat.mul_one, b2, and_self, List.length_append, b4, true_and, ↓w_exit, Try.underlying9, ↓w_ret, ret_one, c_text, isU5, at_def, onB_true]
      refine ⟨i + 1, by omega, _, _, Z.length + 1, rfl, by omega, ?_, ?_, ?_, ?_⟩
      · have := at_end (killReg (Z ++ [⟨ints .u8 [x / 256 ^ i % 256], true, true⟩]) q) ⟨ints .u8 (loL x i ++ [x / 256 ^ i % 256]), true, true⟩
        rwa [kill_len, List.length_append, List.length_singleton] at this
      all_goals (simp -implicitDefEqProofs only [ne_eq, reduceCtorEq, not_false_eq_true, upd_ne, a3, Nat.reduceEqDiff, upd_eq] <;> rfl)
    · have k1 : ¬ (i : Int) < 8 := by omega
      have e : i = 8 := by omega
      subst e
      have b4 : (loL x 8).take 8 = loL x 8 := List.take_of_length_le (by rw [loL_len]; exact Nat.le_refl _)
      simp -implicitDefEqProofs only [↓w_seq, ↓w_region, Nat.reduceSub, ↓ops_cons, ↓g_move, ↓g_binOp, Nat.reduceLT, ev_tab, a5, Int.cast_ofNat_Int, upd_eq, ev_const, of_int, b_lss, Int.reduceLT, decide_false, ↓ops_nil, ↓w_cond, ↓w_skip, ↓w_block, ne_eq, Nat.reduceEqDiff, not_false_eq_true, upd_ne, a4, reduceCtorEq, a3, b_mul, Int.reduceMul, ↓g_convert, Try.underlying3, Try.underlying32, Try.underlying5, ↓g_buildSlice, Try.underlying31, List.map_cons, List.map_nil, ↓g_append, apS31, ↓g_assign, b_add, Int.reduceAdd, onS_some, c_int, b_shr, bits_i64, onS_not, bs5_1, alK_some, ints_one, src_sl, at_end, at_ints, Nat.zero_add, List.length_cons, List.length_nil, Nat.le_refl, List.drop_zero, List.take_succ_cons, List.take_zero, if_true, true_and, ↓w_exit, Try.underlying9, ↓w_ret, ret_one, c_text, isU5, and_self, at_def, a2, loL_len, b4, Option.bind_some, bytesA_ints, Option.map_some, onB_false]
  · refine ⟨_, _, 0, rfl, by omega, rfl, ?_, ?_, ?_⟩ <;> simp -implicitDefEqProofs only [ne_eq, reduceCtorEq, not_false_eq_true, upd_ne, par0, Nat.reduceEqDiff, upd_eq, Int.cast_ofNat_Int] <;> rfl
end Go.Proofs.Ytngnklpoheejjaa.Sim

