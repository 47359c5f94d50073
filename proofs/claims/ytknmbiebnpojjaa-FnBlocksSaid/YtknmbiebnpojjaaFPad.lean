/- A text, padded: as the program makes it and as the reference does. -/
import Derived.Test.YtknmbiebnpojjaaFHighFirst
import Derived.Test.YtknmbiebnpojjaaFDig0
import Derived.Test.YtknmbiebnpojjaaShelf
namespace Go.Proofs.Ytknmbiebnpojjaa.Sim
open Go
set_option maxRecDepth 100000
set_option maxHeartbeats 4000000
set_option linter.unusedSimpArgs false
set_option linter.unusedVariables false
theorem repL (b : UInt8) (c : Nat) : (⟨(Lib.repeatL [b] c).toArray⟩ : ByteArray) = strOfNums (List.replicate c (b.toNat : Int)) := by
  have h : Lib.repeatL [b] c = List.replicate c b := by
    have := Lib.repeatL_replicate b 1 c
    simpa using this
  rw [h]
  apply nums_inj
  rw [nums_son (by
    intro x hx
    have := List.eq_of_mem_replicate hx
    have hb := b.toNat_lt
    omega)]
  simp [nums]
theorem repeatC (z : ByteArray) (b : UInt8) (hz : z.data.toList = [b]) (c : Nat) (hc : c ≤ 1000000000) : Fn Try.prog 59 [.sc (.string z), .sc (.int .i64 c)] (.sc (.string (strOfNums (List.replicate c (b.toNat : Int))))) := by
  have hs : z.size = 1 := by
    have : z.data.size = 1 := by rw [← Array.length_toList, hz]; rfl
    exact this
  refine Fn.ofCalls [.string z, .int .i64 c] ⟨_, _, Try.func59, rfl, rfl⟩ fun w => ?_
  have h := Try.strings_Repeat z c w (by omega) (by rw [hs]; omega)
  rw [hz, repL] at h
  exact h
theorem padI (z : ByteArray) (hz : z.size ≤ 1000000000) : Fn Try.prog 10 [.sc (.string z)] (.sc (.string (padT z))) := by
  refine Fn.run 22 [.tmp 2] Try.func10 rfl rfl rfl rfl (by simp) (flats_cons (.sc _) flats_nil) (.sc _) ?_
  have e1 : IntKind.i64.wrap ((z.size : Int) + 1) = ((z.size + 1 : Nat) : Int) := by rw [w64 (by omega) (by omega)]; omega
  have e2 : (((z.size + 1 : Nat) : Int)).tmod 64 = (((z.size + 1) % 64 : Nat) : Int) := by
    rw [Int.tmod_eq_emod_of_nonneg (by omega)]
    omega
  have e3 : IntKind.i64.wrap (120 - (((z.size + 1) % 64 : Nat) : Int)) = ((120 - (z.size + 1) % 64 : Nat) : Int) := by rw [w64 (by omega) (by omega)]; omega
  have e4 : (((120 - (z.size + 1) % 64 : Nat) : Int)).tmod 64 = ((zeros z.size : Nat) : Int) := by
    rw [Int.tmod_eq_emod_of_nonneg (by omega)]
    unfold zeros
    omega
  simp -implicitDefEqProofs only [↓w_seq, ↓w_region, ↓ops_cons, ↓g_assign, ↓ops_nil, ev_const, of_str, ↓g_move, ↓g_len, Try.underlying9, Nat.reduceLT, ev_tab, ne_eq, reduceCtorEq, not_false_eq_true, upd_ne, par0, upd_eq, len_str, ↓g_binOp, of_int, t_add, Nat.reduceEqDiff, onS_ite, onS_some, b_add, e1, b_rem, Int.reduceEq, e2, if_false, b_sub, e3, e4]
  have hs1 : (⟨#[128]⟩ : ByteArray).size = 1 := rfl
  have hz0 : zeros z.size < 64 := Nat.mod_lt _ (by decide)
  refine ⟨by rw [hs1]; omega, ?_⟩
  refine call1 (by simp -implicitDefEqProofs only [List.map_cons, ev_const, of_str, Nat.reduceLT, ev_tab, upd_eq, List.map_nil] <;> rfl) (repeatC ⟨#[0]⟩ 0 rfl (zeros z.size) (by omega)) ?_
  have e5 : IntKind.i64.wrap (8 * (z.size : Int)) = 8 * (z.size : Int) := w64 (by omega) (by omega)
  have hs2 : (z ++ (⟨#[128]⟩ : ByteArray)).size = z.size + 1 := by rw [ByteArray.size_append]; rfl
  simp -implicitDefEqProofs only [↓ops_cons, ↓g_binOp, Nat.reduceLT, ev_tab, ne_eq, Nat.reduceEqDiff, not_false_eq_true, upd_ne, upd_eq, t_add, hs2, son_size, List.length_replicate, ↓g_move, ↓g_len, Try.underlying9, reduceCtorEq, par0, len_str, ev_const, of_int, onS_some, b_mul, e5, onS_ite]
  refine ⟨by omega, ?_⟩
  refine call1 (by simp -implicitDefEqProofs only [List.map_cons, Nat.reduceLT, ev_tab, upd_eq, ev_const, of_int, List.map_nil, Int.cast_ofNat_Int] <;> rfl) (highFirst (8 * (z.size : Int)) 8 (by omega) (by omega) (by decide)) ?_
  simp -implicitDefEqProofs only [↓ops_cons, ↓g_binOp, Nat.reduceLT, ev_tab, ne_eq, Nat.reduceEqDiff, not_false_eq_true, upd_ne, upd_eq, t_add, ByteArray.size_append, hs1, son_size, List.length_replicate, hiL_len, Nat.reduceLeDiff, ↓g_assign, ↓ops_nil, ↓w_ret, ret_one, onS_ite]
  refine ⟨by omega, ?_⟩
  have h1 : (⟨#[128]⟩ : ByteArray) = strOfNums [128] := rfl
  rw [h1, show z ++ strOfNums [128] = strOfNums (nums z ++ [128]) by rw [← son_append, son_nums], son_append, son_append, padT, padL]
  simp only [List.append_assoc, List.cons_append, List.nil_append]
  rfl
theorem pad_rep (n : Nat) : ∀ k, k ≤ zeros n → ((n + 1 + k) % 64 = 56 ↔ k = zeros n) := by
  intro k hk
  unfold zeros at *
  omega
theorem padS (z : ByteArray) (hz : z.size ≤ 1000000000) : Fn Try.prog 71 [.sc (.string z)] (.sc (.string (padT z))) := by
  refine Fn.run 36 [.tmp 2] Try.func71 rfl rfl rfl rfl (by simp) (flats_cons (.sc _) flats_nil) (.sc _) ?_
  have hz0 : zeros z.size < 64 := Nat.mod_lt _ (by decide)
  simp -implicitDefEqProofs only [↓w_seq, ↓w_region, ↓ops_cons, ↓g_assign, ↓ops_nil, ev_const, of_str, ↓g_move, ↓g_convert, Try.underlying9, Try.underlying22, Nat.reduceLT, ev_tab, ne_eq, reduceCtorEq, not_false_eq_true, upd_ne, par0, upd_eq, ↓g_buildSlice, List.map_cons, of_int, List.map_nil, bs5_1, ↓g_append, Nat.reduceEqDiff, ↓w_block, alK_some, ints_one, true_and, c_bytes, isU5, cells5, and_self, List.length_nil, bytes_ints, List.nil_append, List.length_cons, Nat.zero_add, List.cons_append, apS22, List.getElem?_cons_zero, src_sl, List.getElem?_cons_succ, at_ints, Nat.le_refl, List.drop_zero, List.take_succ_cons, List.take_zero, if_true, ap_ints, nums_len, Nat.mul_one, Nat.reduceLeDiff, Nat.reduceAdd, kill_0, onS_ite]
  have ht : (nums z).take z.size = nums z := List.take_of_length_le (by rw [nums_len]; omega)
  refine ⟨by omega, ?_⟩
  rw [ht]
  refine w_loop (ι := Nat) (fun k s => ∃ (T : Nat → AV) (G : AHeap), s = ⟨tab 36 T, G ++ [⟨ints .u8 (nums z ++ 128 :: List.replicate k 0), true, true⟩]⟩ ∧ k ≤ zeros z.size ∧ T 0 = .sc (.string z) ∧ T 3 = .sl G.length 0 (z.size + 1 + k) 1) (fun k => zeros z.size - k) ?_ (i := 0) ?_
  · rintro k s ⟨T, G, rfl, a1, a2, a3⟩
    have hlen : (nums z ++ 128 :: List.replicate k 0).length = z.size + 1 + k := by simp only [List.length_append, nums_len, List.length_replicate, List.length_cons]; omega
    have e2 : (((z.size + 1 + k : Nat) : Int)).tmod 64 = (((z.size + 1 + k) % 64 : Nat) : Int) := by
      rw [Int.tmod_eq_emod_of_nonneg (by omega)]
      omega
    by_cases h : k = zeros z.size
    · have k1 : (((z.size + 1 + k) % 64 : Nat) : Int) = 56 := by have := (pad_rep z.size k a1).2 h; omega
      simp -implicitDefEqProofs only [↓w_seq, ↓w_region, ↓ops_cons, ↓g_move, ↓g_len, Try.underlying22, Nat.reduceLT, ev_tab, a3, upd_eq, len_sl, ↓g_binOp, ev_const, of_int, ↓ops_nil, ↓w_cond, ↓w_skip, ↓w_block, ↓g_buildSlice, ne_eq, Nat.reduceEqDiff, not_false_eq_true, upd_ne, List.map_cons, List.map_nil, bs5_1, ↓g_append, apS22, ↓g_assign, alK_some, ints_one, at_a, List.length_append, List.length_cons, List.length_nil, Nat.zero_add, src_sl, at_b, at_ints, Nat.le_refl, List.drop_zero, List.take_succ_cons, List.take_zero, if_true, ap_ints, nums_len, List.length_replicate, Nat.mul_one, Nat.reduceLeDiff, and_self, onS_ite, true_and, ↓w_exit, Try.underlying9, reduceCtorEq, a2, len_str, onS_some, b_mul, b_rem, Int.reduceEq, e2, k1, if_false, b_neq, decide_true, Bool.not_true, onB_false]
      have e5 : IntKind.i64.wrap (8 * (z.size : Int)) = 8 * (z.size : Int) := w64 (by omega) (by omega)
      rw [e5]
      refine w_loop (ι := Nat) (fun j s => ∃ (T : Nat → AV) (G : AHeap), s = ⟨tab 36 T, G ++ [⟨ints .u8 (nums z ++ 128 :: (List.replicate k 0 ++ (hiL (8 * (z.size : Int)) 8).take j)), true, true⟩]⟩ ∧ j ≤ 8 ∧ T 3 = .sl G.length 0 (z.size + 1 + k + j) 1 ∧ T 4 = .sc (.int .i64 (8 * (z.size : Int))) ∧ T 5 = .sc (.int .i64 (7 - (j : Int)))) (fun j => 8 - j) ?_ (i := 0) ?_
      · rintro j s ⟨T, G, rfl, b1, b2, b3, b4⟩
        have hlj : ((hiL (8 * (z.size : Int)) 8).take j).length = j := by rw [List.length_take, hiL_len]; omega
        have hlen : (nums z ++ 128 :: (List.replicate k 0 ++ (hiL (8 * (z.size : Int)) 8).take j)).length = z.size + 1 + k + j := by simp only [List.length_append, nums_len, List.length_replicate, List.length_cons, hlj]; omega
        by_cases hj : j < 8
        · have m1 : (7 - (j : Int)) = ((7 - j : Nat) : Int) := by omega
          have m2 : (0 : Int) ≤ ((7 - j : Nat) : Int) := by omega
          have m3 : IntKind.u64.wrap ((7 - j : Nat) : Int) = ((7 - j : Nat) : Int) := wu64 (by omega) (by omega)
          have m4 : IntKind.u64.wrap (8 * ((7 - j : Nat) : Int)) = ((8 * (7 - j) : Nat) : Int) := by rw [wu64 (by omega) (by omega)]; omega
          have m5 : ¬ ((8 * (7 - j) : Nat) : Int) < 0 := by omega
          have m6 : min (8 * (7 - j)) 64 = 8 * (7 - j) := by omega
          have m7 : IntKind.i64.wrap (((7 - j : Nat) : Int) - 1) = 7 - ((j + 1 : Nat) : Int) := by rw [w64 (by omega) (by omega)]; omega
          rw [m1] at b4
          simp -implicitDefEqProofs only [↓w_seq, ↓w_region, ↓ops_cons, ↓g_move, ↓g_binOp, Nat.reduceLT, ev_tab, b4, upd_eq, ev_const, of_int, b_geq, m2, decide_true, ↓ops_nil, ↓w_cond, ↓w_skip, ↓w_block, ↓g_convert, Try.underlying3, Try.underlying29, ne_eq, Nat.reduceEqDiff, not_false_eq_true, upd_ne, b2, b3, Try.underlying5, ↓g_buildSlice, Try.underlying22, List.map_cons, List.map_nil, ↓g_append, apS22, ↓g_assign, b_sub, m7, onS_some, c_int, m3, b_mul, m4, b_shr, m5, Int.toNat_natCast, bits_i64, m6, if_false, bs5_1, alK_some, ints_one, at_a, List.length_append, List.length_cons, List.length_nil, Nat.zero_add, src_sl, at_b, at_ints, Nat.le_refl, List.drop_zero, List.take_succ_cons, List.take_zero, if_true, ap_ints, hlen, Nat.mul_one, Nat.reduceLeDiff, and_self, true_and, onS_ite, ↓w_exit, Try.underlying9, ↓w_ret, ret_one, c_text, isU5, at_def, at_end, Option.bind_some, bytesA_ints, Option.map_some, onB_true]
          refine ⟨by first | omega | (simp only [List.length_append, List.length_cons, List.length_replicate, nums_len, hiL_len, List.length_take]; omega), j + 1, by omega, _, _, st_end ?_, by omega, ?_, ?_, ?_⟩
          · rw [List.take_of_length_le (by simp only [List.length_append, List.length_cons, nums_len, List.length_replicate, hiL_len, List.length_take]; omega)]
            have hb : IntKind.u8.wrap (8 * (z.size : Int) / 2 ^ (8 * (7 - j))) = (hiL (8 * (z.size : Int)) 8).getD j 0 := by
              rw [IntKind.wrap_u8]
              generalize 8 * (z.size : Int) = x
              match j, hj with
              | 0, _ => show x / 72057594037927936 % 256 = x / 256 / 256 / 256 / 256 / 256 / 256 / 256 % 256; omega
              | 1, _ => show x / 281474976710656 % 256 = x / 256 / 256 / 256 / 256 / 256 / 256 % 256; omega
              | 2, _ => show x / 1099511627776 % 256 = x / 256 / 256 / 256 / 256 / 256 % 256; omega
              | 3, _ => show x / 4294967296 % 256 = x / 256 / 256 / 256 / 256 % 256; omega
              | 4, _ => show x / 16777216 % 256 = x / 256 / 256 / 256 % 256; omega
              | 5, _ => show x / 65536 % 256 = x / 256 / 256 % 256; omega
              | 6, _ => show x / 256 % 256 = x / 256 % 256; rfl
              | 7, _ => show x / 1 % 256 = x % 256; omega
            rw [hb, List.take_add_one, List.getD_eq_getElem?_getD, List.getElem?_eq_getElem (by rw [hiL_len]; exact hj)]
            simp only [Option.getD_some, Option.toList_some, List.append_assoc, List.cons_append]
          · simp -implicitDefEqProofs only [ne_eq, Nat.reduceEqDiff, not_false_eq_true, upd_ne, upd_eq, kill_len, List.length_append, List.length_cons, List.length_nil, Nat.zero_add]
            congr 1 <;> simp only [List.length_append, kill_len, List.length_cons, List.length_nil]
          · simp -implicitDefEqProofs only [ne_eq, Nat.reduceEqDiff, not_false_eq_true, upd_ne, b3]
          · simp -implicitDefEqProofs only [upd_eq]
        · have hj8 : j = 8 := by omega
          subst hj8
          have hc : z.size + 1 + k + 8 ≤ z.size + (k + 8 + 1) := by omega
          have ht8 : (hiL (8 * (z.size : Int)) 8).take 8 = hiL (8 * (z.size : Int)) 8 := List.take_of_length_le (by rw [hiL_len]; omega)
          have m8 : ¬ (0 : Int) ≤ 7 - ((8 : Nat) : Int) := by decide
          simp only [ht8]
          simp -implicitDefEqProofs only [↓w_seq, ↓w_region, Nat.reduceSub, ↓ops_cons, ↓g_move, ↓g_binOp, Nat.reduceLT, ev_tab, b4, Int.cast_ofNat_Int, Int.reduceSub, Int.reduceNeg, upd_eq, ev_const, of_int, b_geq, Int.reduceLE, decide_false, ↓ops_nil, ↓w_cond, ↓w_skip, ↓w_block, ↓g_convert, Try.underlying3, Try.underlying29, ne_eq, Nat.reduceEqDiff, not_false_eq_true, upd_ne, b2, b3, Try.underlying5, ↓g_buildSlice, Try.underlying22, List.map_cons, List.map_nil, ↓g_append, apS22, ↓g_assign, b_sub, onS_some, c_int, b_mul, b_shr, bits_i64, onS_not, bs5_1, alK_some, ints_one, at_a, List.length_append, List.length_cons, List.length_nil, Nat.zero_add, src_sl, at_b, at_ints, Nat.le_refl, List.drop_zero, List.take_succ_cons, List.take_zero, if_true, ap_ints, nums_len, List.length_replicate, hiL_len, hc, Nat.mul_one, Nat.reduceLeDiff, and_self, true_and, onS_ite, ↓w_exit, Try.underlying9, ↓w_ret, ret_one, c_text, isU5, at_def, at_end, Option.bind_some, bytesA_ints, Option.map_some, onB_false]
          rw [padT, padL, List.take_of_length_le (by simp only [List.length_append, List.length_cons, nums_len, List.length_replicate, hiL_len, List.length_take]; omega), h]
      · refine ⟨_, _, st_end (by rw [List.take_zero, List.append_nil]), by omega, ?_, ?_, ?_⟩ <;> simp -implicitDefEqProofs only [ne_eq, Nat.reduceEqDiff, not_false_eq_true, upd_ne, a3, Nat.add_zero, upd_eq, Int.cast_ofNat_Int, Int.reduceSub] <;> rfl
    · have k1 : ¬ (((z.size + 1 + k) % 64 : Nat) : Int) = 56 := by
        intro h2
        exact h ((pad_rep z.size k a1).1 (by omega))
      simp -implicitDefEqProofs only [↓w_seq, ↓w_region, ↓ops_cons, ↓g_move, ↓g_len, Try.underlying22, Nat.reduceLT, ev_tab, a3, upd_eq, len_sl, ↓g_binOp, ev_const, of_int, ↓ops_nil, ↓w_cond, ↓w_skip, ↓w_block, ↓g_buildSlice, ne_eq, Nat.reduceEqDiff, not_false_eq_true, upd_ne, List.map_cons, List.map_nil, bs5_1, ↓g_append, apS22, ↓g_assign, alK_some, ints_one, at_a, List.length_append, List.length_cons, List.length_nil, Nat.zero_add, src_sl, at_b, at_ints, Nat.le_refl, List.drop_zero, List.take_succ_cons, List.take_zero, if_true, ap_ints, hlen, Nat.mul_one, Nat.reduceLeDiff, and_self, true_and, onS_ite, ↓w_exit, Try.underlying9, reduceCtorEq, a2, len_str, onS_some, b_mul, b_rem, Int.reduceEq, e2, if_false, b_neq, k1, decide_false, Bool.not_false, onB_true]
      refine ⟨by omega, k + 1, by omega, _, _, st_end ?_, by omega, ?_, ?_⟩
      · rw [List.take_of_length_le (by simp only [List.length_append, List.length_cons, nums_len, List.length_replicate, hiL_len, List.length_take]; omega), List.append_assoc, List.replicate_succ', List.cons_append]
      · simp -implicitDefEqProofs only [ne_eq, reduceCtorEq, not_false_eq_true, upd_ne, a2]
      · simp -implicitDefEqProofs only [upd_eq, kill_len, List.length_append, List.length_cons, List.length_nil, Nat.zero_add]
        congr 1 <;> simp only [List.length_append, kill_len, List.length_cons, List.length_nil]
  · refine ⟨_, [⟨ints .u8 (nums z), true, false⟩, ⟨ints .u8 [128], true, true⟩], rfl, by omega, ?_, ?_⟩ <;> simp -implicitDefEqProofs only [ne_eq, reduceCtorEq, not_false_eq_true, upd_ne, par0, upd_eq, List.length_cons, List.length_nil, Nat.zero_add, Nat.reduceAdd] <;> rfl
end Go.Proofs.Ytknmbiebnpojjaa.Sim

