/- The text of hex figures, as the drawn laws read it. -/
import Derived.Test.YtbmadanfpicmiaaFHap
namespace Go.Proofs.Ytbmadanfpicmiaa.Sim
open Go
set_option maxRecDepth 100000
set_option maxHeartbeats 4000000
set_option linter.unusedSimpArgs false
set_option linter.unusedVariables false
def dg (c : Int) : Int := if 97 ≤ c then c - 87 else c - 48
def hxd : List Int → List Int
  | a :: b :: l => IntKind.u8.wrap (16 * dg a + dg b) :: hxd l
  | _ => []
theorem hxd_app : ∀ (m : Nat) (a b : List Int), a.length = 2 * m → hxd (a ++ b) = hxd a ++ hxd b
  | 0, a, b, h => by
    have : a = [] := List.eq_nil_of_length_eq_zero (by omega)
    subst this
    rfl
  | m + 1, [], b, h => by simp at h
  | m + 1, [x], b, h => by simp at h; omega
  | m + 1, x :: y :: a, b, h => by
    simp only [List.cons_append, hxd, hxd_app m a b (by simp at h; omega)]
theorem hxd_s (l : List Int) (m : Nat) (h : 2 * m + 1 < l.length) : hxd (l.take (2 * m)) ++ [IntKind.u8.wrap (16 * dg (l.getD (2 * m) 0) + dg (l.getD (2 * m + 1) 0))] = hxd (l.take (2 * (m + 1))) := by
  have e : l.take (2 * (m + 1)) = l.take (2 * m) ++ [l.getD (2 * m) 0, l.getD (2 * m + 1) 0] := by
    rw [show 2 * (m + 1) = 2 * m + 1 + 1 by omega, List.take_add_one, List.take_add_one, List.getD_eq_getElem?_getD, List.getD_eq_getElem?_getD, List.getElem?_eq_getElem h, List.getElem?_eq_getElem (show 2 * m < l.length by omega), List.append_assoc]
    rfl
  rw [e, hxd_app m _ _ (by rw [List.length_take]; omega)]
  rfl
theorem hxd_end (l : List Int) (m : Nat) (h : ¬ 2 * m + 1 < l.length) (h2 : 2 * m ≤ l.length) : hxd (l.take (2 * m)) = hxd l := by
  have e : l = l.take (2 * m) ++ l.drop (2 * m) := (List.take_append_drop _ _).symm
  have hd : hxd (l.drop (2 * m)) = [] := by
    have hl : (l.drop (2 * m)).length ≤ 1 := by rw [List.length_drop]; omega
    match l.drop (2 * m), hl with
    | [], _ => rfl
    | [x], _ => rfl
  conv => rhs; rw [e]
  rw [hxd_app m _ _ (by rw [List.length_take]; omega), hd, List.append_nil]
theorem hxd_len : ∀ l : List Int, (hxd l).length = l.length / 2
  | [] => rfl
  | [a] => by simp [hxd]
  | a :: b :: l => by simp only [hxd, List.length_cons, hxd_len l]; omega
theorem dg_b {c : Int} (h0 : 0 ≤ c) (h1 : c < 256) : -48 ≤ dg c ∧ dg c ≤ 168 := by unfold dg; split <;> omega
def hexT (z : ByteArray) : ByteArray := strOfNums (hxd (nums z))
theorem byteAt_b (z : ByteArray) (i : Nat) : 0 ≤ byteAt z i ∧ byteAt z i < 256 := by
  unfold byteAt
  have := ((z.data[i]?).getD 0).toNat_lt
  omega
theorem hexedS (z : ByteArray) (hz : z.size ≤ 100000) : Fn Try.prog 17 [.sc (.string z)] (.sc (.string (hexT z))) := by
  refine Fn.run 43 [.tmp 2] Try.func17 rfl rfl rfl rfl (by simp) (flats_cons (.sc _) flats_nil) (.sc _) ?_
  simp -implicitDefEqProofs only [↓w_seq, ↓w_region, ↓ops_cons, ↓g_assign, ↓ops_nil, ev_const, of_str, ↓g_buildSlice, Try.underlying22, List.map_nil, bs5_0, Nat.reduceLT, ev_tab, upd_eq, ↓w_block, of_int, alK_some, ints_one, List.length_nil, List.nil_append, true_and]
  refine w_loop (ι := Nat) (fun m s => ∃ (T : Nat → AV) (G : AHeap), s = ⟨tab 43 T, G ++ [⟨ints .u8 (hxd ((nums z).take (2 * m))), true, true⟩]⟩ ∧ 2 * m ≤ z.size ∧ T 0 = .sc (.string z) ∧ T 3 = .sl G.length 0 m 1 ∧ T 4 = .sc (.int .i64 ((2 * m : Nat) : Int))) (fun m => z.size - m) ?_ (i := 0) ?_
  · rintro m s ⟨T, G, rfl, a0, a1, a2, a3⟩
    have e0 : IntKind.i64.wrap (((2 * m : Nat) : Int) + 1) = ((2 * m + 1 : Nat) : Int) := by rw [w64 (by omega) (by omega)]; omega
    have hl : (hxd ((nums z).take (2 * m))).length = m := by rw [hxd_len, List.length_take, nums_len]; omega
    have htk : (hxd ((nums z).take (2 * m))).take m = hxd ((nums z).take (2 * m)) := List.take_of_length_le (by omega)
    by_cases h : 2 * m + 1 < z.size
    · have k0 : ((2 * m + 1 : Nat) : Int) < z.size := by omega
      have hs := hxd_s (nums z) m (by rw [nums_len]; exact h)
      rw [← byteAt_nums, ← byteAt_nums] at hs
      have b1 := byteAt_b z (2 * m)
      have b2 := byteAt_b z (2 * m + 1)
      have d1 := dg_b b1.1 b1.2
      have d2 := dg_b b2.1 b2.2
      generalize hA : hxd ((nums z).take (2 * m)) = A at *
      simp -implicitDefEqProofs only [↓w_seq, ↓w_region, ↓ops_cons, ↓g_move, ↓g_binOp, Nat.reduceLT, ev_tab, a3, upd_eq, ev_const, of_int, b_add, e0, ↓g_len, Try.underlying9, ne_eq, reduceCtorEq, not_false_eq_true, upd_ne, a1, len_str, Nat.reduceEqDiff, ↓ops_nil, ↓w_cond, ↓w_skip, ↓w_block, ↓g_assign, ↓w_exit, ↓g_convert, Try.underlying22, a2, ↓w_ret, ret_one, c_text, isU5, and_self, at_def, at_end, at_ints, Nat.zero_add, List.drop_zero, if_true, onS_some, b_lss, k0, decide_true, onB_true]
      refine w_loop (ι := Nat) (fun k s => ∃ U : Nat → AV, s = ⟨tab 43 U, G ++ [⟨ints .u8 A, true, true⟩]⟩ ∧ U 0 = .sc (.string z) ∧ U 3 = .sl G.length 0 m 1 ∧ U 4 = .sc (.int .i64 ((2 * m : Nat) : Int)) ∧ U 6 = .sc (.int .i64 k) ∧ ((k = 0 ∧ U 5 = .sc (.int .i64 0)) ∨ (k = 1 ∧ U 5 = .sc (.int .i64 (dg (byteAt z (2 * m))))) ∨ (k = 2 ∧ U 5 = .sc (.int .i64 (16 * dg (byteAt z (2 * m)) + dg (byteAt z (2 * m + 1))))))) (fun k => 2 - k) ?_ (i := 0) ?_
      · rintro k s ⟨U, rfl, c1, c2, c3, c4, c5⟩
        rcases c5 with ⟨rfl, c5⟩ | ⟨rfl, c5⟩ | ⟨rfl, c5⟩
        · have f0 : IntKind.i64.wrap (((2 * m : Nat) : Int) + 0) = ((2 * m : Nat) : Int) := by rw [w64 (by omega) (by omega)]; omega
          have f1 : (0 : Int) ≤ ((2 * m : Nat) : Int) := by omega
          have f2 : 2 * m < z.size := by omega
          have f3 : IntKind.i64.wrap (byteAt z (2 * m)) = byteAt z (2 * m) := w64 (by omega) (by omega)
          have f4 : IntKind.i64.wrap 1 = 1 := rfl
          have f5 : IntKind.i64.wrap 0 = 0 := rfl
          by_cases h9 : 97 ≤ byteAt z (2 * m)
          · have g1 : IntKind.i64.wrap (byteAt z (2 * m) - 87) = byteAt z (2 * m) - 87 := w64 (by omega) (by omega)
            have g2 : IntKind.i64.wrap (0 + (byteAt z (2 * m) - 87)) = dg (byteAt z (2 * m)) := by rw [w64 (by omega) (by omega), dg, if_pos h9]; omega
            simp -implicitDefEqProofs only [↓w_seq, ↓w_region, Nat.reduceSub, ↓ops_cons, ↓g_move, ↓g_binOp, Nat.reduceLT, ev_tab, c4, Int.cast_ofNat_Int, upd_eq, ev_const, of_int, b_lss, Int.reduceLT, decide_true, ↓ops_nil, ↓w_cond, ↓w_skip, ↓w_block, ne_eq, reduceCtorEq, not_false_eq_true, upd_ne, c1, Nat.reduceEqDiff, c3, b_add, f0, ↓g_index, Try.underlying9, ↓g_convert, Try.underlying5, Try.underlying3, ↓g_assign, c5, b_mul, Int.reduceMul, f5, Int.reduceAdd, f4, onS_some, idx_str, f1, Int.toNat_natCast, f2, and_self, if_true, c_int, f3, b_geq, h9, b_sub, g1, g2, onB_true, ↓w_exit, c2, ↓g_buildSlice, Try.underlying22, List.map_cons, List.map_nil, ↓g_append, apS22, bs5_1, alK_some, ints_one, at_a, List.length_append, List.length_cons, List.length_nil, Nat.zero_add, src_sl, at_b, at_ints, Nat.le_refl, List.drop_zero, List.take_succ_cons, List.take_zero, ap_ints, Nat.mul_one, Nat.reduceLeDiff, onS_ite, true_and, ↓w_ret, ret_one, c_text, isU5, at_def, at_end, if_false]
            refine ⟨1, by omega, _, rfl, ?_, ?_, ?_, ?_, .inr (.inl ⟨rfl, ?_⟩)⟩ <;> simp -implicitDefEqProofs only [ne_eq, reduceCtorEq, not_false_eq_true, upd_ne, c1, Nat.reduceEqDiff, c2, c3, upd_eq, Int.cast_ofNat_Int] <;> rfl
          · have g1 : IntKind.i64.wrap (byteAt z (2 * m) - 48) = byteAt z (2 * m) - 48 := w64 (by omega) (by omega)
            have g2 : IntKind.i64.wrap (0 + (byteAt z (2 * m) - 48)) = dg (byteAt z (2 * m)) := by rw [w64 (by omega) (by omega), dg, if_neg h9]; omega
            simp -implicitDefEqProofs only [↓w_seq, ↓w_region, Nat.reduceSub, ↓ops_cons, ↓g_move, ↓g_binOp, Nat.reduceLT, ev_tab, c4, Int.cast_ofNat_Int, upd_eq, ev_const, of_int, b_lss, Int.reduceLT, decide_true, ↓ops_nil, ↓w_cond, ↓w_skip, ↓w_block, ne_eq, reduceCtorEq, not_false_eq_true, upd_ne, c1, Nat.reduceEqDiff, c3, b_add, f0, ↓g_index, Try.underlying9, ↓g_convert, Try.underlying5, Try.underlying3, ↓g_assign, c5, b_mul, Int.reduceMul, f5, Int.reduceAdd, f4, onS_some, idx_str, f1, Int.toNat_natCast, f2, and_self, if_true, c_int, f3, b_geq, h9, decide_false, b_sub, g1, g2, onB_false, ↓w_exit, c2, ↓g_buildSlice, Try.underlying22, List.map_cons, List.map_nil, ↓g_append, apS22, bs5_1, alK_some, ints_one, at_a, List.length_append, List.length_cons, List.length_nil, Nat.zero_add, src_sl, at_b, at_ints, Nat.le_refl, List.drop_zero, List.take_succ_cons, List.take_zero, ap_ints, Nat.mul_one, Nat.reduceLeDiff, onS_ite, true_and, ↓w_ret, ret_one, c_text, isU5, at_def, at_end, if_false, onB_true]
            refine ⟨1, by omega, _, rfl, ?_, ?_, ?_, ?_, .inr (.inl ⟨rfl, ?_⟩)⟩ <;> simp -implicitDefEqProofs only [ne_eq, reduceCtorEq, not_false_eq_true, upd_ne, c1, Nat.reduceEqDiff, c2, c3, upd_eq, Int.cast_ofNat_Int] <;> rfl
        · have f0 : IntKind.i64.wrap (((2 * m : Nat) : Int) + 1) = ((2 * m + 1 : Nat) : Int) := by rw [w64 (by omega) (by omega)]; omega
          have f1 : (0 : Int) ≤ ((2 * m + 1 : Nat) : Int) := by omega
          have f3 : IntKind.i64.wrap (byteAt z (2 * m + 1)) = byteAt z (2 * m + 1) := w64 (by omega) (by omega)
          have f4 : IntKind.i64.wrap 2 = 2 := rfl
          have f5 : IntKind.i64.wrap (16 * dg (byteAt z (2 * m))) = 16 * dg (byteAt z (2 * m)) := w64 (by omega) (by omega)
          by_cases h9 : 97 ≤ byteAt z (2 * m + 1)
          · have g1 : IntKind.i64.wrap (byteAt z (2 * m + 1) - 87) = byteAt z (2 * m + 1) - 87 := w64 (by omega) (by omega)
            have g2 : IntKind.i64.wrap (16 * dg (byteAt z (2 * m)) + (byteAt z (2 * m + 1) - 87)) = 16 * dg (byteAt z (2 * m)) + dg (byteAt z (2 * m + 1)) := by
              have : dg (byteAt z (2 * m + 1)) = byteAt z (2 * m + 1) - 87 := by rw [dg, if_pos h9]
              rw [w64 (by omega) (by omega)]
              omega
            simp -implicitDefEqProofs only [↓w_seq, ↓w_region, Nat.reduceSub, ↓ops_cons, ↓g_move, ↓g_binOp, Nat.reduceLT, ev_tab, c4, Int.cast_ofNat_Int, upd_eq, ev_const, of_int, b_lss, Int.reduceLT, decide_true, ↓ops_nil, ↓w_cond, ↓w_skip, ↓w_block, ne_eq, reduceCtorEq, not_false_eq_true, upd_ne, c1, Nat.reduceEqDiff, c3, b_add, f0, ↓g_index, Try.underlying9, ↓g_convert, Try.underlying5, Try.underlying3, ↓g_assign, c5, b_mul, f5, Int.reduceAdd, f4, onS_some, idx_str, f1, Int.toNat_natCast, h, and_self, if_true, c_int, f3, b_geq, h9, b_sub, g1, g2, onB_true, ↓w_exit, c2, ↓g_buildSlice, Try.underlying22, List.map_cons, List.map_nil, ↓g_append, apS22, bs5_1, alK_some, ints_one, at_a, List.length_append, List.length_cons, List.length_nil, Nat.zero_add, src_sl, at_b, at_ints, Nat.le_refl, List.drop_zero, List.take_succ_cons, List.take_zero, ap_ints, Nat.mul_one, Nat.reduceLeDiff, onS_ite, true_and, ↓w_ret, ret_one, c_text, isU5, at_def, at_end, if_false]
            refine ⟨2, by omega, _, rfl, ?_, ?_, ?_, ?_, .inr (.inr ⟨rfl, ?_⟩)⟩ <;> simp -implicitDefEqProofs only [ne_eq, reduceCtorEq, not_false_eq_true, upd_ne, c1, Nat.reduceEqDiff, c2, c3, upd_eq, Int.cast_ofNat_Int] <;> rfl
          · have g1 : IntKind.i64.wrap (byteAt z (2 * m + 1) - 48) = byteAt z (2 * m + 1) - 48 := w64 (by omega) (by omega)
            have g2 : IntKind.i64.wrap (16 * dg (byteAt z (2 * m)) + (byteAt z (2 * m + 1) - 48)) = 16 * dg (byteAt z (2 * m)) + dg (byteAt z (2 * m + 1)) := by
              have : dg (byteAt z (2 * m + 1)) = byteAt z (2 * m + 1) - 48 := by rw [dg, if_neg h9]
              rw [w64 (by omega) (by omega)]
              omega
            simp -implicitDefEqProofs only [↓w_seq, ↓w_region, Nat.reduceSub, ↓ops_cons, ↓g_move, ↓g_binOp, Nat.reduceLT, ev_tab, c4, Int.cast_ofNat_Int, upd_eq, ev_const, of_int, b_lss, Int.reduceLT, decide_true, ↓ops_nil, ↓w_cond, ↓w_skip, ↓w_block, ne_eq, reduceCtorEq, not_false_eq_true, upd_ne, c1, Nat.reduceEqDiff, c3, b_add, f0, ↓g_index, Try.underlying9, ↓g_convert, Try.underlying5, Try.underlying3, ↓g_assign, c5, b_mul, f5, Int.reduceAdd, f4, onS_some, idx_str, f1, Int.toNat_natCast, h, and_self, if_true, c_int, f3, b_geq, h9, decide_false, b_sub, g1, g2, onB_false, ↓w_exit, c2, ↓g_buildSlice, Try.underlying22, List.map_cons, List.map_nil, ↓g_append, apS22, bs5_1, alK_some, ints_one, at_a, List.length_append, List.length_cons, List.length_nil, Nat.zero_add, src_sl, at_b, at_ints, Nat.le_refl, List.drop_zero, List.take_succ_cons, List.take_zero, ap_ints, Nat.mul_one, Nat.reduceLeDiff, onS_ite, true_and, ↓w_ret, ret_one, c_text, isU5, at_def, at_end, if_false, onB_true]
            refine ⟨2, by omega, _, rfl, ?_, ?_, ?_, ?_, .inr (.inr ⟨rfl, ?_⟩)⟩ <;> simp -implicitDefEqProofs only [ne_eq, reduceCtorEq, not_false_eq_true, upd_ne, c1, Nat.reduceEqDiff, c2, c3, upd_eq, Int.cast_ofNat_Int] <;> rfl
        · have k3 : m ≤ A.length := by omega
          have k4 : (m + 1) * 1 ≤ 140737488355328 := by omega
          have k5 : m + 1 ≤ 140737488355328 := by omega
          have e2 : IntKind.i64.wrap (((2 * m : Nat) : Int) + 2) = ((2 * (m + 1) : Nat) : Int) := by rw [w64 (by omega) (by omega)]; omega
          simp -implicitDefEqProofs only [↓w_seq, ↓w_region, Nat.reduceSub, ↓ops_cons, ↓g_move, ↓g_binOp, Nat.reduceLT, ev_tab, c4, Int.cast_ofNat_Int, upd_eq, ev_const, of_int, b_lss, Int.reduceLT, decide_false, ↓ops_nil, ↓w_cond, ↓w_skip, ↓w_block, ne_eq, reduceCtorEq, not_false_eq_true, upd_ne, c1, Nat.reduceEqDiff, c3, b_add, e2, ↓g_index, Try.underlying9, ↓g_convert, Try.underlying5, Try.underlying3, ↓g_assign, c5, b_mul, Int.reduceAdd, onS_some, idx_str, onS_ite, c_int, b_geq, b_sub, onB_dec, ↓w_exit, c2, ↓g_buildSlice, Try.underlying22, List.map_cons, List.map_nil, ↓g_append, apS22, bs5_1, alK_some, ints_one, at_a, List.length_append, List.length_cons, List.length_nil, Nat.zero_add, src_sl, at_b, at_ints, Nat.le_refl, List.drop_zero, List.take_succ_cons, List.take_zero, if_true, ap_ints, k3, Nat.mul_one, k5, and_self, htk, hs, true_and, ↓w_ret, ret_one, c_text, isU5, at_def, at_end, Option.bind_some, bytesA_ints, Option.map_some, if_false, onB_false]
          refine ⟨m + 1, by omega, _, _, rfl, by omega, ?_, ?_, ?_⟩
          · simp -implicitDefEqProofs only [ne_eq, reduceCtorEq, not_false_eq_true, upd_ne, c1]
          · simp -implicitDefEqProofs only [ne_eq, Nat.reduceEqDiff, not_false_eq_true, upd_ne, upd_eq, kill_len, List.length_append, List.length_cons, List.length_nil, Nat.zero_add]
            try simp only [kill_len, List.length_append, List.length_cons, List.length_nil]
          · simp -implicitDefEqProofs only [upd_eq] <;> rfl
      · refine ⟨_, rfl, ?_, ?_, ?_, ?_, .inl ⟨rfl, ?_⟩⟩ <;> simp -implicitDefEqProofs only [ne_eq, reduceCtorEq, not_false_eq_true, upd_ne, a1, Nat.reduceEqDiff, a2, a3, upd_eq, Int.cast_ofNat_Int] <;> rfl
    · have k0 : ¬ ((2 * m + 1 : Nat) : Int) < z.size := by omega
      have he := hxd_end (nums z) m (by rw [nums_len]; exact h) (by rw [nums_len]; exact a0)
      rw [he] at htk hl ⊢
      have k3 : m ≤ (hxd (nums z)).length := by omega
      simp -implicitDefEqProofs only [↓w_seq, ↓w_region, ↓ops_cons, ↓g_move, ↓g_binOp, Nat.reduceLT, ev_tab, a3, upd_eq, ev_const, of_int, b_add, e0, ↓g_len, Try.underlying9, ne_eq, reduceCtorEq, not_false_eq_true, upd_ne, a1, len_str, Nat.reduceEqDiff, ↓ops_nil, ↓w_cond, ↓w_skip, ↓w_block, ↓g_assign, ↓w_exit, ↓g_convert, Try.underlying22, a2, ↓w_ret, ret_one, c_text, isU5, and_self, at_def, at_end, at_ints, Nat.zero_add, k3, List.drop_zero, htk, if_true, Option.bind_some, bytesA_ints, Option.map_some, onS_some, b_lss, k0, decide_false, onB_false]
      rfl
  · refine ⟨_, [], rfl, by omega, ?_, ?_, ?_⟩ <;> simp -implicitDefEqProofs only [ne_eq, reduceCtorEq, not_false_eq_true, upd_ne, par0, Nat.reduceEqDiff, upd_eq, List.length_nil, Nat.reduceMul, Int.cast_ofNat_Int] <;> rfl
end Go.Proofs.Ytbmadanfpicmiaa.Sim

