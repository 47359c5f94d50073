/- A number read, in bytes of seven bits. -/
import Derived.Test.YtheeehbaholjmaaFVar
namespace Go.Proofs.Ytheeehbaholjmaa.Sim
open Go
set_option maxRecDepth 100000
set_option maxHeartbeats 4000000
set_option linter.unusedSimpArgs false
set_option linter.unusedVariables false
def bN (z : ByteArray) (j : Nat) : Nat := (byteAt z j).toNat
theorem bN_i (z : ByteArray) (j : Nat) : byteAt z j = (bN z j : Int) ∧ bN z j < 256 := by
  have h : 0 ≤ byteAt z j ∧ byteAt z j < 256 := by
    unfold byteAt
    have := ((z.data[j]?).getD 0).toNat_lt
    omega
  unfold bN
  omega
def rdv (z : ByteArray) (a : Nat) : Nat → Nat → Nat → Option (Nat × Nat)
  | 0, _, _ => none
  | f + 1, i, n => if a + i < z.size then (if 127 < bN z (a + i) then rdv z a f (i + 1) (n + bN z (a + i) % 128 * 128 ^ i) else if (0 < i ∧ bN z (a + i) = 0) ∨ 1000000000 < n + bN z (a + i) % 128 * 128 ^ i then none else some (n + bN z (a + i) % 128 * 128 ^ i, a + i + 1)) else none
def rvV (r : Option (Nat × Nat)) : AV :=
  match r with
  | some (n, k) => .tup [.sc (.int .i64 n), .sc (.int .i64 k), .sc (.bool true)]
  | none => .tup [.sc (.int .i64 0), .sc (.int .i64 0), .sc (.bool false)]
theorem rvV_flat (r : Option (Nat × Nat)) : Flat (rvV r) := by
  unfold rvV
  split <;> exact .tup (flats_cons (.sc _) (flats_cons (.sc _) (flats_cons (.sc _) flats_nil)))
theorem pw7 (i : Nat) (h : i < 5) : (2 : Int) ^ (7 * i) = ((128 ^ i : Nat) : Int) ∧ 128 ^ i ≤ 268435456 ∧ 1 ≤ 128 ^ i := by
  match i, h with
  | 0, _ => exact ⟨rfl, by decide, by decide⟩
  | 1, _ => exact ⟨rfl, by decide, by decide⟩
  | 2, _ => exact ⟨rfl, by decide, by decide⟩
  | 3, _ => exact ⟨rfl, by decide, by decide⟩
  | 4, _ => exact ⟨rfl, by decide, by decide⟩
  | n + 5, h => exact absurd h (by omega)
theorem stp7 (n c i : Nat) (h : n < 128 ^ i) : n + c % 128 * 128 ^ i < 128 ^ (i + 1) := by
  have h1 : c % 128 ≤ 127 := by omega
  have h2 : c % 128 * 128 ^ i ≤ 127 * 128 ^ i := Nat.mul_le_mul_right _ h1
  rw [Nat.pow_succ]
  omega
theorem rvI (z : ByteArray) (a : Nat) (ha : a ≤ z.size) (hz : z.size ≤ 1000000000) : Fn Try.prog 62 [.sc (.string z), .sc (.int .i64 a)] (rvV (rdv z a 5 0 0)) := by
  refine Fn.run 57 [.tmp 4, .tmp 5, .tmp 6] Try.func62 rfl rfl rfl rfl (by simp) (flats_cons (.sc _) (flats_cons (.sc _) flats_nil)) (rvV_flat _) ?_
  generalize hR : rdv z a 5 0 0 = R
  simp -implicitDefEqProofs only [↓w_seq, ↓w_region, ↓ops_cons, ↓g_assign, ↓ops_nil, ev_const, of_int, of_bool, ↓g_move, ↓g_len, Try.underlying9, Nat.reduceLT, ev_tab, ne_eq, Nat.reduceEqDiff, not_false_eq_true, upd_ne, par1, reduceCtorEq, par0, upd_eq, len_str, onS_some]
  refine call1 (by simp -implicitDefEqProofs only [List.map_cons, Nat.reduceLT, ev_tab, ne_eq, Nat.reduceEqDiff, not_false_eq_true, upd_ne, upd_eq, ev_const, of_int, List.map_nil] <;> rfl) (inI _ 0 _) ?_
  rw [decide_eq_true (p := 0 ≤ (a : Int) ∧ (a : Int) ≤ (z.size : Int)) (by omega)]
  simp -implicitDefEqProofs only [↓ops_cons, ↓g_unOp, Nat.reduceLT, ev_tab, upd_eq, u_not, Bool.not_true, Option.map_some, ↓ops_nil, ↓w_cond, ↓w_seq, ↓w_region, ↓g_assign, ↓w_ret, ev_const, of_int, of_bool, ret_three, ne_eq, Nat.reduceEqDiff, not_false_eq_true, upd_ne, ↓w_skip, ↓w_block, onS_some, onB_false]
  refine w_loop (ι := Nat) (fun i s => ∃ (T : Nat → AV) (H : AHeap) (n : Nat), s = ⟨tab 57 T, H⟩ ∧ i ≤ 5 ∧ n < 128 ^ i ∧ rdv z a (5 - i) i n = R ∧ T 0 = .sc (.string z) ∧ T 1 = .sc (.int .i64 a) ∧ T 7 = .sc (.int .i64 n) ∧ T 8 = .sc (.int .i64 i)) (fun i => 5 - i) ?_ (i := 0) ?_
  · rintro i s ⟨T, H, n, rfl, a1, a2, a3, a4, a5, a6, a7⟩
    by_cases hi : i < 5
    · have k1 : (i : Int) < 5 := by omega
      have e1 : IntKind.i64.wrap ((a : Int) + i) = ((a + i : Nat) : Int) := by rw [w64 (by omega) (by omega)]; omega
      obtain ⟨f, hf⟩ : ∃ f, 5 - i = f + 1 := ⟨4 - i, by omega⟩
      have hf2 : 5 - (i + 1) = f := by omega
      rw [hf, rdv] at a3
      by_cases hin : a + i < z.size
      · have k2 : ((a + i : Nat) : Int) < z.size := by omega
        rw [if_pos hin] at a3
        obtain ⟨hb, hb2⟩ := bN_i z (a + i)
        obtain ⟨p1, p2, p3⟩ := pw7 i hi
        have hst := stp7 n (bN z (a + i)) i a2
        generalize hc : bN z (a + i) = c at *
        have k3 : (0 : Int) ≤ ((a + i : Nat) : Int) := by omega
        have e2 : IntKind.i64.wrap (c : Int) = c := w64 (by omega) (by omega)
        have e3 : ((c : Int)).tmod 128 = ((c % 128 : Nat) : Int) := by rw [Int.tmod_eq_emod_of_nonneg (by omega)]; omega
        have e4 : IntKind.i64.wrap (7 * (i : Int)) = ((7 * i : Nat) : Int) := by rw [w64 (by omega) (by omega)]; omega
        have k4 : ¬ ((7 * i : Nat) : Int) < 0 := by omega
        have e5 : min (7 * i) 64 = 7 * i := by omega
        have hm : c % 128 * 128 ^ i ≤ 127 * 268435456 := Nat.mul_le_mul (by omega) p2
        have hn : n < 268435456 := by omega
        have e6 : IntKind.i64.wrap (((c % 128 : Nat) : Int) * 2 ^ (7 * i)) = ((c % 128 * 128 ^ i : Nat) : Int) := by
          rw [p1, w64 (by omega) (by omega)]
          push_cast
          rfl
        have e7 : IntKind.i64.wrap ((n : Int) + ((c % 128 * 128 ^ i : Nat) : Int)) = ((n + c % 128 * 128 ^ i : Nat) : Int) := by rw [w64 (by omega) (by omega)]; omega
        have e8 : IntKind.i64.wrap ((i : Int) + 1) = ((i + 1 : Nat) : Int) := by rw [w64 (by omega) (by omega)]; omega
        generalize hn' : n + c % 128 * 128 ^ i = n' at *
        by_cases hbig : 127 < c
        · have k5 : (127 : Int) < c := by omega
          rw [if_pos hbig] at a3
          simp -implicitDefEqProofs only [↓w_seq, ↓w_region, ↓ops_cons, ↓g_move, ↓g_binOp, Nat.reduceLT, ev_tab, a7, upd_eq, ev_const, of_int, b_lss, k1, decide_true, onS_some, yielded_tab, dstAt_s, dstAt_0, ybv_some, boolOf_b, ↓g_guard_t, ne_eq, Nat.reduceEqDiff, not_false_eq_true, upd_ne, a5, b_add, e1, reduceCtorEq, a4, ↓g_len, Try.underlying9, len_str, ↓g_pick, of_bool, pick_b, if_true, ↓ops_nil, ↓w_cond, ↓w_skip, ↓w_block, ↓g_index, ↓g_convert, Try.underlying5, Try.underlying3, ↓g_assign, a6, b_mul, e4, ↓w_exit, e8, ↓w_ret, ret_three, if_false, b_gtr, idx_str, k3, Int.toNat_natCast, hin, and_self, hb, c_int, e2, b_rem, Int.reduceEq, e3, k5, onB_true, b_shl, k4, bits_i64, e5, e6, e7, k2]
          refine ⟨i + 1, by omega, _, _, n', rfl, by omega, hst, by rw [hf2]; exact a3, ?_, ?_, ?_, ?_⟩ <;> simp -implicitDefEqProofs only [ne_eq, reduceCtorEq, not_false_eq_true, upd_ne, a4, Nat.reduceEqDiff, a5, upd_eq] <;> rfl
        · have k5 : ¬ (127 : Int) < c := by omega
          rw [if_neg hbig] at a3
          have e9 : IntKind.i64.wrap (((a + i : Nat) : Int) + 1) = ((a + i + 1 : Nat) : Int) := by rw [w64 (by omega) (by omega)]; omega
          by_cases h0 : 0 < i ∧ c = 0
          · rw [if_pos (.inl h0)] at a3
            have k6 : (0 : Int) < i := by omega
            have k7 : (c : Int) = 0 := by omega
            subst a3
            simp -implicitDefEqProofs only [↓w_seq, ↓w_region, ↓ops_cons, ↓g_move, ↓g_binOp, Nat.reduceLT, ev_tab, a7, upd_eq, ev_const, of_int, b_lss, k1, decide_true, onS_some, yielded_tab, dstAt_s, dstAt_0, ybv_some, boolOf_b, ↓g_guard_t, ne_eq, Nat.reduceEqDiff, not_false_eq_true, upd_ne, a5, b_add, e1, reduceCtorEq, a4, ↓g_len, Try.underlying9, len_str, ↓g_pick, of_bool, pick_b, if_true, ↓ops_nil, ↓w_cond, ↓w_skip, ↓w_block, ↓g_index, ↓g_convert, Try.underlying5, Try.underlying3, ↓g_assign, a6, b_mul, e4, ↓w_exit, ↓w_ret, ret_three, if_false, b_gtr, k6, idx_str, k3, Int.toNat_natCast, hin, and_self, hb, k7, c_int, b_rem, Int.reduceEq, b_eql, onB_dec, b_shl, k4, bits_i64, e5, k2, onB_true]
            try rfl
          · by_cases h1 : 1000000000 < n'
            · rw [if_pos (.inr h1)] at a3
              subst a3
              have k8 : (1000000000 : Int) < n' := by omega
              by_cases h2 : 0 < i
              · have k6 : (0 : Int) < i := by omega
                have k7 : ¬ (c : Int) = 0 := by omega
                simp -implicitDefEqProofs only [↓w_seq, ↓w_region, ↓ops_cons, ↓g_move, ↓g_binOp, Nat.reduceLT, ev_tab, a7, upd_eq, ev_const, of_int, b_lss, k1, decide_true, onS_some, yielded_tab, dstAt_s, dstAt_0, ybv_some, boolOf_b, ↓g_guard_t, ne_eq, Nat.reduceEqDiff, not_false_eq_true, upd_ne, a5, b_add, e1, reduceCtorEq, a4, ↓g_len, Try.underlying9, len_str, ↓g_pick, of_bool, pick_b, if_true, ↓ops_nil, ↓w_cond, ↓w_skip, ↓w_block, ↓g_index, ↓g_convert, Try.underlying5, Try.underlying3, ↓g_assign, a6, b_mul, e4, ↓w_exit, ↓w_ret, ret_three, if_false, b_gtr, k6, idx_str, k3, Int.toNat_natCast, hin, and_self, hb, c_int, e2, b_rem, Int.reduceEq, e3, k5, decide_false, b_eql, k7, Bool.false_eq_true, onB_false, b_shl, k4, bits_i64, e5, e6, e7, k8, onB_true, k2]
                try rfl
              · have k6 : ¬ (0 : Int) < i := by omega
                simp -implicitDefEqProofs only [↓w_seq, ↓w_region, ↓ops_cons, ↓g_move, ↓g_binOp, Nat.reduceLT, ev_tab, a7, upd_eq, ev_const, of_int, b_lss, k1, decide_true, onS_some, yielded_tab, dstAt_s, dstAt_0, ybv_some, boolOf_b, ↓g_guard_t, ne_eq, Nat.reduceEqDiff, not_false_eq_true, upd_ne, a5, b_add, e1, reduceCtorEq, a4, ↓g_len, Try.underlying9, len_str, ↓g_pick, of_bool, pick_b, if_true, ↓ops_nil, ↓w_cond, ↓w_skip, ↓w_block, ↓g_index, ↓g_convert, Try.underlying5, Try.underlying3, ↓g_assign, a6, b_mul, e4, ↓w_exit, ↓w_ret, ret_three, if_false, b_gtr, k6, decide_false, Bool.not_true, ↓g_guard_f, Bool.false_eq_true, idx_str, k3, Int.toNat_natCast, hin, and_self, hb, c_int, e2, b_rem, Int.reduceEq, e3, k5, onB_false, b_shl, k4, bits_i64, e5, e6, e7, k8, onB_true, k2]
                try rfl
            · rw [if_neg (fun x => x.elim h0 h1)] at a3
              subst a3
              have k8 : ¬ (1000000000 : Int) < n' := by omega
              by_cases h2 : 0 < i
              · have k6 : (0 : Int) < i := by omega
                have k7 : ¬ (c : Int) = 0 := by omega
                simp -implicitDefEqProofs only [↓w_seq, ↓w_region, ↓ops_cons, ↓g_move, ↓g_binOp, Nat.reduceLT, ev_tab, a7, upd_eq, ev_const, of_int, b_lss, k1, decide_true, onS_some, yielded_tab, dstAt_s, dstAt_0, ybv_some, boolOf_b, ↓g_guard_t, ne_eq, Nat.reduceEqDiff, not_false_eq_true, upd_ne, a5, b_add, e1, reduceCtorEq, a4, ↓g_len, Try.underlying9, len_str, ↓g_pick, of_bool, pick_b, if_true, ↓ops_nil, ↓w_cond, ↓w_skip, ↓w_block, ↓g_index, ↓g_convert, Try.underlying5, Try.underlying3, ↓g_assign, a6, b_mul, e4, ↓w_exit, ↓w_ret, ret_three, if_false, b_gtr, k6, idx_str, k3, Int.toNat_natCast, hin, and_self, hb, c_int, e2, b_rem, Int.reduceEq, e3, k5, decide_false, b_eql, k7, Bool.false_eq_true, e9, onB_false, b_shl, k4, bits_i64, e5, e6, e7, k8, k2, onB_true]
                try rfl
              · have k6 : ¬ (0 : Int) < i := by omega
                simp -implicitDefEqProofs only [↓w_seq, ↓w_region, ↓ops_cons, ↓g_move, ↓g_binOp, Nat.reduceLT, ev_tab, a7, upd_eq, ev_const, of_int, b_lss, k1, decide_true, onS_some, yielded_tab, dstAt_s, dstAt_0, ybv_some, boolOf_b, ↓g_guard_t, ne_eq, Nat.reduceEqDiff, not_false_eq_true, upd_ne, a5, b_add, e1, reduceCtorEq, a4, ↓g_len, Try.underlying9, len_str, ↓g_pick, of_bool, pick_b, if_true, ↓ops_nil, ↓w_cond, ↓w_skip, ↓w_block, ↓g_index, ↓g_convert, Try.underlying5, Try.underlying3, ↓g_assign, a6, b_mul, e4, ↓w_exit, ↓w_ret, ret_three, if_false, b_gtr, k6, decide_false, Bool.not_true, ↓g_guard_f, Bool.false_eq_true, e9, idx_str, k3, Int.toNat_natCast, hin, and_self, hb, c_int, e2, b_rem, Int.reduceEq, e3, k5, onB_false, b_shl, k4, bits_i64, e5, e6, e7, k8, k2, onB_true]
                try rfl
      · have k2 : ¬ ((a + i : Nat) : Int) < z.size := by omega
        rw [if_neg hin] at a3
        subst a3
        simp -implicitDefEqProofs only [↓w_seq, ↓w_region, ↓ops_cons, ↓g_move, ↓g_binOp, Nat.reduceLT, ev_tab, a7, upd_eq, ev_const, of_int, b_lss, k1, decide_true, onS_some, yielded_tab, dstAt_s, dstAt_0, ybv_some, boolOf_b, ↓g_guard_t, ne_eq, Nat.reduceEqDiff, not_false_eq_true, upd_ne, a5, b_add, e1, reduceCtorEq, a4, ↓g_len, Try.underlying9, len_str, ↓g_pick, of_bool, pick_b, if_true, ↓ops_nil, ↓w_cond, ↓w_skip, ↓w_block, ↓g_index, ↓g_convert, Try.underlying5, Try.underlying3, ↓g_assign, a6, b_mul, ↓w_exit, ↓w_ret, ret_three, if_false, b_gtr, idx_str, onS_ite, c_int, b_rem, Int.reduceEq, onB_dec, b_shl, bits_i64, onS_not, k2, decide_false, onB_false]
        try rfl
    · have k1 : ¬ (i : Int) < 5 := by omega
      have hi5 : i = 5 := by omega
      subst hi5
      have hRn : R = none := a3.symm
      subst hRn
      simp -implicitDefEqProofs only [↓w_seq, ↓w_region, Nat.reduceSub, ↓ops_cons, ↓g_move, ↓g_binOp, Nat.reduceLT, ev_tab, a7, Int.cast_ofNat_Int, upd_eq, ev_const, of_int, b_lss, Int.reduceLT, decide_false, onS_some, yielded_tab, dstAt_s, dstAt_0, ybv_some, boolOf_b, Bool.not_true, ↓g_guard_f, ne_eq, Nat.reduceEqDiff, not_false_eq_true, upd_ne, ↓g_pick, of_bool, pick_b, Bool.false_eq_true, if_false, ↓ops_nil, ↓w_cond, ↓w_skip, ↓w_block, reduceCtorEq, a4, a5, b_add, ↓g_index, Try.underlying9, ↓g_convert, Try.underlying5, Try.underlying3, ↓g_assign, a6, b_mul, Int.reduceMul, ↓w_exit, Int.reduceAdd, ↓w_ret, ret_three, if_true, b_gtr, decide_true, ↓g_guard_t, idx_str, onS_ite, c_int, b_rem, Int.reduceEq, b_eql, onB_dec, b_shl, bits_i64, onS_not, onB_false]
      try rfl
  · refine ⟨_, _, 0, rfl, by omega, by decide, hR, ?_, ?_, ?_, ?_⟩ <;> simp -implicitDefEqProofs only [ne_eq, reduceCtorEq, not_false_eq_true, upd_ne, par0, Nat.reduceEqDiff, par1, upd_eq, Int.cast_ofNat_Int] <;> rfl
end Go.Proofs.Ytheeehbaholjmaa.Sim

