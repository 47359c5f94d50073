/- A key made longer. -/
import Derived.Test.YtjpgddjhfaoplaaFHmac
import Derived.Test.YtjpgddjhfaoplaaFIn
namespace Go.Proofs.Ytjpgddjhfaoplaa.Sim
open Go
set_option maxRecDepth 100000
set_option maxHeartbeats 4000000
set_option linter.unusedSimpArgs false
set_option linter.unusedVariables false
def lastK (k f : ByteArray) : Nat → ByteArray
  | 0 => ByteArray.empty
  | i + 1 => hmac k (lastK k f i ++ f ++ strOfNums (hiL ((i + 1 : Nat) : Int) 1))
def outK (k f : ByteArray) : Nat → ByteArray
  | 0 => ByteArray.empty
  | i + 1 => outK k f i ++ lastK k f (i + 1)
theorem lastK_size (k f : ByteArray) : ∀ i, (lastK k f i).size ≤ 32
  | 0 => by simp [lastK]
  | i + 1 => by rw [lastK, hmac_size]; omega
theorem lastK_s (k f : ByteArray) (i : Nat) : (lastK k f (i + 1)).size = 32 := by rw [lastK, hmac_size]
theorem outK_size (k f : ByteArray) : ∀ i, (outK k f i).size = 32 * i
  | 0 => rfl
  | i + 1 => by rw [outK, ByteArray.size_append, outK_size k f i, lastK_s]; omega
def expT (k f : ByteArray) (n : Int) : ByteArray := (outK k f ((n.toNat + 31) / 32)).extract 0 n.toNat
def expV (k f : ByteArray) (n : Int) : AV := if 0 ≤ n ∧ n ≤ 8160 then .tup [.sc (.string (expT k f n)), .sc (.bool true)] else .tup [.sc (.string ByteArray.empty), .sc (.bool false)]
theorem expV_flat (k f : ByteArray) (n : Int) : Flat (expV k f n) := by
  unfold expV
  split <;> exact .tup (flats_cons (.sc _) (flats_cons (.sc _) flats_nil))
/-- A pair comes apart and is put together again. -/
theorem expV_pair (k f : ByteArray) (n : Int) : ∃ (z : ByteArray) (b : Bool), expV k f n = .tup [.sc (.string z), .sc (.bool b)] := by
  unfold expV
  split
  · exact ⟨_, _, rfl⟩
  · exact ⟨_, _, rfl⟩
theorem emp : (⟨#[]⟩ : ByteArray) = ByteArray.empty := rfl
theorem expI (k f : ByteArray) (n : Int) (hk : k.size ≤ 800000000) (hf : f.size ≤ 800000000) : Fn Try.prog 12 [.sc (.string k), .sc (.string f), .sc (.int .i64 n)] (expV k f n) := by
  refine Fn.run 34 [.tmp 6, .tmp 7] Try.func12 rfl rfl rfl rfl (by simp) (flats_cons (.sc _) (flats_cons (.sc _) (flats_cons (.sc _) flats_nil))) (expV_flat _ _ _) ?_
  simp -implicitDefEqProofs only [↓w_seq, ↓w_region, ↓ops_cons, ↓g_assign, ↓ops_nil, ev_const, of_str, of_bool, ↓g_move, Nat.reduceLT, ev_tab, ne_eq, Nat.reduceEqDiff, not_false_eq_true, upd_ne, par2]
  refine call1 (by simp -implicitDefEqProofs only [List.map_cons, Nat.reduceLT, ev_tab, upd_eq, ev_const, of_int, List.map_nil] <;> rfl) (inI n 0 8160) ?_
  by_cases h : 0 ≤ n ∧ n ≤ 8160
  · rw [decide_eq_true h, expV, if_pos h]
    simp -implicitDefEqProofs only [↓ops_cons, ↓g_unOp, Nat.reduceLT, ev_tab, upd_eq, u_not, Bool.not_true, Option.map_some, ↓ops_nil, ↓w_cond, ↓w_seq, ↓w_region, ↓g_assign, ↓w_ret, ev_const, of_str, of_bool, ret_two, ne_eq, Nat.reduceEqDiff, not_false_eq_true, upd_ne, ↓w_skip, ↓w_block, of_int, onS_some, onB_false]
    refine w_loop (ι := Nat) (fun i s => ∃ (T : Nat → AV) (G : AHeap), s = ⟨tab 34 T, G⟩ ∧ i ≤ (n.toNat + 31) / 32 ∧ T 0 = .sc (.string k) ∧ T 1 = .sc (.string f) ∧ T 2 = .sc (.int .i64 n) ∧ T 8 = .sc (.string (outK k f i)) ∧ T 9 = .sc (.string (lastK k f i)) ∧ T 10 = .sc (.int .i64 ((i + 1 : Nat) : Int))) (fun i => (n.toNat + 31) / 32 - i) ?_ (i := 0) ?_
    · rintro i s ⟨T, G, rfl, a1, a2, a3, a4, a5, a6, a7⟩
      have ho := outK_size k f i
      have hl := lastK_size k f i
      by_cases hi : 32 * i < n.toNat
      · have k1 : ((outK k f i).size : Int) < n := by omega
        have hx : (lastK k f i ++ f).size = (lastK k f i).size + f.size := ByteArray.size_append ..
        have e1 : IntKind.i64.wrap (((i + 1 : Nat) : Int) + 1) = ((i + 1 + 1 : Nat) : Int) := by rw [w64 (by omega) (by omega)]; omega
        simp -implicitDefEqProofs only [↓w_seq, ↓w_region, ↓ops_cons, ↓g_move, ↓g_len, Try.underlying9, Nat.reduceLT, ev_tab, a5, upd_eq, len_str, ↓g_binOp, ne_eq, Nat.reduceEqDiff, not_false_eq_true, upd_ne, a4, ↓ops_nil, ↓w_cond, ↓w_skip, ↓w_block, reduceCtorEq, a2, a6, a3, t_add, a7, onS_ite, ↓w_exit, ↓g_slice, Option.map_none, Option.map_some, cut_str, bnd_none, bnd_int, ↓g_assign, ↓w_ret, ev_const, of_bool, ret_two, if_true, onS_some, b_lss, k1, decide_true, onB_true]
        refine ⟨by omega, ?_⟩
        refine call1 (by simp -implicitDefEqProofs only [List.map_cons, Nat.reduceLT, ev_tab, upd_eq, ev_const, of_int, List.map_nil, Int.cast_ofNat_Int] <;> rfl) (highFirst ((i + 1 : Nat) : Int) 1 (by omega) (by omega) (by decide)) ?_
        simp -implicitDefEqProofs only [↓ops_cons, ↓g_binOp, Nat.reduceLT, ev_tab, ne_eq, Nat.reduceEqDiff, not_false_eq_true, upd_ne, upd_eq, t_add, hx, son_size, hiL_len, Nat.reduceLeDiff, onS_ite]
        refine ⟨by omega, ?_⟩
        refine call1 (by simp -implicitDefEqProofs only [List.map_cons, Nat.reduceLT, ev_tab, ne_eq, Nat.reduceEqDiff, not_false_eq_true, upd_ne, upd_eq, List.map_nil] <;> rfl) (hmacI k _ (by omega) (by rw [ByteArray.size_append, hx, son_size, hiL_len]; omega)) ?_
        have hls := lastK_s k f i
        rw [lastK] at hls
        simp -implicitDefEqProofs only [↓ops_cons, ↓g_assign, ↓ops_nil, ↓w_region, Nat.reduceLT, ev_tab, upd_eq, ↓g_move, ↓g_binOp, ne_eq, Nat.reduceEqDiff, not_false_eq_true, upd_ne, a5, t_add, hls, Nat.reduceLeDiff, a7, ev_const, of_int, b_add, e1, onS_some, onS_ite]
        refine ⟨by omega, i + 1, by omega, _, _, rfl, by omega, ?_, ?_, ?_, ?_, ?_, ?_⟩ <;> simp -implicitDefEqProofs only [ne_eq, reduceCtorEq, not_false_eq_true, upd_ne, a2, Nat.reduceEqDiff, a3, a4, upd_eq] <;> rfl
      · have k1 : ¬ ((outK k f i).size : Int) < n := by omega
        have hm : i = (n.toNat + 31) / 32 := by omega
        have k2 : 0 ≤ n := h.1
        have k3 : n.toNat ≤ (outK k f i).size := by omega
        simp -implicitDefEqProofs only [↓w_seq, ↓w_region, ↓ops_cons, ↓g_move, ↓g_len, Try.underlying9, Nat.reduceLT, ev_tab, a5, upd_eq, len_str, ↓g_binOp, ne_eq, Nat.reduceEqDiff, not_false_eq_true, upd_ne, a4, ↓ops_nil, ↓w_cond, ↓w_skip, ↓w_block, reduceCtorEq, a2, a6, a3, t_add, a7, onS_ite, ↓w_exit, ↓g_slice, Option.map_none, Option.map_some, cut_str, bnd_none, bnd_int, k2, if_true, cutS_some, Nat.zero_le, k3, and_self, ↓g_assign, ↓w_ret, ev_const, of_bool, ret_two, onS_some, b_lss, k1, decide_false, onB_false]
        rw [expT, ← hm]
    · refine ⟨_, _, rfl, by omega, ?_, ?_, ?_, ?_, ?_, ?_⟩ <;> simp -implicitDefEqProofs only [ne_eq, reduceCtorEq, not_false_eq_true, upd_ne, par0, Nat.reduceEqDiff, par1, par2, upd_eq, Nat.zero_add, Int.cast_ofNat_Int] <;> rfl
  · rw [decide_eq_false h, expV, if_neg h]
    simp -implicitDefEqProofs only [↓ops_cons, ↓g_unOp, Nat.reduceLT, ev_tab, upd_eq, u_not, Bool.not_false, Option.map_some, ↓ops_nil, ↓w_cond, ↓w_seq, ↓w_region, ↓g_assign, ↓w_ret, ev_const, of_str, of_bool, ret_two, ne_eq, Nat.reduceEqDiff, not_false_eq_true, upd_ne, ↓w_skip, ↓w_block, of_int, onS_some, onB_true]
    rfl
theorem expS (k f : ByteArray) (n : Int) (hk : k.size ≤ 800000000) (hf : f.size ≤ 800000000) : Fn Try.prog 16 [.sc (.string k), .sc (.string f), .sc (.int .i64 n)] (expV k f n) := by
  refine Fn.run 36 [.tmp 6, .tmp 7] Try.func16 rfl rfl rfl rfl (by simp) (flats_cons (.sc _) (flats_cons (.sc _) (flats_cons (.sc _) flats_nil))) (expV_flat _ _ _) ?_
  simp -implicitDefEqProofs only [↓w_seq, ↓w_region, ↓ops_cons, ↓g_assign, ↓ops_nil, ev_const, of_str, of_bool, ↓g_move, Nat.reduceLT, ev_tab, ne_eq, Nat.reduceEqDiff, not_false_eq_true, upd_ne, par2]
  refine call1 (by simp -implicitDefEqProofs only [List.map_cons, Nat.reduceLT, ev_tab, upd_eq, ev_const, of_int, List.map_nil] <;> rfl) (inS n 0 8160) ?_
  by_cases h : 0 ≤ n ∧ n ≤ 8160
  · rw [decide_eq_true h, expV, if_pos h]
    simp -implicitDefEqProofs only [↓ops_cons, ↓g_unOp, Nat.reduceLT, ev_tab, upd_eq, u_not, Bool.not_true, Option.map_some, ↓ops_nil, ↓w_cond, ↓w_seq, ↓w_region, ↓g_assign, ↓w_ret, ev_const, of_str, of_bool, ret_two, ne_eq, Nat.reduceEqDiff, not_false_eq_true, upd_ne, ↓w_skip, ↓w_block, of_int, onS_some, onB_false]
    refine w_loop (ι := Nat) (fun i s => ∃ (T : Nat → AV) (G : AHeap), s = ⟨tab 36 T, G⟩ ∧ i ≤ (n.toNat + 31) / 32 ∧ T 0 = .sc (.string k) ∧ T 1 = .sc (.string f) ∧ T 2 = .sc (.int .i64 n) ∧ T 8 = .sc (.string (outK k f i)) ∧ T 9 = .sc (.string (lastK k f i)) ∧ T 10 = .sc (.int .i64 ((i + 1 : Nat) : Int))) (fun i => (n.toNat + 31) / 32 - i) ?_ (i := 0) ?_
    · rintro i s ⟨T, G, rfl, a1, a2, a3, a4, a5, a6, a7⟩
      have ho := outK_size k f i
      have hl := lastK_size k f i
      by_cases hi : 32 * i < n.toNat
      · have k1 : ((outK k f i).size : Int) < n := by omega
        have hx : (lastK k f i ++ f).size = (lastK k f i).size + f.size := ByteArray.size_append ..
        have e1 : IntKind.i64.wrap (((i + 1 : Nat) : Int) + 1) = ((i + 1 + 1 : Nat) : Int) := by rw [w64 (by omega) (by omega)]; omega
        have e2 : IntKind.u8.wrap ((i + 1 : Nat) : Int) = ((i + 1 : Nat) : Int) % 256 := by rw [IntKind.wrap_u8]
        have e3 : [((i + 1 : Nat) : Int) % 256] = hiL ((i + 1 : Nat) : Int) 1 := rfl
        simp -implicitDefEqProofs only [↓w_seq, ↓w_region, ↓ops_cons, ↓g_move, ↓g_len, Try.underlying9, Nat.reduceLT, ev_tab, a5, upd_eq, len_str, ↓g_binOp, ne_eq, Nat.reduceEqDiff, not_false_eq_true, upd_ne, a4, ↓ops_nil, ↓w_cond, ↓w_skip, ↓w_block, reduceCtorEq, a2, a6, a3, t_add, ↓g_convert, Try.underlying3, Try.underlying5, a7, ↓g_buildSlice, Try.underlying22, List.map_cons, List.map_nil, c_int, e2, bs5_1, alK_some, ints_one, c_text, isU5, and_self, at_def, at_end, at_ints, Nat.zero_add, List.length_cons, List.length_nil, Nat.le_refl, List.drop_zero, List.take_succ_cons, List.take_zero, if_true, Option.bind_some, bytesA_ints, Option.map_some, onS_some, true_and, onS_ite, ↓w_exit, ↓g_slice, Option.map_none, cut_str, bnd_none, bnd_int, ↓g_assign, ↓w_ret, ev_const, of_bool, ret_two, b_lss, k1, decide_true, onB_true]
        refine ⟨by omega, ?_⟩
        try rw [e3]
        simp -implicitDefEqProofs only [hx, son_size, hiL_len, Nat.reduceLeDiff]
        refine ⟨by omega, ?_⟩
        refine call1 (by simp -implicitDefEqProofs only [List.map_cons, Nat.reduceLT, ev_tab, ne_eq, Nat.reduceEqDiff, not_false_eq_true, upd_ne, upd_eq, List.map_nil] <;> rfl) (hmacS k _ (by omega) (by rw [ByteArray.size_append, hx, son_size, hiL_len]; omega)) ?_
        have hls := lastK_s k f i
        rw [lastK] at hls
        simp -implicitDefEqProofs only [↓ops_cons, ↓g_assign, ↓ops_nil, ↓w_region, Nat.reduceLT, ev_tab, upd_eq, ↓g_move, ↓g_binOp, ne_eq, Nat.reduceEqDiff, not_false_eq_true, upd_ne, a5, t_add, hls, Nat.reduceLeDiff, a7, ev_const, of_int, b_add, e1, onS_some, onS_ite]
        refine ⟨by omega, i + 1, by omega, _, _, rfl, by omega, ?_, ?_, ?_, ?_, ?_, ?_⟩ <;> simp -implicitDefEqProofs only [ne_eq, reduceCtorEq, not_false_eq_true, upd_ne, a2, Nat.reduceEqDiff, a3, a4, upd_eq] <;> rfl
      · have k1 : ¬ ((outK k f i).size : Int) < n := by omega
        have hm : i = (n.toNat + 31) / 32 := by omega
        have k2 : 0 ≤ n := h.1
        have k3 : n.toNat ≤ (outK k f i).size := by omega
        simp -implicitDefEqProofs only [↓w_seq, ↓w_region, ↓ops_cons, ↓g_move, ↓g_len, Try.underlying9, Nat.reduceLT, ev_tab, a5, upd_eq, len_str, ↓g_binOp, ne_eq, Nat.reduceEqDiff, not_false_eq_true, upd_ne, a4, ↓ops_nil, ↓w_cond, ↓w_skip, ↓w_block, reduceCtorEq, a2, a6, a3, t_add, ↓g_convert, Try.underlying3, Try.underlying5, a7, ↓g_buildSlice, Try.underlying22, List.map_cons, List.map_nil, c_int, bs5_1, alK_some, ints_one, c_text, isU5, and_self, at_def, at_end, at_ints, Nat.zero_add, List.length_cons, List.length_nil, Nat.le_refl, List.drop_zero, List.take_succ_cons, List.take_zero, if_true, Option.bind_some, bytesA_ints, Option.map_some, onS_some, true_and, onS_ite, ↓w_exit, ↓g_slice, Option.map_none, cut_str, bnd_none, bnd_int, k2, cutS_some, Nat.zero_le, k3, ↓g_assign, ↓w_ret, ev_const, of_bool, ret_two, b_lss, k1, decide_false, onB_false]
        rw [expT, ← hm]
    · refine ⟨_, _, rfl, by omega, ?_, ?_, ?_, ?_, ?_, ?_⟩ <;> simp -implicitDefEqProofs only [ne_eq, reduceCtorEq, not_false_eq_true, upd_ne, par0, Nat.reduceEqDiff, par1, par2, upd_eq, Nat.zero_add, Int.cast_ofNat_Int] <;> rfl
  · rw [decide_eq_false h, expV, if_neg h]
    simp -implicitDefEqProofs only [↓ops_cons, ↓g_unOp, Nat.reduceLT, ev_tab, upd_eq, u_not, Bool.not_false, Option.map_some, ↓ops_nil, ↓w_cond, ↓w_seq, ↓w_region, ↓g_assign, ↓w_ret, ev_const, of_str, of_bool, ret_two, ne_eq, Nat.reduceEqDiff, not_false_eq_true, upd_ne, ↓w_skip, ↓w_block, of_int, onS_some, onB_true]
    rfl
end Go.Proofs.Ytjpgddjhfaoplaa.Sim

