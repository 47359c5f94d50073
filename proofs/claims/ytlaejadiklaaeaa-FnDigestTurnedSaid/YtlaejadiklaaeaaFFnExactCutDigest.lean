/- FnExactCutDigest: the law returns true. -/
import Derived.Test.YtlaejadiklaaeaaFDigI
import Derived.Test.YtlaejadiklaaeaaFDigS
namespace Go.Proofs.Ytlaejadiklaaeaa.Sim
open Go
set_option maxRecDepth 100000
set_option linter.unusedSimpArgs false
set_option linter.unusedVariables false
def cutD (z : ByteArray) (n : Int) : ByteArray := if 1 ≤ n ∧ n ≤ 32 then (dig z).extract 0 n.toNat else ByteArray.empty
theorem cdS (z : ByteArray) (n : Int) (hz : z.size ≤ 1000000000) : Fn Try.prog 22 [.sc (.string z), .sc (.int .i64 n)] (.sc (.string (cutD z n))) := by
  refine Fn.run 12 [.tmp 4] Try.func22 rfl rfl rfl rfl (by simp) (flats_cons (.sc _) (flats_cons (.sc _) flats_nil)) (.sc _) ?_
  simp -implicitDefEqProofs only [↓w_seq, ↓w_region, ↓ops_cons, ↓g_assign, ↓ops_nil, ev_const, of_str, ↓g_move, Nat.reduceLT, ev_tab, ne_eq, Nat.reduceEqDiff, not_false_eq_true, upd_ne, par1]
  refine call1 (by simp -implicitDefEqProofs only [List.map_cons, Nat.reduceLT, ev_tab, upd_eq, ev_const, of_int, List.map_nil] <;> rfl) (inS n 1 32) ?_
  by_cases h : 1 ≤ n ∧ n ≤ 32
  · have hd : decide (1 ≤ n ∧ n ≤ 32) = true := decide_eq_true h
    rw [hd]
    simp -implicitDefEqProofs only [↓ops_cons, ↓g_unOp, Nat.reduceLT, ev_tab, upd_eq, u_not, Bool.not_true, Option.map_some, ↓ops_nil, ↓w_cond, ↓w_seq, ↓w_region, ↓g_assign, ↓w_ret, ev_const, of_str, ret_one, ↓w_skip, ↓g_move, ne_eq, reduceCtorEq, not_false_eq_true, upd_ne, par0, onS_some, onB_false]
    refine call1 (by simp -implicitDefEqProofs only [List.map_cons, Nat.reduceLT, ev_tab, upd_eq, List.map_nil] <;> rfl) (digS z hz) ?_
    have k0 : 0 ≤ n := by omega
    have k1 : n.toNat ≤ 32 := by omega
    simp -implicitDefEqProofs only [↓ops_cons, ↓g_move, ↓g_slice, Try.underlying9, Nat.reduceLT, ev_tab, ne_eq, Nat.reduceEqDiff, not_false_eq_true, upd_ne, par1, upd_eq, Option.map_none, Option.map_some, cut_str, bnd_none, dig_size, bnd_int, k0, if_true, cutS_some, Nat.zero_le, k1, and_self, ↓g_assign, ↓ops_nil, ↓w_ret, ret_one, onS_some]
    rw [cutD, if_pos h]
  · have hd : decide (1 ≤ n ∧ n ≤ 32) = false := decide_eq_false h
    rw [hd]
    simp -implicitDefEqProofs only [↓ops_cons, ↓g_unOp, Nat.reduceLT, ev_tab, upd_eq, u_not, Bool.not_false, Option.map_some, ↓ops_nil, ↓w_cond, ↓w_seq, ↓w_region, ↓g_assign, ↓w_ret, ev_const, of_str, ret_one, ↓w_skip, ↓g_move, ne_eq, reduceCtorEq, not_false_eq_true, upd_ne, par0, onS_some, onB_true]
    rw [cutD, if_neg h]
    rfl
theorem cdI (z : ByteArray) (n : Int) (hz : z.size ≤ 1000000000) : Fn Try.prog 23 [.sc (.string z), .sc (.int .i64 n)] (.sc (.string (cutD z n))) := by
  refine Fn.run 12 [.tmp 4] Try.func23 rfl rfl rfl rfl (by simp) (flats_cons (.sc _) (flats_cons (.sc _) flats_nil)) (.sc _) ?_
  simp -implicitDefEqProofs only [↓w_seq, ↓w_region, ↓ops_cons, ↓g_assign, ↓ops_nil, ev_const, of_str, ↓g_move, Nat.reduceLT, ev_tab, ne_eq, Nat.reduceEqDiff, not_false_eq_true, upd_ne, par1]
  refine call1 (by simp -implicitDefEqProofs only [List.map_cons, Nat.reduceLT, ev_tab, upd_eq, ev_const, of_int, List.map_nil] <;> rfl) (inI n 1 32) ?_
  by_cases h : 1 ≤ n ∧ n ≤ 32
  · have hd : decide (1 ≤ n ∧ n ≤ 32) = true := decide_eq_true h
    rw [hd]
    simp -implicitDefEqProofs only [↓ops_cons, ↓g_unOp, Nat.reduceLT, ev_tab, upd_eq, u_not, Bool.not_true, Option.map_some, ↓ops_nil, ↓w_cond, ↓w_seq, ↓w_region, ↓g_assign, ↓w_ret, ev_const, of_str, ret_one, ↓w_skip, ↓g_move, ne_eq, reduceCtorEq, not_false_eq_true, upd_ne, par0, onS_some, onB_false]
    refine call1 (by simp -implicitDefEqProofs only [List.map_cons, Nat.reduceLT, ev_tab, upd_eq, List.map_nil] <;> rfl) (digI z hz) ?_
    have k0 : 0 ≤ n := by omega
    have k1 : n.toNat ≤ 32 := by omega
    simp -implicitDefEqProofs only [↓ops_cons, ↓g_move, ↓g_slice, Try.underlying9, Nat.reduceLT, ev_tab, ne_eq, Nat.reduceEqDiff, not_false_eq_true, upd_ne, par1, upd_eq, Option.map_none, Option.map_some, cut_str, bnd_none, dig_size, bnd_int, k0, if_true, cutS_some, Nat.zero_le, k1, and_self, ↓g_assign, ↓ops_nil, ↓w_ret, ret_one, onS_some]
    rw [cutD, if_pos h]
  · have hd : decide (1 ≤ n ∧ n ≤ 32) = false := decide_eq_false h
    rw [hd]
    simp -implicitDefEqProofs only [↓ops_cons, ↓g_unOp, Nat.reduceLT, ev_tab, upd_eq, u_not, Bool.not_false, Option.map_some, ↓ops_nil, ↓w_cond, ↓w_seq, ↓w_region, ↓g_assign, ↓w_ret, ev_const, of_str, ret_one, ↓w_skip, ↓g_move, ne_eq, reduceCtorEq, not_false_eq_true, upd_ne, par0, onS_some, onB_true]
    rw [cutD, if_neg h]
    rfl
theorem lawFnExactCutDigest (a0 : ByteArray) (a1 : Int) (w0 : a0.size ≤ 140737488351232) (w1 : (Lit.int .i64 a1).wf = true) : Fn Try.prog 6 [.sc (.string a0), .sc (.int .i64 a1)] (.sc (.bool true)) := by
  refine Fn.run 19 [.tmp 4] Try.func6 rfl rfl rfl rfl (by simp) (flats_cons (.sc _) (flats_cons (.sc _) flats_nil)) (.sc _) ?_
  simp -implicitDefEqProofs only [↓w_seq, ↓w_region, ↓ops_cons, ↓g_assign, ↓ops_nil, ev_const, of_bool, ↓g_move, ↓g_len, Try.underlying9, Nat.reduceLT, ev_tab, ne_eq, reduceCtorEq, not_false_eq_true, upd_ne, par0, upd_eq, len_str, ↓g_binOp, of_int, ↓w_cond, ↓w_ret, ret_one, ↓w_skip, Nat.reduceEqDiff, par1, onS_some, b_gtr, onB_dec]
  split
  · trivial
  · refine call1 (by simp -implicitDefEqProofs only [List.map_cons, Nat.reduceLT, ev_tab, ne_eq, Nat.reduceEqDiff, not_false_eq_true, upd_ne, upd_eq, List.map_nil] <;> rfl) (cdS a0 a1 (by omega)) ?_
    simp -implicitDefEqProofs only [↓ops_cons, ↓g_assign, ↓ops_nil, ↓w_seq, ↓w_region, Nat.reduceLT, ev_tab, upd_eq, ↓g_move, ne_eq, reduceCtorEq, not_false_eq_true, upd_ne, par0, Nat.reduceEqDiff, par1]
    refine call1 (by simp -implicitDefEqProofs only [List.map_cons, Nat.reduceLT, ev_tab, ne_eq, Nat.reduceEqDiff, not_false_eq_true, upd_ne, upd_eq, List.map_nil] <;> rfl) (cdI a0 a1 (by omega)) ?_
    simp -implicitDefEqProofs only [↓ops_cons, ↓g_assign, ↓ops_nil, ↓w_seq, ↓w_region, Nat.reduceLT, ev_tab, upd_eq, ↓g_move, ↓g_binOp, ne_eq, Nat.reduceEqDiff, not_false_eq_true, upd_ne, t_neq, beq_self_eq_true, Bool.not_true, ↓w_cond, ↓w_ret, ev_const, of_bool, ret_one, ↓w_skip, onS_some, onB_false]
end Go.Proofs.Ytlaejadiklaaeaa.Sim

