/- HideNumber: the law returns true. -/
import Derived.Test.YtbmadanfpicmiaaFHide
namespace Go.Proofs.Ytbmadanfpicmiaa.Sim
open Go
set_option maxRecDepth 100000
set_option maxHeartbeats 4000000
set_option linter.unusedSimpArgs false
set_option linter.unusedVariables false
theorem lawFnExactHideNumber (a0 : ByteArray) (a1 : Int) (a2 : ByteArray) (w0 : a0.size ≤ 140737488351232) (w1 : (Lit.int .i64 a1).wf = true) (w2 : a2.size ≤ 140737488351232) : Fn Try.prog 8 [.sc (.string a0), .sc (.int .i64 a1), .sc (.string a2)] (.sc (.bool true)) := by
  refine Fn.run 39 [.tmp 6] Try.func8 rfl rfl rfl rfl (by simp) (flats_cons (.sc _) (flats_cons (.sc _) (flats_cons (.sc _) flats_nil))) (.sc _) ?_
  simp -implicitDefEqProofs only [↓w_seq, ↓w_region, ↓ops_cons, ↓g_assign, ↓ops_nil, ev_const, of_bool, ↓g_move, ↓g_len, Try.underlying9, Nat.reduceLT, ev_tab, ne_eq, reduceCtorEq, not_false_eq_true, upd_ne, par0, upd_eq, len_str, ↓g_binOp, of_int, ↓w_cond, ↓w_ret, ret_one, ↓w_skip, Nat.reduceEqDiff, par2, par1, onS_some, b_gtr, onB_dec]
  split
  · trivial
  · split
    · trivial
    · have hS := hidS a0 a1 a2 (by omega)
      have hI := hidI a0 a1 a2 (by omega)
      obtain ⟨z, b, hz⟩ := hidV_pair a0 a1 a2
      rw [hz] at hS hI
      refine call1 (by simp -implicitDefEqProofs only [List.map_cons, Nat.reduceLT, ev_tab, ne_eq, Nat.reduceEqDiff, not_false_eq_true, upd_ne, upd_eq, List.map_nil] <;> rfl) hS ?_
      simp -implicitDefEqProofs only [↓ops_cons, ↓g_move, ↓g_extract, Nat.reduceLT, ev_tab, upd_eq, ext_0, ne_eq, Nat.reduceEqDiff, not_false_eq_true, upd_ne, ext_1, ↓g_assign, ↓ops_nil, ↓w_seq, ↓w_region, reduceCtorEq, par0, par1, par2, onS_some]
      refine call1 (by simp -implicitDefEqProofs only [List.map_cons, Nat.reduceLT, ev_tab, ne_eq, Nat.reduceEqDiff, not_false_eq_true, upd_ne, upd_eq, List.map_nil] <;> rfl) hI ?_
      simp -implicitDefEqProofs only [↓ops_cons, ↓g_move, ↓g_extract, Nat.reduceLT, ev_tab, upd_eq, ext_0, ne_eq, Nat.reduceEqDiff, not_false_eq_true, upd_ne, ext_1, ↓g_assign, ↓ops_nil, ↓w_seq, ↓w_region, ↓g_binOp, onS_some, b_neq, decide_true, Bool.not_true, yielded_tab, dstAt_s, dstAt_0, ybv_some, boolOf_b, ↓g_guard_t, Try.underlying4, v_neq, beq_self_eq_true, ↓g_pick, ev_const, of_bool, pick_b, reduceCtorEq, if_false, ↓w_cond, ↓w_ret, ret_one, ↓w_skip, onB_false]
end Go.Proofs.Ytbmadanfpicmiaa.Sim

