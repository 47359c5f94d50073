/- AckList: the law returns true. -/
import Derived.Test.YtcjjcpdfnndenaaFAck
import Derived.Test.YtcjjcpdfnndenaaFToInts
import Derived.Test.YtcjjcpdfnndenaaFLawInts
import Derived.Test.YtcjjcpdfnndenaaFEntry
namespace Go.Proofs.Ytcjjcpdfnndenaa.Sim
open Go
set_option maxRecDepth 100000
set_option maxHeartbeats 4000000
set_option linter.unusedSimpArgs false
set_option linter.unusedVariables false
theorem lawFnExactAckList (H : AHeap) (x : AV) (l : List Int) (hx : IsL H x .i64 l) : ∃ H', Sound Try.prog 3 [x] H (.sc (.bool true)) H' := by
  have key : ∃ v H', Sound Try.prog 3 [x] H v H' ∧ v = .sc (.bool true) := by
    refine Sound.runP (args := [x]) 37 [.tmp 2] Try.func3 rfl rfl rfl rfl (by simp) (fun v Z => v = .sc (.bool true)) ?_
    have lx := fun e => hx.len e
    simp -implicitDefEqProofs only [↓w_seq, ↓w_region, ↓ops_cons, ↓g_assign, ↓ops_nil, ev_const, of_bool, ↓g_move, ↓g_len, Try.underlying22, Nat.reduceLT, ev_tab, ne_eq, reduceCtorEq, not_false_eq_true, upd_ne, par0, upd_eq, lx, ↓g_binOp, of_int, ↓w_cond, ↓w_ret, retP_1, res_tmp, onS_some, ↓w_skip, b_gtr, onB_dec]
    split
    · trivial
    · rename_i h
      have hl : l.length ≤ 1048576 := by omega
      have hx1 : ∀ g, IsL (H ++ [g]) x .i64 l := fun g => by
        rcases hx with ⟨rfl, rfl⟩ | ⟨r, o, rfl, hr⟩
        · exact .nil _ _
        · exact .inr ⟨r, o, rfl, (at_more H _ r (List.getElem?_eq_some_iff.1 hr).1).trans hr⟩
      have hx2 : ∀ g g2, IsL ((H ++ [g]) ++ [g2]) x .i64 l := fun g g2 => by
        rcases hx1 g with ⟨rfl, rfl⟩ | ⟨r, o, rfl, hr⟩
        · exact .nil _ _
        · exact .inr ⟨r, o, rfl, (at_more _ _ r (List.getElem?_eq_some_iff.1 hr).1).trans hr⟩
      have q1 : ∀ g : Reg, (((H ++ [g]) ++ [g]) ++ [g])[H.length + 1]? = some g := fun g => by rw [at_more _ _ _ (by simp), at_b]
      have q2 : ∀ g : Reg, (((H ++ [g]) ++ [g]) ++ [g])[H.length + 1 + 1]? = some g := fun g => by
        have := at_end ((H ++ [g]) ++ [g]) g
        rwa [show ((H ++ [g]) ++ [g]).length = H.length + 1 + 1 by simp] at this
      refine call1S (by simp -implicitDefEqProofs only [List.map_cons, Nat.reduceLT, ev_tab, upd_eq, List.map_nil] <;> rfl) (toIntsS hx (by omega)) ?_
      simp -implicitDefEqProofs only [↓ops_cons]
      by_cases hU : UpL l ∧ l.length ≤ 100
      · refine call1S (by simp -implicitDefEqProofs only [List.map_cons, Nat.reduceLT, ev_tab, upd_eq, List.map_nil] <;> rfl) (ackS hU.1 hU.2 (.mk (at_end _ _))) ?_
        simp -implicitDefEqProofs only [↓ops_cons, ↓g_move, ↓g_extract, Nat.reduceLT, ev_tab, upd_eq, ext_0, ne_eq, Nat.reduceEqDiff, not_false_eq_true, upd_ne, ext_1, ↓g_assign, ↓ops_nil, ↓w_seq, ↓w_region, reduceCtorEq, par0, onS_some]
        refine call1S (by simp -implicitDefEqProofs only [List.map_cons, Nat.reduceLT, ev_tab, upd_eq, List.map_nil] <;> rfl) (toIntsS (hx1 _) (by omega)) ?_
        simp -implicitDefEqProofs only [↓ops_cons, ↓g_assign, ↓ops_nil, ↓w_seq, ↓w_region, List.length_append, List.length_cons, List.length_nil, Nat.zero_add, Nat.reduceLT, ev_tab, upd_eq, ↓g_move]
        refine call1S (by simp -implicitDefEqProofs only [List.map_cons, Nat.reduceLT, ev_tab, upd_eq, List.map_nil] <;> rfl) (ackI hU.1 hU.2 (.mk (at_b _ _ _))) ?_
        simp -implicitDefEqProofs only [↓ops_cons, ↓g_move, ↓g_extract, Nat.reduceLT, ev_tab, upd_eq, ext_0, ne_eq, Nat.reduceEqDiff, not_false_eq_true, upd_ne, ext_1, ↓g_assign, ↓ops_nil, ↓w_seq, ↓w_region, ↓g_binOp, onS_some, t_neq, beq_self_eq_true, Bool.not_true, yielded_tab, dstAt_s, dstAt_0, ybv_some, boolOf_b, ↓g_guard_t, Try.underlying4, v_neq, ↓g_pick, ev_const, of_bool, pick_b, reduceCtorEq, if_false, ↓w_cond, ↓w_ret, retP_1, res_tmp, ↓w_skip, par0, onB_false]
        refine call1S (by simp -implicitDefEqProofs only [List.map_cons, Nat.reduceLT, ev_tab, upd_eq, List.map_nil] <;> rfl) (toIntsS (hx2 _ _) (by omega)) ?_
        simp -implicitDefEqProofs only [↓ops_cons, List.length_append, List.length_cons, List.length_nil, Nat.zero_add]
        refine call1S (by simp -implicitDefEqProofs only [List.map_cons, Nat.reduceLT, ev_tab, ne_eq, Nat.reduceEqDiff, not_false_eq_true, upd_ne, upd_eq, List.map_nil] <;> rfl) (eqS (.mk (q1 _)) (.mk (q2 _)) (by omega) (by omega)) ?_
        simp -implicitDefEqProofs only [↓ops_cons, ↓g_unOp, decide_true, Nat.reduceLT, ev_tab, upd_eq, u_not, Bool.not_true, Option.map_some, ↓ops_nil, ↓w_cond, ↓w_seq, ↓w_region, ↓g_assign, ↓w_ret, ev_const, of_bool, retP_1, res_tmp, onS_some, ↓w_skip, onB_false]
      · refine call1S (by simp -implicitDefEqProofs only [List.map_cons, Nat.reduceLT, ev_tab, upd_eq, List.map_nil] <;> rfl) (ackNoS hU (by omega) (.mk (at_end _ _))) ?_
        simp -implicitDefEqProofs only [↓ops_cons, ↓g_move, ↓g_extract, Nat.reduceLT, ev_tab, upd_eq, ext_0, ne_eq, Nat.reduceEqDiff, not_false_eq_true, upd_ne, ext_1, ↓g_assign, ↓ops_nil, ↓w_seq, ↓w_region, reduceCtorEq, par0, onS_some]
        refine call1S (by simp -implicitDefEqProofs only [List.map_cons, Nat.reduceLT, ev_tab, upd_eq, List.map_nil] <;> rfl) (toIntsS (hx1 _) (by omega)) ?_
        simp -implicitDefEqProofs only [↓ops_cons, ↓g_assign, ↓ops_nil, ↓w_seq, ↓w_region, List.length_append, List.length_cons, List.length_nil, Nat.zero_add, Nat.reduceLT, ev_tab, upd_eq, ↓g_move]
        refine call1S (by simp -implicitDefEqProofs only [List.map_cons, Nat.reduceLT, ev_tab, upd_eq, List.map_nil] <;> rfl) (ackNoI hU (by omega) (.mk (at_b _ _ _))) ?_
        simp -implicitDefEqProofs only [↓ops_cons, ↓g_move, ↓g_extract, Nat.reduceLT, ev_tab, upd_eq, ext_0, ne_eq, Nat.reduceEqDiff, not_false_eq_true, upd_ne, ext_1, ↓g_assign, ↓ops_nil, ↓w_seq, ↓w_region, ↓g_binOp, onS_some, t_neq, beq_self_eq_true, Bool.not_true, yielded_tab, dstAt_s, dstAt_0, ybv_some, boolOf_b, ↓g_guard_t, Try.underlying4, v_neq, ↓g_pick, ev_const, of_bool, pick_b, reduceCtorEq, if_false, ↓w_cond, ↓w_ret, retP_1, res_tmp, ↓w_skip, par0, onB_false]
        refine call1S (by simp -implicitDefEqProofs only [List.map_cons, Nat.reduceLT, ev_tab, upd_eq, List.map_nil] <;> rfl) (toIntsS (hx2 _ _) (by omega)) ?_
        simp -implicitDefEqProofs only [↓ops_cons, List.length_append, List.length_cons, List.length_nil, Nat.zero_add]
        refine call1S (by simp -implicitDefEqProofs only [List.map_cons, Nat.reduceLT, ev_tab, ne_eq, Nat.reduceEqDiff, not_false_eq_true, upd_ne, upd_eq, List.map_nil] <;> rfl) (eqS (.mk (q1 _)) (.mk (q2 _)) (by omega) (by omega)) ?_
        simp -implicitDefEqProofs only [↓ops_cons, ↓g_unOp, decide_true, Nat.reduceLT, ev_tab, upd_eq, u_not, Bool.not_true, Option.map_some, ↓ops_nil, ↓w_cond, ↓w_seq, ↓w_region, ↓g_assign, ↓w_ret, ev_const, of_bool, retP_1, res_tmp, onS_some, ↓w_skip, onB_false]
  obtain ⟨v, H', h1, rfl⟩ := key
  exact ⟨H', h1⟩
end Go.Proofs.Ytcjjcpdfnndenaa.Sim

