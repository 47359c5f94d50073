/- ChaBlock: the law returns true. -/
import Derived.Test.YtbmadanfpicmiaaFChaBlkG
import Derived.Test.YtbmadanfpicmiaaFEntry
namespace Go.Proofs.Ytbmadanfpicmiaa.Sim
open Go
set_option maxRecDepth 100000
set_option maxHeartbeats 4000000
set_option linter.unusedSimpArgs false
set_option linter.unusedVariables false
theorem lawFnExactChaBlock (H : AHeap) (x : AV) (l : List Int) (hx : IsL H x .i64 l) : ∃ H', Sound Try.prog 6 [x] H (.sc (.bool true)) H' := by
  have key : ∃ v H', Sound Try.prog 6 [x] H v H' ∧ v = .sc (.bool true) := by
    refine Sound.runP (args := [x]) 24 [.tmp 2] Try.func6 rfl rfl rfl rfl (by simp) (fun v Z => v = .sc (.bool true)) ?_
    have lx := fun e => hx.len e
    simp -implicitDefEqProofs only [↓w_seq, ↓w_region, ↓ops_cons, ↓g_assign, ↓ops_nil, ev_const, of_bool, ↓g_move, ↓g_len, Try.underlying26, Nat.reduceLT, ev_tab, ne_eq, reduceCtorEq, not_false_eq_true, upd_ne, par0, upd_eq, lx, ↓g_binOp, of_int, ↓w_cond, ↓w_ret, retP_1, res_tmp, onS_some, ↓w_skip, b_gtr, onB_dec]
    split
    · trivial
    · rename_i h
      have hl : l.length ≤ 1048576 := by omega
      have hx1 : ∀ g, IsL (H ++ [g]) x .i64 l := fun g => by
        rcases hx with ⟨rfl, rfl⟩ | ⟨r, o, rfl, hr⟩
        · exact .nil _ _
        · exact .inr ⟨r, o, rfl, (at_more H _ r (List.getElem?_eq_some_iff.1 hr).1).trans hr⟩
      have hx2 : ∀ g g2, IsL ((H ++ [g]) ++ [g2]) x .i64 l := fun g g2 => by
        rcases hx1 g with ⟨rfl, rfl⟩ | ⟨r, o, rfl, hr⟩
        · exact .nil _ _
        · exact .inr ⟨r, o, rfl, (at_more _ _ r (List.getElem?_eq_some_iff.1 hr).1).trans hr⟩
      refine call1S (by simp -implicitDefEqProofs only [List.map_cons, Nat.reduceLT, ev_tab, upd_eq, List.map_nil] <;> rfl) (toIntsS hx (by omega)) ?_
      simp -implicitDefEqProofs only [↓ops_cons]
      refine call1S (by simp -implicitDefEqProofs only [List.map_cons, Nat.reduceLT, ev_tab, upd_eq, List.map_nil] <;> rfl) (blkGS (by omega) (at_end _ _)) ?_
      simp -implicitDefEqProofs only [↓ops_cons, ↓g_assign, ↓ops_nil, ↓w_seq, ↓w_region, Nat.reduceLT, ev_tab, upd_eq, ↓g_move, ne_eq, reduceCtorEq, not_false_eq_true, upd_ne, par0]
      refine call1S (by simp -implicitDefEqProofs only [List.map_cons, Nat.reduceLT, ev_tab, upd_eq, List.map_nil] <;> rfl) (toIntsS (hx1 _) (by omega)) ?_
      simp -implicitDefEqProofs only [↓ops_cons, ↓g_assign, ↓ops_nil, ↓w_seq, ↓w_region, List.length_append, List.length_cons, List.length_nil, Nat.zero_add, Nat.reduceLT, ev_tab, upd_eq, ↓g_move]
      refine call1S (by simp -implicitDefEqProofs only [List.map_cons, Nat.reduceLT, ev_tab, upd_eq, List.map_nil] <;> rfl) (blkGI (by omega) (at_b _ _ _)) ?_
      simp -implicitDefEqProofs only [↓ops_cons, ↓g_assign, ↓ops_nil, ↓w_seq, ↓w_region, Nat.reduceLT, ev_tab, upd_eq, ↓g_move, ↓g_binOp, ne_eq, Nat.reduceEqDiff, not_false_eq_true, upd_ne, t_neq, beq_self_eq_true, Bool.not_true, ↓w_cond, ↓w_ret, ev_const, of_bool, retP_1, res_tmp, onS_some, ↓w_skip, reduceCtorEq, par0, onB_false]
      refine call1S (by simp -implicitDefEqProofs only [List.map_cons, Nat.reduceLT, ev_tab, upd_eq, List.map_nil] <;> rfl) (toIntsS (hx2 _ _) (by omega)) ?_
      simp -implicitDefEqProofs only [↓ops_cons, List.length_append, List.length_cons, List.length_nil, Nat.zero_add]
      have q1 : ∀ g : Reg, (((H ++ [g]) ++ [g]) ++ [g])[H.length + 1]? = some g := fun g => by rw [at_more _ _ _ (by simp), at_b]
      have q2 : ∀ g : Reg, (((H ++ [g]) ++ [g]) ++ [g])[H.length + 1 + 1]? = some g := fun g => by
        have := at_end ((H ++ [g]) ++ [g]) g
        rwa [show ((H ++ [g]) ++ [g]).length = H.length + 1 + 1 by simp] at this
      refine call1S (by simp -implicitDefEqProofs only [List.map_cons, Nat.reduceLT, ev_tab, ne_eq, Nat.reduceEqDiff, not_false_eq_true, upd_ne, upd_eq, List.map_nil] <;> rfl) (eqS (.mk (q1 _)) (.mk (q2 _)) (by omega) (by omega)) ?_
      simp -implicitDefEqProofs only [↓ops_cons, ↓g_unOp, decide_true, Nat.reduceLT, ev_tab, upd_eq, u_not, Bool.not_true, Option.map_some, ↓ops_nil, ↓w_cond, ↓w_seq, ↓w_region, ↓g_assign, ↓w_ret, ev_const, of_bool, retP_1, res_tmp, onS_some, ↓w_skip, onB_false]
  obtain ⟨v, H', h1, rfl⟩ := key
  exact ⟨H', h1⟩
end Go.Proofs.Ytbmadanfpicmiaa.Sim

