/- BasePoint: the law returns true. -/
import Derived.Test.YtngnklpoheejjaaFRep
import Derived.Test.YtngnklpoheejjaaFLong
namespace Go.Proofs.Ytngnklpoheejjaa.Sim
open Go
set_option maxRecDepth 100000
set_option linter.unusedSimpArgs false
set_option linter.unusedVariables false
theorem baseI : Fn Try.prog 6 [] (.sc (.string ((⟨#[9]⟩ : ByteArray) ++ strOfNums (List.replicate 31 0)))) := by
  refine Fn.run 3 [.tmp 0] Try.func6 rfl rfl rfl rfl (by simp) flats_nil (.sc _) ?_
  simp -implicitDefEqProofs only [↓w_seq, ↓w_region, ↓ops_cons, ↓g_assign, ↓ops_nil, ev_const, of_str]
  refine call1 (by simp -implicitDefEqProofs only [List.map_cons, ev_const, of_str, of_int, List.map_nil, Int.cast_ofNat_Int] <;> rfl) (repeatC ⟨#[0]⟩ 0 rfl 31 (by omega)) ?_
  simp -implicitDefEqProofs only [↓ops_cons, ↓g_binOp, ev_const, of_str, Nat.reduceLT, ev_tab, upd_eq, t_add, son_size, List.length_replicate, Nat.reduceLeDiff, ↓g_assign, ↓ops_nil, ↓w_ret, ret_one, onS_ite]
  trivial
theorem baseS : Fn Try.prog 5 [] (.sc (.string ((⟨#[9]⟩ : ByteArray) ++ strOfNums (List.replicate 31 0)))) := by
  refine Fn.run 3 [.tmp 0] Try.func5 rfl rfl rfl rfl (by simp) flats_nil (.sc _) ?_
  simp -implicitDefEqProofs only [↓w_seq, ↓w_region, ↓ops_cons, ↓g_assign, ↓ops_nil, ev_const, of_str]
  refine call1 (by simp -implicitDefEqProofs only [List.map_cons, ev_const, of_int, List.map_nil, Int.cast_ofNat_Int] <;> rfl) (longS 31 0 (by omega)) ?_
  simp -implicitDefEqProofs only [↓ops_cons, ↓g_binOp, ev_const, of_str, Nat.reduceLT, ev_tab, upd_eq, t_add, son_size, List.length_replicate, Nat.reduceLeDiff, ↓g_assign, ↓ops_nil, ↓w_ret, ret_one, onS_ite, and_true]
  trivial
theorem lawFnExactBasePoint : Fn Try.prog 3 [] (.sc (.bool true)) := by
  refine Fn.run 8 [.tmp 0] Try.func3 rfl rfl rfl rfl (by simp) flats_nil (.sc _) ?_
  simp -implicitDefEqProofs only [↓w_seq, ↓w_region, ↓ops_cons, ↓g_assign, ↓ops_nil, ev_const, of_bool]
  refine call1 (by simp -implicitDefEqProofs only [List.map_nil] <;> rfl) baseS ?_
  simp -implicitDefEqProofs only [↓ops_cons, ↓g_assign, ↓ops_nil, ↓w_seq, ↓w_region, Nat.reduceLT, ev_tab, upd_eq]
  refine call1 (by simp -implicitDefEqProofs only [List.map_nil] <;> rfl) baseI ?_
  simp -implicitDefEqProofs only [↓ops_cons, ↓g_assign, ↓ops_nil, ↓w_seq, ↓w_region, Nat.reduceLT, ev_tab, upd_eq, ↓g_move, ↓g_binOp, ne_eq, Nat.reduceEqDiff, not_false_eq_true, upd_ne, t_neq, beq_self_eq_true, Bool.not_true, ↓w_cond, ↓w_ret, ev_const, of_bool, ret_one, ↓w_skip, onS_some, onB_false]
end Go.Proofs.Ytngnklpoheejjaa.Sim

