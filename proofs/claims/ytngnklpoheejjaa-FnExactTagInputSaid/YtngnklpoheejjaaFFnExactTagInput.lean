/- TagInput: the law returns true. -/
import Derived.Test.YtngnklpoheejjaaFTag
namespace Go.Proofs.Ytngnklpoheejjaa.Sim
open Go
set_option maxRecDepth 100000
set_option linter.unusedSimpArgs false
set_option linter.unusedVariables false
def tagT (a b : ByteArray) : ByteArray := fillT a ++ fillT b ++ strOfNums (loL a.size 8) ++ strOfNums (loL b.size 8)
theorem tagI (a b : ByteArray) (ha : a.size ≤ 10000000) (hb : b.size ≤ 10000000) : Fn Try.prog 8 [.sc (.string a), .sc (.string b)] (.sc (.string (tagT a b))) := by
  refine Fn.run 18 [.tmp 4] Try.func8 rfl rfl rfl rfl (by simp) (flats_cons (.sc _) (flats_cons (.sc _) flats_nil)) (.sc _) ?_
  have s1 := fillT_size a
  have s2 := fillT_size b
  simp -implicitDefEqProofs only [↓w_seq, ↓w_region, ↓ops_cons, ↓g_assign, ↓ops_nil, ev_const, of_str, ↓g_move, Nat.reduceLT, ev_tab, ne_eq, reduceCtorEq, not_false_eq_true, upd_ne, par0]
  refine call1 (by simp -implicitDefEqProofs only [List.map_cons, Nat.reduceLT, ev_tab, upd_eq, List.map_nil] <;> rfl) (fillI a (by omega)) ?_
  simp -implicitDefEqProofs only [↓ops_cons, ↓g_move, Nat.reduceLT, ev_tab, ne_eq, Nat.reduceEqDiff, not_false_eq_true, upd_ne, par1]
  refine call1 (by simp -implicitDefEqProofs only [List.map_cons, Nat.reduceLT, ev_tab, upd_eq, List.map_nil] <;> rfl) (fillI b (by omega)) ?_
  simp -implicitDefEqProofs only [↓ops_cons, ↓g_binOp, Nat.reduceLT, ev_tab, ne_eq, Nat.reduceEqDiff, not_false_eq_true, upd_ne, upd_eq, t_add, ↓g_move, ↓g_len, Try.underlying9, reduceCtorEq, par0, len_str, onS_some, onS_ite]
  refine ⟨by omega, ?_⟩
  refine call1 (by simp -implicitDefEqProofs only [List.map_cons, Nat.reduceLT, ev_tab, upd_eq, ev_const, of_int, List.map_nil, Int.cast_ofNat_Int] <;> rfl) (lowI a.size 8 (by omega) (by omega) (by omega)) ?_
  simp -implicitDefEqProofs only [↓ops_cons, ↓g_binOp, Nat.reduceLT, ev_tab, ne_eq, Nat.reduceEqDiff, not_false_eq_true, upd_ne, upd_eq, t_add, ByteArray.size_append, son_size, loL_len, Nat.reduceLeDiff, ↓g_move, ↓g_len, Try.underlying9, par1, len_str, onS_some, onS_ite]
  refine ⟨by omega, ?_⟩
  refine call1 (by simp -implicitDefEqProofs only [List.map_cons, Nat.reduceLT, ev_tab, upd_eq, ev_const, of_int, List.map_nil, Int.cast_ofNat_Int] <;> rfl) (lowI b.size 8 (by omega) (by omega) (by omega)) ?_
  simp -implicitDefEqProofs only [↓ops_cons, ↓g_binOp, Nat.reduceLT, ev_tab, ne_eq, Nat.reduceEqDiff, not_false_eq_true, upd_ne, upd_eq, t_add, ByteArray.size_append, son_size, loL_len, Nat.reduceLeDiff, ↓g_assign, ↓ops_nil, ↓w_ret, ret_one, onS_ite]
  exact ⟨by omega, rfl⟩
theorem tagS (a b : ByteArray) (ha : a.size ≤ 10000000) (hb : b.size ≤ 10000000) : Fn Try.prog 7 [.sc (.string a), .sc (.string b)] (.sc (.string (tagT a b))) := by
  refine Fn.run 18 [.tmp 4] Try.func7 rfl rfl rfl rfl (by simp) (flats_cons (.sc _) (flats_cons (.sc _) flats_nil)) (.sc _) ?_
  have s1 := fillT_size a
  have s2 := fillT_size b
  simp -implicitDefEqProofs only [↓w_seq, ↓w_region, ↓ops_cons, ↓g_assign, ↓ops_nil, ev_const, of_str, ↓g_move, Nat.reduceLT, ev_tab, ne_eq, reduceCtorEq, not_false_eq_true, upd_ne, par0]
  refine call1 (by simp -implicitDefEqProofs only [List.map_cons, Nat.reduceLT, ev_tab, upd_eq, List.map_nil] <;> rfl) (fillS a (by omega)) ?_
  simp -implicitDefEqProofs only [↓ops_cons, ↓g_move, Nat.reduceLT, ev_tab, ne_eq, Nat.reduceEqDiff, not_false_eq_true, upd_ne, par1]
  refine call1 (by simp -implicitDefEqProofs only [List.map_cons, Nat.reduceLT, ev_tab, upd_eq, List.map_nil] <;> rfl) (fillS b (by omega)) ?_
  simp -implicitDefEqProofs only [↓ops_cons, ↓g_binOp, Nat.reduceLT, ev_tab, ne_eq, Nat.reduceEqDiff, not_false_eq_true, upd_ne, upd_eq, t_add, ↓g_move, ↓g_len, Try.underlying9, reduceCtorEq, par0, len_str, onS_some, onS_ite]
  refine ⟨by omega, ?_⟩
  refine call1 (by simp -implicitDefEqProofs only [List.map_cons, Nat.reduceLT, ev_tab, upd_eq, List.map_nil] <;> rfl) (eightS a.size (by omega) (by omega)) ?_
  simp -implicitDefEqProofs only [↓ops_cons, ↓g_binOp, Nat.reduceLT, ev_tab, ne_eq, Nat.reduceEqDiff, not_false_eq_true, upd_ne, upd_eq, t_add, ByteArray.size_append, son_size, loL_len, Nat.reduceLeDiff, ↓g_move, ↓g_len, Try.underlying9, par1, len_str, onS_some, onS_ite]
  refine ⟨by omega, ?_⟩
  refine call1 (by simp -implicitDefEqProofs only [List.map_cons, Nat.reduceLT, ev_tab, upd_eq, List.map_nil] <;> rfl) (eightS b.size (by omega) (by omega)) ?_
  simp -implicitDefEqProofs only [↓ops_cons, ↓g_binOp, Nat.reduceLT, ev_tab, ne_eq, Nat.reduceEqDiff, not_false_eq_true, upd_ne, upd_eq, t_add, ByteArray.size_append, son_size, loL_len, Nat.reduceLeDiff, ↓g_assign, ↓ops_nil, ↓w_ret, ret_one, onS_ite]
  exact ⟨by omega, rfl⟩
theorem lawFnExactTagInput (a0 : ByteArray) (a1 : ByteArray) (w0 : a0.size ≤ 140737488351232) (w1 : a1.size ≤ 140737488351232) : Fn Try.prog 4 [.sc (.string a0), .sc (.string a1)] (.sc (.bool true)) := by
  refine Fn.run 22 [.tmp 4] Try.func4 rfl rfl rfl rfl (by simp) (flats_cons (.sc _) (flats_cons (.sc _) flats_nil)) (.sc _) ?_
  simp -implicitDefEqProofs only [↓w_seq, ↓w_region, ↓ops_cons, ↓g_assign, ↓ops_nil, ev_const, of_bool, ↓g_move, ↓g_len, Try.underlying9, Nat.reduceLT, ev_tab, ne_eq, reduceCtorEq, not_false_eq_true, upd_ne, par0, upd_eq, len_str, ↓g_binOp, of_int, ↓w_cond, ↓w_ret, ret_one, ↓w_skip, Nat.reduceEqDiff, par1, onS_some, b_gtr, onB_dec]
  split
  · trivial
  · split
    · trivial
    · refine call1 (by simp -implicitDefEqProofs only [List.map_cons, Nat.reduceLT, ev_tab, ne_eq, Nat.reduceEqDiff, not_false_eq_true, upd_ne, upd_eq, List.map_nil] <;> rfl) (tagS a0 a1 (by omega) (by omega)) ?_
      simp -implicitDefEqProofs only [↓ops_cons, ↓g_assign, ↓ops_nil, ↓w_seq, ↓w_region, Nat.reduceLT, ev_tab, upd_eq, ↓g_move, ne_eq, reduceCtorEq, not_false_eq_true, upd_ne, par0, Nat.reduceEqDiff, par1]
      refine call1 (by simp -implicitDefEqProofs only [List.map_cons, Nat.reduceLT, ev_tab, ne_eq, Nat.reduceEqDiff, not_false_eq_true, upd_ne, upd_eq, List.map_nil] <;> rfl) (tagI a0 a1 (by omega) (by omega)) ?_
      simp -implicitDefEqProofs only [↓ops_cons, ↓g_assign, ↓ops_nil, ↓w_seq, ↓w_region, Nat.reduceLT, ev_tab, upd_eq, ↓g_move, ↓g_binOp, ne_eq, Nat.reduceEqDiff, not_false_eq_true, upd_ne, t_neq, beq_self_eq_true, Bool.not_true, ↓w_cond, ↓w_ret, ev_const, of_bool, ret_one, ↓w_skip, onS_some, onB_false]
end Go.Proofs.Ytngnklpoheejjaa.Sim

