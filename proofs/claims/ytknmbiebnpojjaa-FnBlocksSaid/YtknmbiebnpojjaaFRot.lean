/- Words turned right: by the program, and by the reference. -/
import Derived.Test.YtknmbiebnpojjaaFWords
namespace Go.Proofs.Ytknmbiebnpojjaa.Sim
open Go
set_option maxRecDepth 100000
set_option linter.unusedSimpArgs false
set_option linter.unusedVariables false
theorem rotI (x : Wo) (k : Nat) (hk : 1 ≤ k) (hk2 : k ≤ 31) : Fn Try.prog 64 [.sc (.int .i64 (wi x)), .sc (.int .i64 k)] (.sc (.int .i64 (wi (rot x k)))) := by
  refine Fn.run 14 [.tmp 4] Try.func64 rfl rfl rfl rfl (by simp) (flats_cons (.sc _) (flats_cons (.sc _) flats_nil)) (.sc _) ?_
  have k1 : ¬ (k : Int) < 0 := by omega
  have e1 : min k 64 = k := by omega
  have e2 : IntKind.i64.wrap (32 - (k : Int)) = ((32 - k : Nat) : Int) := by rw [w64 (by omega) (by omega)]; omega
  have k2 : ¬ ((32 - k : Nat) : Int) < 0 := by omega
  have e3 : min (32 - k) 64 = 32 - k := by omega
  have hb := shl_b x (k := 32 - k) (by omega)
  have e4 : IntKind.i64.wrap (wi x * 2 ^ (32 - k)) = wi x * 2 ^ (32 - k) := w64 (by omega) (by omega)
  simp -implicitDefEqProofs only [↓w_seq, ↓w_region, ↓ops_cons, ↓g_assign, ↓ops_nil, ev_const, of_int]
  refine drawn [] follows (by kernel_rfl) (by kernel_rfl) ?_
  simp -implicitDefEqProofs only [↓dops_cons, ↓g_move, ↓g_binOp, Nat.reduceLT, ev_tab, ne_eq, reduceCtorEq, not_false_eq_true, upd_ne, par0, Nat.reduceEqDiff, par1, upd_eq, b_shr, k1, Int.toNat_natCast, bits_i64, e1, shr_w, if_false, ev_const, of_int, b_sub, e2, ↓g_assign, ↓dops_0, ↓w_ret, ret_one, onS_some, b_shl, k2, e3, e4, b_or, b_and]
  congr 2
  exact or_mask _ _ hb.1 hb.2 _ (shl_w x _)
theorem rotU (x : Wo) (k : Nat) (hk : 1 ≤ k) (hk2 : k ≤ 31) : Fn Try.prog 108 [.sc (.int .u32 (wi x)), .sc (.int .u64 k)] (.sc (.int .u32 (wi (rot x k)))) := by
  refine Fn.run 13 [.tmp 4] Try.func108 rfl rfl rfl rfl (by simp) (flats_cons (.sc _) (flats_cons (.sc _) flats_nil)) (.sc _) ?_
  have k1 : ¬ (k : Int) < 0 := by omega
  have e1 : min k 32 = k := by omega
  have e2 : IntKind.u64.wrap (32 - (k : Int)) = ((32 - k : Nat) : Int) := by rw [wu64 (by omega) (by omega)]; omega
  have k2 : ¬ ((32 - k : Nat) : Int) < 0 := by omega
  have e3 : min (32 - k) 32 = 32 - k := by omega
  have e4 : IntKind.u32.wrap (wi x * 2 ^ (32 - k)) = wi (x <<< (32 - k)) := by rw [IntKind.wrap_u32]; exact shl_w x _
  simp -implicitDefEqProofs only [↓w_seq, ↓w_region, ↓ops_cons, ↓g_assign, ↓ops_nil, ev_const, of_int, ↓g_move, ↓g_binOp, Nat.reduceLT, ev_tab, ne_eq, reduceCtorEq, not_false_eq_true, upd_ne, par0, Nat.reduceEqDiff, par1, upd_eq, b_shr, k1, Int.toNat_natCast, bits_u32, e1, shr_w, if_false, b_sub, e2, ↓w_ret, ret_one, onS_some, b_shl, k2, e3, e4, b_or, or_u]
  rfl
end Go.Proofs.Ytknmbiebnpojjaa.Sim

