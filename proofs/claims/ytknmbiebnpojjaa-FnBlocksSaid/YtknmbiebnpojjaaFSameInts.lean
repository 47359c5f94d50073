/- Whether numbers are alike, as the drawn laws ask. -/
import Derived.Test.YtknmbiebnpojjaaTy
import Derived.Test.YtknmbiebnpojjaaChecked
namespace Go.Proofs.Ytknmbiebnpojjaa.Sim
open Go
set_option maxRecDepth 100000
set_option maxHeartbeats 4000000
set_option linter.unusedSimpArgs false
set_option linter.unusedVariables false
theorem sameIntsS {H : AHeap} {x y : AV} {l m : List Int} (hx : IsL H x .i64 l) (hy : IsL H y .i64 m) (hl : l.length ≤ 1000000000000) (hm : m.length ≤ 1000000000000) : Sound Try.prog 17 [x, y] H (.sc (.bool (decide (l = m)))) H := by
  refine Sound.run 26 [.tmp 4] Try.func17 rfl rfl rfl rfl (by simp) ?_
  have lx := fun e => hx.len e
  have ly := fun e => hy.len e
  simp -implicitDefEqProofs only [↓w_seq, ↓w_region, ↓ops_cons, ↓g_assign, ↓ops_nil, ev_const, of_bool, ↓g_move, ↓g_len, Try.underlying26, Nat.reduceLT, ev_tab, ne_eq, reduceCtorEq, not_false_eq_true, upd_ne, par0, upd_eq, lx, Nat.reduceEqDiff, par1, ly, ↓g_binOp, ↓w_cond, ↓w_ret, ret_one, and_true, ↓w_skip, ↓w_block, of_int, onS_some, b_neq, onB_not, onB_dec]
  by_cases e : (l.length : Int) = m.length
  · rw [if_pos e]
    have e0 : l.length = m.length := by omega
    refine w_loop (ι := Nat) (fun i s => ∃ T : Nat → AV, s = ⟨tab 26 T, H⟩ ∧ i ≤ l.length ∧ (∀ j, j < i → l.getD j 0 = m.getD j 0) ∧ T 0 = x ∧ T 1 = y ∧ T 5 = .sc (.int .i64 i)) (fun i => l.length - i) ?_ (i := 0) ?_
    · rintro i s ⟨T, rfl, a1, a2, a3, a4, a5⟩
      by_cases h : i < l.length
      · have k1 : (i : Int) < l.length := by omega
        have k2 : (0 : Int) ≤ i := by omega
        have k3 : (i : Int) < m.length := by omega
        have k4 : i < m.length := by omega
        simp -implicitDefEqProofs only [↓w_seq, ↓w_region, ↓ops_cons, ↓g_move, ↓g_len, Try.underlying26, Nat.reduceLT, ev_tab, a5, ne_eq, reduceCtorEq, not_false_eq_true, upd_ne, a3, upd_eq, lx, ↓g_binOp, Nat.reduceEqDiff, ↓ops_nil, ↓w_cond, ↓w_skip, ↓w_block, ↓w_exit, ↓g_assign, ↓w_ret, ev_const, of_bool, ret_one, and_true, if_true, onS_some, b_lss, k1, decide_true, onB_true]
        refine drawn [(3, 0), (7, 0)] follows (by kernel_rfl) (by kernel_rfl) ?_
        obtain ⟨r, o, rfl, hr⟩ := hx.get h
        obtain ⟨q, o2, rfl, hq⟩ := hy.get (i := i) (by omega)
        simp -implicitDefEqProofs only [↓dops_cons, ↓g_move, ↓g_indexAddr, Try.underlying26, Nat.reduceLT, ev_tab, ne_eq, reduceCtorEq, not_false_eq_true, upd_ne, a3, Nat.reduceEqDiff, a5, upd_eq, adr_sl, k2, k1, cells3, tyOk3, and_self, Int.toNat_natCast, Nat.mul_one, Nat.zero_add, if_true, ↓g_load, a4, k3, ↓g_binOp, ↓dops_p, ↓w_cond, ↓w_seq, ↓w_region, ↓ops_cons, ↓g_assign, ↓ops_nil, ↓w_ret, ev_const, of_bool, ret_one, and_true, ↓w_skip, of_int, b_add, onS_some, rd_def, agg3, hq, rd_ints, k4, hr, h, b_neq, onB_not, onB_dec]
        refine ⟨pairs_cons (same_H rfl) (pairs_cons (same_H rfl) pairs_nil), ?_⟩
        by_cases q : l.getD i 0 = m.getD i 0
        · have e1 : IntKind.i64.wrap ((i : Int) + 1) = i + 1 := w64 (by omega) (by omega)
          simp -implicitDefEqProofs only [q, decide_true, Bool.not_true, e1, if_true]
          refine ⟨i + 1, by omega, _, rfl, by omega, ?_, ?_, ?_, ?_⟩
          · intro j hj
            rcases Nat.lt_or_ge j i with hj2 | hj2
            · exact a2 j hj2
            · have : j = i := by omega
              subst this; exact q
          · simp -implicitDefEqProofs only [ne_eq, reduceCtorEq, not_false_eq_true, upd_ne, a3]
          · simp -implicitDefEqProofs only [ne_eq, Nat.reduceEqDiff, not_false_eq_true, upd_ne, a4]
          · simp -implicitDefEqProofs only [upd_eq] <;> rfl
        · have hne : l ≠ m := fun h => q (by rw [h])
          simp -implicitDefEqProofs only [q, decide_false, Bool.not_false, hne, if_false]
      · have k1 : ¬ (i : Int) < l.length := by omega
        have heq : l = m := by
          apply List.ext_getElem e0
          intro j h1 h2
          have := a2 j (by omega)
          simpa [h1, h2] using this
        have hd : decide (l = m) = true := by simp [heq]
        rw [hd]
        simp -implicitDefEqProofs only [↓w_seq, ↓w_region, ↓ops_cons, ↓g_move, ↓g_len, Try.underlying26, Nat.reduceLT, ev_tab, a5, ne_eq, reduceCtorEq, not_false_eq_true, upd_ne, a3, upd_eq, lx, ↓g_binOp, Nat.reduceEqDiff, ↓ops_nil, ↓w_cond, ↓w_skip, ↓w_block, ↓w_exit, ↓g_assign, ↓w_ret, ev_const, of_bool, ret_one, and_self, if_true, onS_some, b_lss, k1, decide_false, onB_false]
    · refine ⟨_, rfl, by omega, ?_, ?_, ?_, ?_⟩
      · intro j hj; omega
      · simp -implicitDefEqProofs only [ne_eq, reduceCtorEq, not_false_eq_true, upd_ne, par0]
      · simp -implicitDefEqProofs only [ne_eq, Nat.reduceEqDiff, not_false_eq_true, upd_ne, par1]
      · simp -implicitDefEqProofs only [upd_eq, Int.cast_ofNat_Int] <;> rfl
  · have hne : l ≠ m := fun h => e (by rw [h])
    rw [if_neg e]
    simp -implicitDefEqProofs only [hne, decide_false]
theorem sameIntsT {H : AHeap} {x y : AV} {l : List Int} (hx : IsL H x .i64 l) (hy : IsL H y .i64 l) (hl : l.length ≤ 1000000000000) : Sound Try.prog 17 [x, y] H (.sc (.bool true)) H := by
  have := sameIntsS hx hy hl hl
  rwa [decide_eq_true rfl] at this
end Go.Proofs.Ytknmbiebnpojjaa.Sim

