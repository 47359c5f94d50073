/- A copy of a slice of numbers. -/
import Derived.Test.YtfgmmklljibbiaaDoorTy
import Derived.Test.YtfgmmklljibbiaaDoorChecked
namespace Go.Proofs.YtfgmmklljibbiaaDoor.Sim
open Go
set_option maxRecDepth 100000
set_option maxHeartbeats 4000000
set_option linter.unusedSimpArgs false
set_option linter.unusedVariables false
theorem cpy_set (l : List Int) (i : Nat) (h : i < l.length) : (l.take i ++ List.replicate (l.length - i) 0).set i (l.getD i 0) = l.take (i + 1) ++ List.replicate (l.length - (i + 1)) 0 := by
  obtain ⟨m, hm⟩ : ∃ m, l.length - i = m + 1 := ⟨l.length - i - 1, by omega⟩
  rw [hm, show l.length - (i + 1) = m by omega, List.set_append_right _ _ (by rw [List.length_take]; omega), List.length_take, Nat.min_eq_left (by omega), Nat.sub_self, List.replicate_succ, List.set_cons_zero, List.take_add_one, List.getD_eq_getElem?_getD, List.getElem?_eq_getElem h, List.append_assoc]
  rfl
theorem toIntsS {H : AHeap} {x : AV} {l : List Int} (hx : IsL H x .i64 l) (hl : l.length ≤ 1000000000) : Sound Tryd.prog 55 [x] H (.sl H.length 0 l.length 1) (H ++ [⟨ints .i64 l, true, true⟩]) := by
  refine Sound.run 22 [.tmp 2] Tryd.func55 rfl rfl rfl rfl (by simp) ?_
  have lx := fun e => hx.len e
  have k0 : ∀ j : Nat, (0 : Int) ≤ (j : Int) := fun j => by omega
  have k1 : (l.length : Int) ≤ 1000000000000 := by omega
  simp -implicitDefEqProofs only [↓w_seq, ↓w_region, ↓ops_cons, ↓g_assign, ↓ops_nil, ev_const, ↓g_move, ↓g_len, Tryd.underlying65, Nat.reduceLT, ev_tab, ne_eq, reduceCtorEq, not_false_eq_true, upd_ne, par0, upd_eq, lx, ↓g_makeSlice, ↓w_block, of_int, onS_some, k0, k1, mk3, Int.toNat_natCast, alK_some, ints_one, true_and]
  refine w_loop (ι := Nat) (fun i s => ∃ T : Nat → AV, s = ⟨tab 22 T, H ++ [⟨ints .i64 (l.take i ++ List.replicate (l.length - i) 0), true, true⟩]⟩ ∧ i ≤ l.length ∧ T 0 = x ∧ T 3 = .sl H.length 0 l.length 1 ∧ T 4 = .sc (.int .i64 i)) (fun i => l.length - i) ?_ (i := 0) ?_
  · rintro i s ⟨T, rfl, a1, a2, a3, a4⟩
    by_cases h : i < l.length
    · have k2 : (i : Int) < l.length := by omega
      have k3 : i < min i l.length + (l.length - i) := by omega
      have e1 : IntKind.i64.wrap ((i : Int) + 1) = i + 1 := w64 (by omega) (by omega)
      obtain ⟨r, o, rfl, hr⟩ := hx.get h
      have hrl : r < H.length := (List.getElem?_eq_some_iff.1 hr).1
      have hm := at_more H [⟨ints .i64 (l.take i ++ List.replicate (l.length - i) 0), true, true⟩] r hrl
      rw [hr] at hm
      have hse : ∀ g h : Reg, (H ++ [g]).set H.length h = H ++ [h] := fun g h => by simp
      simp -implicitDefEqProofs only [↓w_seq, ↓w_region, ↓ops_cons, ↓g_move, ↓g_len, Tryd.underlying65, Nat.reduceLT, ev_tab, a4, ne_eq, reduceCtorEq, not_false_eq_true, upd_ne, a2, upd_eq, lx, ↓g_binOp, Nat.reduceEqDiff, ↓ops_nil, ↓w_cond, ↓w_skip, ↓w_block, ↓g_indexAddr, a3, adr_sl, k2, cells3, tyOk3, and_self, and_true, Nat.mul_one, Nat.zero_add, ↓g_load, ↓g_store, ev_const, of_int, b_add, ↓g_assign, onS_some, onS_ite, wr_def, at_end, rd_def, agg3, ↓w_exit, ↓w_ret, ret_one, true_and, if_true, b_lss, decide_true, onB_true]
      try refine drawn [(5, 0)] follows (by kernel_rfl) (by kernel_rfl) ?_
      simp -implicitDefEqProofs only [k0, hm, Int.toNat_natCast, rd_ints, h, if_true, e1, true_and, onS_some, wr_ints, List.length_append, List.length_take, List.length_replicate, k3, cpy_set l i h, hse]
      refine ⟨i + 1, by omega, _, rfl, by omega, ?_, ?_, ?_⟩ <;> simp -implicitDefEqProofs only [ne_eq, reduceCtorEq, not_false_eq_true, upd_ne, a2, Nat.reduceEqDiff, a3, upd_eq] <;> rfl
    · have k2 : ¬ (i : Int) < l.length := by omega
      have hi : i = l.length := by omega
      have e : l.take i ++ List.replicate (l.length - i) 0 = l := by rw [hi]; simp
      rw [e]
      simp -implicitDefEqProofs only [↓w_seq, ↓w_region, ↓ops_cons, ↓g_move, ↓g_len, Tryd.underlying65, Nat.reduceLT, ev_tab, a4, ne_eq, reduceCtorEq, not_false_eq_true, upd_ne, a2, upd_eq, lx, ↓g_binOp, Nat.reduceEqDiff, ↓ops_nil, ↓w_cond, ↓w_skip, ↓w_block, ↓g_indexAddr, a3, ↓g_load, adr_sl, k2, cells3, tyOk3, and_self, and_true, and_false, Nat.mul_one, Nat.zero_add, if_false, ↓g_store, ev_const, of_int, b_add, ↓g_assign, onS_some, ↓w_exit, ↓w_ret, ret_one, if_true, b_lss, decide_false, onB_false]
  · refine ⟨_, st_end (by simp), by omega, ?_, ?_, ?_⟩ <;> simp -implicitDefEqProofs only [ne_eq, reduceCtorEq, not_false_eq_true, upd_ne, par0, Nat.reduceEqDiff, upd_eq, Int.cast_ofNat_Int] <;> rfl
end Go.Proofs.YtfgmmklljibbiaaDoor.Sim

