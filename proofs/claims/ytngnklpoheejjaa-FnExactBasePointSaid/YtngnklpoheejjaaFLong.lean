/- One byte, many times. -/
import Derived.Test.YtngnklpoheejjaaTy
import Derived.Test.YtngnklpoheejjaaChecked
namespace Go.Proofs.Ytngnklpoheejjaa.Sim
open Go
set_option maxRecDepth 100000
set_option linter.unusedSimpArgs false
set_option linter.unusedVariables false
theorem rep_next (b : Int) (n i : Nat) (h : i < n) : (List.replicate i b ++ List.replicate (n - i) 0).set i b = List.replicate (i + 1) b ++ List.replicate (n - (i + 1)) 0 := by
  obtain ⟨m, hm⟩ : ∃ m, n - i = m + 1 := ⟨n - i - 1, by omega⟩
  rw [hm, show n - (i + 1) = m by omega, List.set_append_right _ _ (by simp), List.length_replicate, Nat.sub_self, List.replicate_succ, List.set_cons_zero, List.replicate_succ', List.append_assoc]
  rfl
theorem longS (n : Nat) (b : Int) (hn : n ≤ 1000000000) : Fn Try.prog 9 [.sc (.int .i64 n), .sc (.int .u8 b)] (.sc (.string (strOfNums (List.replicate n b)))) := by
  refine Fn.run 20 [.tmp 4] Try.func9 rfl rfl rfl rfl (by simp) (flats_cons (.sc _) (flats_cons (.sc _) flats_nil)) (.sc _) ?_
  have k0 : ∀ j : Nat, (0 : Int) ≤ (j : Int) := fun j => by omega
  have k1 : (n : Int) ≤ 1000000000000 := by omega
  simp -implicitDefEqProofs only [↓w_seq, ↓w_region, ↓ops_cons, ↓g_assign, ↓ops_nil, ev_const, of_str, ↓g_move, ↓g_makeSlice, Try.underlying31, Nat.reduceLT, ev_tab, ne_eq, reduceCtorEq, not_false_eq_true, upd_ne, par0, upd_eq, k0, k1, mk5, Int.toNat_natCast, ↓w_block, of_int, alK_some, ints_one, List.length_nil, List.nil_append, true_and]
  refine w_loop (ι := Nat) (fun i s => ∃ T : Nat → AV, s = ⟨tab 20 T, [⟨ints .u8 (List.replicate i b ++ List.replicate (n - i) 0), true, true⟩]⟩ ∧ i ≤ n ∧ T 0 = .sc (.int .i64 n) ∧ T 1 = .sc (.int .u8 b) ∧ T 5 = .sl 0 0 n 1 ∧ T 6 = .sc (.int .i64 i)) (fun i => n - i) ?_ (i := 0) ?_
  · rintro i s ⟨T, rfl, a1, a2, a3, a4, a5⟩
    by_cases h : i < n
    · have k2 : (i : Int) < n := by omega
      have k3 : i < i + (n - i) := by omega
      have e1 : IntKind.i64.wrap ((i : Int) + 1) = i + 1 := w64 (by omega) (by omega)
      simp -implicitDefEqProofs only [↓w_seq, ↓w_region, ↓ops_cons, ↓g_move, ↓g_binOp, Nat.reduceLT, ev_tab, a5, ne_eq, reduceCtorEq, not_false_eq_true, upd_ne, a2, Nat.reduceEqDiff, upd_eq, b_lss, k2, decide_true, ↓ops_nil, ↓w_cond, ↓w_skip, ↓w_block, ↓g_indexAddr, Try.underlying31, a4, a3, adr_sl, k0, cells5, tyOk5, and_self, Int.toNat_natCast, Nat.mul_one, Nat.zero_add, if_true, ↓g_store, ev_const, of_int, b_add, e1, ↓g_assign, onS_some, wr_def, List.getElem?_cons_zero, wr_ints, List.length_append, List.length_replicate, k3, rep_next b n i h, List.set_cons_zero, ↓w_exit, ↓g_convert, Try.underlying9, ↓w_ret, ret_one, c_text, isU5, at_def, at_ints, List.drop_zero, onB_true]
      refine ⟨i + 1, by omega, _, rfl, by omega, ?_, ?_, ?_, ?_⟩ <;> simp -implicitDefEqProofs only [ne_eq, reduceCtorEq, not_false_eq_true, upd_ne, a2, Nat.reduceEqDiff, a3, a4, upd_eq] <;> rfl
    · have k2 : ¬ (i : Int) < n := by omega
      have hi : i = n := by omega
      subst hi
      have e : List.replicate i b ++ List.replicate (i - i) 0 = List.replicate i b := by simp
      have ht : (List.replicate i b).take i = List.replicate i b := List.take_of_length_le (by simp)
      rw [e]
      simp -implicitDefEqProofs only [↓w_seq, ↓w_region, ↓ops_cons, ↓g_move, ↓g_binOp, Nat.reduceLT, ev_tab, a5, ne_eq, reduceCtorEq, not_false_eq_true, upd_ne, a2, Nat.reduceEqDiff, upd_eq, b_lss, k2, decide_false, ↓ops_nil, ↓w_cond, ↓w_skip, ↓w_block, ↓g_indexAddr, Try.underlying31, a4, a3, adr_sl, cells5, tyOk5, and_self, and_true, and_false, Nat.mul_one, Nat.zero_add, if_false, ↓g_store, ev_const, of_int, b_add, ↓g_assign, onS_some, ↓w_exit, ↓g_convert, Try.underlying9, ↓w_ret, ret_one, c_text, isU5, at_def, List.getElem?_cons_zero, at_ints, List.length_replicate, Nat.le_refl, List.drop_zero, ht, if_true, Option.bind_some, bytesA_ints, Option.map_some, onB_false]
  · refine ⟨_, congrArg (St.mk _) (by simp), by omega, ?_, ?_, ?_, ?_⟩ <;> simp -implicitDefEqProofs only [ne_eq, reduceCtorEq, not_false_eq_true, upd_ne, par0, Nat.reduceEqDiff, par1, upd_eq, Int.cast_ofNat_Int] <;> rfl
end Go.Proofs.Ytngnklpoheejjaa.Sim

