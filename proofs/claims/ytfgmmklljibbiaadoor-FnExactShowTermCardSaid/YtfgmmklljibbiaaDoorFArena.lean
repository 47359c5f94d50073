/- Arenas: what the laws do with them. -/
import Derived.Test.YtfgmmklljibbiaaDoorFRwNL
namespace Go.Proofs.YtfgmmklljibbiaaDoor.Sim
open Go
set_option maxRecDepth 100000
set_option maxHeartbeats 40000000
set_option linter.unusedSimpArgs false
set_option linter.unusedVariables false
theorem szArenaT {H : AHeap} {x : AV} {l : List (Rw kNode)} (n : Int) (hn : 0 ≤ n ∧ n ≤ 1048576) (hx : IsR H x l) (hl : l.length ≤ 9223372036854775807) :
    ∃ (k : Int) (Z : AHeap), Sound Tryd.prog 10 [.agg [x], .sc (.int .i64 n)] H (.sc (.int .i64 k)) Z ∧ Ext H Z ∧ k ≤ 1048576 ∧ (¬ k < 0 → l.length + k ≤ n) := by
  suffices h : ∃ v Z, Sound Tryd.prog 10 [.agg [x], .sc (.int .i64 n)] H v Z ∧ ∃ k : Int, v = .sc (.int .i64 k) ∧ Ext H Z ∧ k ≤ 1048576 ∧ (¬ k < 0 → l.length + k ≤ n) by
    obtain ⟨v, Z, h1, k, rfl, h2⟩ := h
    exact ⟨k, Z, h1, h2⟩
  refine Sound.runP (args := [.agg [x], .sc (.int .i64 n)]) 12 [.tmp 4] Tryd.func10 rfl rfl rfl rfl (by simp) (fun v Z => ∃ k : Int, v = .sc (.int .i64 k) ∧ Ext H Z ∧ k ≤ 1048576 ∧ (¬ k < 0 → l.length + k ≤ n)) ?_
  have x1 := hx.one
  obtain ⟨A, hA⟩ : ∃ A : Reg, A = ⟨[x], true, true⟩ := ⟨_, rfl⟩
  have e0 := Ext.more H [A]
  have c := szNodeSS n hn (e0.isR hx) hl
  simp -implicitDefEqProofs only [↓w_seq, ↓w_region, Int.reduceNeg, ↓ops_cons, ↓g_box, Nat.reduceLT, ev_tab, par0, cells_agg, ↓g_assign, ↓ops_nil, ev_const, of_int, ↓g_fieldAddrT, ne_eq, Nat.reduceEqDiff, not_false_eq_true, upd_ne, upd_eq, ↓g_load, ↓g_move, par1, alK_some, List.all_cons, x1, List.all_nil, Bool.and_self, fadr38_0, Nat.zero_add, onS_some, rd_def, tyOk36, agg36, cells36, hap_0, List.getElem?_cons_zero, rd_onec, true_and]
  rw [← hA]
  refine call1S (by simp -implicitDefEqProofs only [List.map_cons, Nat.reduceLT, ev_tab, ne_eq, Nat.reduceEqDiff, not_false_eq_true, upd_ne, upd_eq, List.map_nil] <;> rfl) c ?_
  by_cases g : n - (l.length : Int) < 0
  · rw [if_pos g]
    simp -implicitDefEqProofs only [↓ops_cons, ↓g_assign, ↓ops_nil, ↓w_seq, ↓w_region, Int.reduceNeg, Nat.reduceLT, ev_tab, upd_eq, ↓g_move, ↓g_binOp, ev_const, of_int, b_lss, Int.reduceLT, decide_true, ↓w_cond, ↓w_ret, retP_1, res_tmp, onS_some, ↓w_skip, ne_eq, Nat.reduceEqDiff, not_false_eq_true, upd_ne, onB_true]
    exact ⟨_, rfl, e0, by omega, fun h => absurd (by decide) h⟩
  · rw [if_neg g]
    simp -implicitDefEqProofs only [↓ops_cons, ↓g_assign, ↓ops_nil, ↓w_seq, ↓w_region, Int.reduceNeg, Nat.reduceLT, ev_tab, upd_eq, ↓g_move, ↓g_binOp, ev_const, of_int, b_lss, g, decide_false, ↓w_cond, ↓w_ret, retP_1, res_tmp, onS_some, ↓w_skip, ne_eq, Nat.reduceEqDiff, not_false_eq_true, upd_ne, onB_false]
    exact ⟨_, rfl, e0, by omega, fun h => by omega⟩
theorem toArenaT {H : AHeap} {x : AV} {l : List (Rw kNode)} (hx : IsR H x l) (hl : l.length ≤ 1048576) :
    Sound Tryd.prog 12 [.agg [x]] H (.agg [.sl (H.length + 3) 0 l.length 4]) (H ++ [⟨[x], true, true⟩, ⟨[.sl (H.length + 3) 0 l.length 4], true, true⟩, ⟨[.sl (H.length + 3) 0 l.length 4], true, true⟩, ⟨rows Rw.cs l, true, true⟩]) := by
  suffices h : ∃ v Z, Sound Tryd.prog 12 [.agg [x]] H v Z ∧ v = .agg [.sl (H.length + 3) 0 l.length 4] ∧ Z = H ++ [⟨[x], true, true⟩, ⟨[.sl (H.length + 3) 0 l.length 4], true, true⟩, ⟨[.sl (H.length + 3) 0 l.length 4], true, true⟩, ⟨rows Rw.cs l, true, true⟩] by
    obtain ⟨v, Z, h1, rfl, rfl⟩ := h
    exact h1
  refine Sound.runP (args := [.agg [x]]) 9 [.cell 2 43] Tryd.func12 rfl rfl rfl rfl (by simp) (fun v Z => v = .agg [.sl (H.length + 3) 0 l.length 4] ∧ Z = H ++ [⟨[x], true, true⟩, ⟨[.sl (H.length + 3) 0 l.length 4], true, true⟩, ⟨[.sl (H.length + 3) 0 l.length 4], true, true⟩, ⟨rows Rw.cs l, true, true⟩]) ?_
  have o := hx.one
  have c := fun Y => toNodeSS ((Ext.more H Y).isR hx) hl
  simp -implicitDefEqProofs only [↓w_seq, ↓w_region, ↓ops_cons, ↓g_box, Nat.reduceLT, ev_tab, par0, cells_agg, ↓g_alloc, zero43, Option.map_some, ↓ops_nil, ↓g_fieldAddrT, ne_eq, Nat.reduceEqDiff, not_false_eq_true, upd_ne, upd_eq, ↓g_load, alK_some, List.all_cons, one_nil, List.all_nil, Bool.and_self, true_and, List.append_assoc, List.cons_append, List.nil_append, List.length_append, List.length_cons, List.length_nil, Nat.zero_add, o, fadr38_0, Nat.add_assoc, Nat.reduceAdd, onS_some, rd_def, tyOk36, agg36, cells36, hap_0, List.getElem?_cons_zero, rd_onec]
  refine call1S (by simp -implicitDefEqProofs only [List.map_cons, Nat.reduceLT, ev_tab, upd_eq, List.map_nil] <;> rfl) (c _) ?_
  simp -implicitDefEqProofs only [↓ops_cons, ↓g_fieldAddrT, List.length_append, List.length_cons, List.length_nil, Nat.zero_add, Nat.reduceAdd, Nat.reduceLT, ev_tab, ne_eq, Nat.reduceEqDiff, not_false_eq_true, upd_ne, upd_eq, fadr43_0, ↓g_store, List.append_assoc, List.cons_append, List.nil_append, ↓ops_nil, ↓w_seq, ↓w_region, ↓g_load, rd_def, tyOk43, agg43, cells43, wr_def, ↓w_ret, retP_1, res_cell, onS_some, tyOk41, cells41, hap_k, List.getElem?_cons_succ, List.getElem?_cons_zero, wr_c, cells_sl, Nat.le_refl, List.all_cons, one_sl, List.all_nil, Bool.and_self, and_self, ovC, ovN, hset_k, List.set_cons_succ, List.set_cons_zero, if_true, rd_aggc, List.drop_zero, List.take_succ_cons, List.take_zero, true_and, onS_ite, cells_agg, and_true]
  try exact ⟨rfl, rfl⟩
theorem eqArenaT {H : AHeap} {x y : AV} {l : List (Rw kNode)} (hx : IsR H x l) (hy : IsR H y l) (hl : l.length ≤ 1048576) : ∃ Z, Sound Tryd.prog 14 [.agg [x], .agg [y]] H (.sc (.bool true)) Z ∧ Ext H Z := by
  suffices h : ∃ v Z, Sound Tryd.prog 14 [.agg [x], .agg [y]] H v Z ∧ v = .sc (.bool true) ∧ Ext H Z by
    obtain ⟨v, Z, h1, rfl, h2⟩ := h
    exact ⟨Z, h1, h2⟩
  refine Sound.runP (args := [.agg [x], .agg [y]]) 11 [.tmp 4] Tryd.func14 rfl rfl rfl rfl (by simp) (fun v Z => v = .sc (.bool true) ∧ Ext H Z) ?_
  have o := hx.one
  have p := hy.one
  have c := fun Y => eqNodeSS ((Ext.more H Y).isR hx) ((Ext.more H Y).isR hy) (by omega)
  simp -implicitDefEqProofs only [↓w_seq, ↓w_region, ↓ops_cons, ↓g_box, Nat.reduceLT, ev_tab, par0, cells_agg, ne_eq, Nat.reduceEqDiff, not_false_eq_true, upd_ne, par1, ↓g_assign, ↓ops_nil, ev_const, of_bool, ↓g_fieldAddrT, upd_eq, ↓g_load, alK_some, List.all_cons, p, List.all_nil, Bool.and_self, fadr43_0, Nat.zero_add, onS_some, rd_def, tyOk41, agg41, cells41, hap_0, List.getElem?_cons_zero, rd_onec, true_and, o, List.append_assoc, List.cons_append, List.nil_append, List.length_append, List.length_cons, List.length_nil]
  refine call1S (by simp -implicitDefEqProofs only [List.map_cons, Nat.reduceLT, ev_tab, ne_eq, Nat.reduceEqDiff, not_false_eq_true, upd_ne, upd_eq, List.map_nil] <;> rfl) (c _) ?_
  simp -implicitDefEqProofs only [↓ops_cons, ↓g_unOp, Nat.reduceLT, ev_tab, upd_eq, u_not, Bool.not_true, Option.map_some, ↓ops_nil, ↓w_cond, ↓w_seq, ↓w_region, ↓g_assign, ↓w_ret, ev_const, of_bool, retP_1, res_tmp, onS_some, ↓w_skip, true_and, onB_false]
  exact Ext.more _ _
end Go.Proofs.YtfgmmklljibbiaaDoor.Sim

