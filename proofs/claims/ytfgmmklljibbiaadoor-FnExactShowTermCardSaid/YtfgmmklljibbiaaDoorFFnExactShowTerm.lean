/- FnExactShowTerm: the law returns true. -/
import Derived.Test.YtfgmmklljibbiaaDoorFArena
import Derived.Test.YtfgmmklljibbiaaDoorFShT
namespace Go.Proofs.YtfgmmklljibbiaaDoor.Sim
open Go
set_option maxRecDepth 100000
set_option maxHeartbeats 40000000
set_option linter.unusedSimpArgs false
set_option linter.unusedVariables false
theorem lawFnExactShowTerm (H : AHeap) (x : AV) (l : List (Rw kNode)) (hl0 : l.length ≤ 9223372036854775807) (hx : IsR H x l) (k : Int) (_wk : (Lit.int .i64 k).wf = true) :
    ∃ H', Sound Tryd.prog 4 [.agg [x], .sc (.int .i64 k)] H (.sc (.bool true)) H' := by
  have key : ∃ v H', Sound Tryd.prog 4 [.agg [x], .sc (.int .i64 k)] H v H' ∧ v = .sc (.bool true) := by
    refine Sound.runP (args := [.agg [x], .sc (.int .i64 k)]) 31 [.tmp 4] Tryd.func4 rfl rfl rfl rfl (by simp) (fun v Z => v = .sc (.bool true)) ?_
    have o := hx.one
    obtain ⟨A, hA⟩ : ∃ A : Reg, A = ⟨[x], true, true⟩ := ⟨_, rfl⟩
    have e0 := Ext.more H [A]
    have a0 : (H ++ [A])[H.length]? = some ⟨[x], true, true⟩ := by rw [← hA]; exact hap_0 H [A]
    obtain ⟨n, Z1, c1, c2, c3, c4⟩ := szArenaT 1048576 (by omega) (e0.isR hx) hl0
    by_cases hn : n < 0
    · simp -implicitDefEqProofs only [↓w_seq, ↓w_region, ↓ops_cons, ↓g_box, Nat.reduceLT, ev_tab, par0, cells_agg, ↓g_assign, ↓ops_nil, ev_const, of_bool, of_int, ↓g_load, ne_eq, Nat.reduceEqDiff, not_false_eq_true, upd_ne, upd_eq, ↓g_move, alK_some, List.all_cons, o, List.all_nil, Bool.and_self, rd_def, tyOk38, agg38, cells38, hap_0, List.getElem?_cons_zero, rd_aggc, Nat.zero_add, List.length_cons, List.length_nil, Nat.le_refl, List.drop_zero, List.take_succ_cons, List.take_zero, if_true, onS_some, true_and]
      rw [← hA]
      refine call1S (by simp -implicitDefEqProofs only [List.map_cons, Nat.reduceLT, ev_tab, ne_eq, Nat.reduceEqDiff, not_false_eq_true, upd_ne, upd_eq, List.map_nil] <;> rfl) c1 ?_
      simp -implicitDefEqProofs only [↓ops_cons, ↓g_assign, ↓ops_nil, ↓w_seq, ↓w_region, Nat.reduceLT, ev_tab, upd_eq, ↓g_move, ↓g_binOp, ev_const, of_int, b_lss, hn, decide_true, ↓w_cond, ↓w_ret, of_bool, retP_1, res_tmp, onS_some, ↓w_skip, ↓g_load, ne_eq, Nat.reduceEqDiff, not_false_eq_true, upd_ne, rd_def, tyOk38, agg38, cells38, onB_true]
    · have hl : l.length ≤ 1048576 := by have := c4 hn; omega
      have e1 := e0.trans c2
      obtain ⟨t, ht⟩ := show_is l k
      have to : ∀ G : AHeap, IsR G x l → ∃ y Z, Sound Tryd.prog 12 [.agg [x]] G (.agg [y]) Z ∧ Ext G Z ∧ IsR Z y l := fun G g => ⟨_, _, toArenaT g hl, Ext.more _ _, .at (hap_k _ _ 3) rfl rfl⟩
      obtain ⟨y, Z2, d1, d2, d3⟩ := to Z1 (e1.isR hx)
      obtain ⟨Z3, g1, g2⟩ := showTS d3 hl k t ht
      have e3 := (e1.trans d2).trans g2
      obtain ⟨z, Z4, i1, i2, i3⟩ := to Z3 (e3.isR hx)
      have q := i3.one
      obtain ⟨B, hB⟩ : ∃ B : Reg, B = ⟨[z], true, true⟩ := ⟨_, rfl⟩
      have x4' := Ext.more Z4 [B]
      have bb : (Z4 ++ [B])[Z4.length]? = some ⟨[z], true, true⟩ := by rw [← hB]; exact hap_0 Z4 [B]
      obtain ⟨Z5, j1, j2⟩ := showTI (x4'.isR i3) hl k t ht
      have m5 := x4'.trans j2
      have e5 := (e3.trans i2).trans m5
      have b5 := j2.at bb
      have a1 := c2.at a0
      have a3 := g2.at (d2.at a1)
      have a5 := m5.at (i2.at a3)
      obtain ⟨w, Z6, p1, p2, p3⟩ := to Z5 (e5.isR hx)
      have m6 := m5.trans p2
      have b6 := p2.at b5
      obtain ⟨Z7, r1, r2⟩ := eqArenaT (m6.isR i3) p3 hl
      simp -implicitDefEqProofs only [↓w_seq, ↓w_region, ↓ops_cons, ↓g_box, Nat.reduceLT, ev_tab, par0, cells_agg, ↓g_assign, ↓ops_nil, ev_const, of_bool, of_int, ↓g_load, ne_eq, Nat.reduceEqDiff, not_false_eq_true, upd_ne, upd_eq, ↓g_move, alK_some, List.all_cons, o, List.all_nil, Bool.and_self, rd_def, tyOk38, agg38, cells38, hap_0, List.getElem?_cons_zero, rd_aggc, Nat.zero_add, List.length_cons, List.length_nil, Nat.le_refl, List.drop_zero, List.take_succ_cons, List.take_zero, if_true, onS_some, true_and]
      rw [← hA]
      refine call1S (by simp -implicitDefEqProofs only [List.map_cons, Nat.reduceLT, ev_tab, ne_eq, Nat.reduceEqDiff, not_false_eq_true, upd_ne, upd_eq, List.map_nil] <;> rfl) c1 ?_
      try simp -implicitDefEqProofs only [↓ops_cons, ↓g_assign, ↓ops_nil, ↓w_seq, ↓w_region, Nat.reduceLT, ev_tab, upd_eq, ↓g_move, ↓g_binOp, ev_const, of_int, b_lss, hn, decide_false, ↓w_cond, ↓w_ret, of_bool, retP_1, res_tmp, onS_some, ↓w_skip, ↓g_load, ne_eq, Nat.reduceEqDiff, not_false_eq_true, upd_ne, rd_def, tyOk38, agg38, cells38, a1, rd_aggc, Nat.zero_add, List.length_cons, List.length_nil, Nat.le_refl, List.drop_zero, List.take_succ_cons, List.take_zero, if_true, onB_false]
      refine call1S (by simp -implicitDefEqProofs only [List.map_cons, Nat.reduceLT, ev_tab, upd_eq, List.map_nil] <;> rfl) d1 ?_
      try simp -implicitDefEqProofs only [↓ops_cons, ↓g_move, Nat.reduceLT, ev_tab, ne_eq, Nat.reduceEqDiff, not_false_eq_true, upd_ne, par1]
      refine call1S (by simp -implicitDefEqProofs only [List.map_cons, Nat.reduceLT, ev_tab, ne_eq, Nat.reduceEqDiff, not_false_eq_true, upd_ne, upd_eq, List.map_nil] <;> rfl) g1 ?_
      try simp -implicitDefEqProofs only [↓ops_cons, ↓g_assign, ↓ops_nil, ↓w_seq, ↓w_region, Nat.reduceLT, ev_tab, upd_eq, ↓g_load, ne_eq, Nat.reduceEqDiff, not_false_eq_true, upd_ne, rd_def, tyOk38, agg38, cells38, a3, rd_aggc, Nat.zero_add, List.length_cons, List.length_nil, Nat.le_refl, List.drop_zero, List.take_succ_cons, List.take_zero, if_true, onS_some]
      refine call1S (by simp -implicitDefEqProofs only [List.map_cons, Nat.reduceLT, ev_tab, upd_eq, List.map_nil] <;> rfl) i1 ?_
      try simp -implicitDefEqProofs only [↓ops_cons, ↓g_alloc, zero43, Option.map_some, ↓g_store, Nat.reduceLT, ev_tab, upd_eq, ne_eq, Nat.reduceEqDiff, not_false_eq_true, upd_ne, ↓ops_nil, ↓w_seq, ↓w_region, ↓g_load, ↓g_move, par1, alK_some, List.all_cons, one_nil, List.all_nil, Bool.and_self, wr_def, tyOk43, cells43, hap_0, List.getElem?_cons_zero, wr_c, cells_agg, List.length_cons, List.length_nil, Nat.zero_add, Nat.le_refl, q, and_self, ovC, ovN, hset_0, List.set_cons_zero, if_true, rd_def, agg43, onS_some, rd_aggc, List.drop_zero, List.take_succ_cons, List.take_zero, true_and]
      rw [← hB]
      try simp -implicitDefEqProofs only []
      refine call1S (by simp -implicitDefEqProofs only [List.map_cons, Nat.reduceLT, ev_tab, ne_eq, Nat.reduceEqDiff, not_false_eq_true, upd_ne, upd_eq, List.map_nil] <;> rfl) j1 ?_
      try simp -implicitDefEqProofs only [↓ops_cons, ↓g_assign, ↓ops_nil, ↓w_seq, ↓w_region, Nat.reduceLT, ev_tab, upd_eq, ↓g_move, ↓g_binOp, ne_eq, Nat.reduceEqDiff, not_false_eq_true, upd_ne, t_neq, beq_self_eq_true, Bool.not_true, ↓w_cond, ↓w_ret, ev_const, of_bool, retP_1, res_tmp, onS_some, ↓w_skip, onB_false]
      refine drawn [(0, 0), (0, 3), (1, 0)] follows (by kernel_rfl) (by kernel_rfl) ?_
      try simp -implicitDefEqProofs only [↓dops_cons, ↓g_load, Nat.reduceLT, ev_tab, ne_eq, Nat.reduceEqDiff, not_false_eq_true, upd_ne, upd_eq, rd_def, tyOk43, agg43, cells43, b5, rd_aggc, Nat.zero_add, List.length_cons, List.length_nil, Nat.le_refl, List.drop_zero, List.take_succ_cons, List.take_zero, if_true, tyOk38, agg38, cells38, a5, onS_some]
      refine call1S (by simp -implicitDefEqProofs only [List.map_cons, Nat.reduceLT, ev_tab, upd_eq, List.map_nil] <;> rfl) p1 ?_
      try simp -implicitDefEqProofs only [↓dops_cons]
      refine call1S (by simp -implicitDefEqProofs only [List.map_cons, Nat.reduceLT, ev_tab, ne_eq, Nat.reduceEqDiff, not_false_eq_true, upd_ne, upd_eq, List.map_nil] <;> rfl) r1 ?_
      try simp -implicitDefEqProofs only [↓dops_cons, ↓g_unOp, Nat.reduceLT, ev_tab, upd_eq, u_not, Bool.not_true, Option.map_some, ↓dops_p, ↓w_cond, ↓w_seq, ↓w_region, ↓ops_cons, ↓g_assign, ↓ops_nil, ↓w_ret, ev_const, of_bool, retP_1, res_tmp, onS_some, ↓w_skip, onB_false, and_true]
      exact pairs_cons (same_H rfl) (pairs_cons (same_ld _ _ Z4.length 0 rfl rfl (b6.trans b5.symm)) (pairs_cons (same_H rfl) pairs_nil))
  obtain ⟨v, H', h1, rfl⟩ := key
  exact ⟨H', h1⟩
end Go.Proofs.YtfgmmklljibbiaaDoor.Sim

