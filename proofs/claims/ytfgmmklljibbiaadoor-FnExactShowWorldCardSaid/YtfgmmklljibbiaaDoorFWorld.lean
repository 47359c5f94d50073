/- Worlds: what the laws do with them. By wip/tools/worldgen.py. -/
import Derived.Test.YtfgmmklljibbiaaDoorFGate
import Derived.Test.YtfgmmklljibbiaaDoorFRwNL
import Derived.Test.YtfgmmklljibbiaaDoorFRwC
import Derived.Test.YtfgmmklljibbiaaDoorFToInts
namespace Go.Proofs.YtfgmmklljibbiaaDoor.Sim
open Go
set_option maxRecDepth 100000
set_option maxHeartbeats 40000000
set_option linter.unusedSimpArgs false
set_option linter.unusedVariables false
theorem szE {H : AHeap} {f : FuncId} {x : AV} {m : Int} {len : Nat} (hm : m ≤ 1048576) (c : Sound Tryd.prog f [x, .sc (.int .i64 m)] H (.sc (.int .i64 (if m - (len : Int) < 0 then -1 else m - len))) H) :
    ∃ (k : Int) (Z : AHeap), Sound Tryd.prog f [x, .sc (.int .i64 m)] H (.sc (.int .i64 k)) Z ∧ Ext H Z ∧ k ≤ 1048576 ∧ (¬ k < 0 → len + k ≤ m) :=
  ⟨_, H, c, .refl H, by split <;> omega, by split <;> omega⟩
theorem szIntSS {H : AHeap} {x : AV} {l : List Int} (n : Int) (hn : 0 ≤ n ∧ n ≤ 1048576) (hx : IsL H x .i64 l) (hl : l.length ≤ 9223372036854775807) : Sound Tryd.prog 51 [x, .sc (.int .i64 n)] H (.sc (.int .i64 (if n - (l.length : Int) < 0 then -1 else n - l.length))) H := by
  refine Sound.run 12 [.tmp 4] Tryd.func51 rfl rfl rfl rfl (by simp) ?_
  have lx := fun e => hx.len e
  have e1 : IntKind.i64.wrap (n - (l.length : Int)) = n - l.length := w64 (by omega) (by omega)
  simp -implicitDefEqProofs only [↓w_seq, ↓w_region, Int.reduceNeg, ↓ops_cons, ↓g_assign, ↓ops_nil, ev_const, of_int, ↓g_move, ↓g_len, Tryd.underlying65, Nat.reduceLT, ev_tab, ne_eq, Nat.reduceEqDiff, not_false_eq_true, upd_ne, par1, reduceCtorEq, par0, upd_eq, lx, ↓g_binOp, ↓w_cond, ↓w_ret, ret_one, and_true, ↓w_skip, onS_some, b_sub, e1, b_lss, onB_dec]
  split <;> rfl
theorem eqIntSS {H : AHeap} {x y : AV} {l : List Int} (hx : IsL H x .i64 l) (hy : IsL H y .i64 l) (hl : l.length ≤ 1000000000) : Sound Tryd.prog 59 [x, y] H (.sc (.bool true)) H := by
  refine Sound.run 26 [.tmp 4] Tryd.func59 rfl rfl rfl rfl (by simp) ?_
  have lx := fun e => hx.len e
  have ly := fun e => hy.len e
  simp -implicitDefEqProofs only [↓w_seq, ↓w_region, ↓ops_cons, ↓g_assign, ↓ops_nil, ev_const, of_bool, ↓g_move, ↓g_len, Tryd.underlying65, Nat.reduceLT, ev_tab, ne_eq, reduceCtorEq, not_false_eq_true, upd_ne, par0, upd_eq, lx, Nat.reduceEqDiff, par1, ly, ↓g_binOp, ↓w_cond, ↓w_ret, ret_one, and_true, ↓w_skip, ↓w_block, of_int, onS_some, b_neq, decide_true, Bool.not_true, onB_false]
  refine w_loop (ι := Nat) (fun i s => ∃ T : Nat → AV, s = ⟨tab 26 T, H⟩ ∧ i ≤ l.length ∧ T 0 = x ∧ T 1 = y ∧ T 5 = .sc (.int .i64 i)) (fun i => l.length - i) ?_ (i := 0) ?_
  · rintro i s ⟨T, rfl, a1, a3, a4, a5⟩
    by_cases h : i < l.length
    · have k1 : (i : Int) < l.length := by omega
      have k2 : (0 : Int) ≤ i := by omega
      have e1 : IntKind.i64.wrap ((i : Int) + 1) = i + 1 := w64 (by omega) (by omega)
      simp -implicitDefEqProofs only [↓w_seq, ↓w_region, ↓ops_cons, ↓g_move, ↓g_len, Tryd.underlying65, Nat.reduceLT, ev_tab, a5, ne_eq, reduceCtorEq, not_false_eq_true, upd_ne, a3, upd_eq, lx, ↓g_binOp, Nat.reduceEqDiff, ↓ops_nil, ↓w_cond, ↓w_skip, ↓w_block, ↓w_exit, ↓g_assign, ↓w_ret, ev_const, of_bool, ret_one, and_self, if_true, onS_some, b_lss, k1, decide_true, onB_true]
      refine drawn [(3, 0), (7, 0)] follows (by kernel_rfl) (by kernel_rfl) ?_
      obtain ⟨r, o, rfl, hr⟩ := hx.get h
      obtain ⟨q, o2, rfl, hq⟩ := hy.get h
      simp -implicitDefEqProofs only [↓dops_cons, ↓g_move, ↓g_indexAddr, Tryd.underlying65, Nat.reduceLT, ev_tab, ne_eq, reduceCtorEq, not_false_eq_true, upd_ne, a3, Nat.reduceEqDiff, a5, upd_eq, adr_sl, k2, k1, cells3, tyOk3, and_self, Int.toNat_natCast, Nat.mul_one, Nat.zero_add, if_true, ↓g_load, a4, ↓g_binOp, ↓dops_p, ↓w_cond, ↓w_seq, ↓w_region, ↓ops_cons, ↓g_assign, ↓ops_nil, ↓w_ret, ev_const, of_bool, ret_one, and_true, ↓w_skip, of_int, b_add, onS_some, rd_def, agg3, hq, rd_ints, h, hr, b_neq, decide_true, Bool.not_true, onB_false]
      refine ⟨pairs_cons (same_H rfl) (pairs_cons (same_H rfl) (pairs_nil)), ?_⟩
      simp -implicitDefEqProofs only [e1]
      refine ⟨i + 1, by omega, _, rfl, by omega, ?_, ?_, ?_⟩ <;> simp -implicitDefEqProofs only [ne_eq, reduceCtorEq, not_false_eq_true, upd_ne, a3, Nat.reduceEqDiff, a4, upd_eq] <;> rfl
    · have k1 : ¬ (i : Int) < l.length := by omega
      simp -implicitDefEqProofs only [↓w_seq, ↓w_region, ↓ops_cons, ↓g_move, ↓g_len, Tryd.underlying65, Nat.reduceLT, ev_tab, a5, ne_eq, reduceCtorEq, not_false_eq_true, upd_ne, a3, upd_eq, lx, ↓g_binOp, Nat.reduceEqDiff, ↓ops_nil, ↓w_cond, ↓w_skip, ↓w_block, ↓w_exit, ↓g_assign, ↓w_ret, ev_const, of_bool, ret_one, and_self, if_true, onS_some, b_lss, k1, decide_false, onB_false]
  · refine ⟨_, rfl, by omega, ?_, ?_, ?_⟩ <;> simp -implicitDefEqProofs only [ne_eq, reduceCtorEq, not_false_eq_true, upd_ne, par0, Nat.reduceEqDiff, par1, upd_eq, Int.cast_ofNat_Int] <;> rfl
theorem szArenaE {H : AHeap} {x : AV} {l : List (Rw kNode)} (n : Int) (hn : 0 ≤ n ∧ n ≤ 1048576) (hx : IsR H x l) (hl : l.length ≤ 9223372036854775807) :
    ∃ (k : Int) (Z : AHeap), Sound Tryd.prog 10 [.agg [x], .sc (.int .i64 n)] H (.sc (.int .i64 k)) Z ∧ Ext H Z ∧ k ≤ 1048576 ∧ (¬ k < 0 → l.length + k ≤ n) := by
  suffices h : ∃ v Z, Sound Tryd.prog 10 [.agg [x], .sc (.int .i64 n)] H v Z ∧ ∃ k : Int, v = .sc (.int .i64 k) ∧ Ext H Z ∧ k ≤ 1048576 ∧ (¬ k < 0 → l.length + k ≤ n) by
    obtain ⟨v, Z, h1, k, rfl, h2⟩ := h
    exact ⟨k, Z, h1, h2⟩
  refine Sound.runP (args := [.agg [x], .sc (.int .i64 n)]) 12 [.tmp 4] Tryd.func10 rfl rfl rfl rfl (by simp) (fun v Z => ∃ k : Int, v = .sc (.int .i64 k) ∧ Ext H Z ∧ k ≤ 1048576 ∧ (¬ k < 0 → l.length + k ≤ n)) ?_
  have x1 := hx.one
  obtain ⟨A, hA⟩ : ∃ A : Reg, A = ⟨[x], true, true⟩ := ⟨_, rfl⟩
  have e0 := Ext.more H [A]
  have c := szNodeSS n hn (e0.isR hx) hl
  simp -implicitDefEqProofs only [↓w_seq, ↓w_region, Int.reduceNeg, ↓ops_cons, ↓g_box, Nat.reduceLT, ev_tab, par0, cells_agg, ↓g_assign, ↓ops_nil, ev_const, of_int, ↓g_fieldAddrT, ne_eq, Nat.reduceEqDiff, not_false_eq_true, upd_ne, upd_eq, ↓g_load, ↓g_move, par1, alK_some, List.all_cons, x1, List.all_nil, Bool.and_self, fadr38_0, Nat.zero_add, onS_some, rd_def, tyOk36, agg36, cells36, hap_0, List.getElem?_cons_zero, rd_onec, true_and]
  rw [← hA]
  refine call1S (by simp -implicitDefEqProofs only [List.map_cons, Nat.reduceLT, ev_tab, ne_eq, Nat.reduceEqDiff, not_false_eq_true, upd_ne, upd_eq, List.map_nil] <;> rfl) c ?_
  by_cases g : n - (l.length : Int) < 0
  · rw [if_pos g]
    simp -implicitDefEqProofs only [↓ops_cons, ↓g_assign, ↓ops_nil, ↓w_seq, ↓w_region, Int.reduceNeg, Nat.reduceLT, ev_tab, upd_eq, ↓g_move, ↓g_binOp, ev_const, of_int, b_lss, Int.reduceLT, decide_true, ↓w_cond, ↓w_ret, retP_1, res_tmp, onS_some, ↓w_skip, ne_eq, Nat.reduceEqDiff, not_false_eq_true, upd_ne, onB_true]
    exact ⟨_, rfl, e0, by omega, fun h => absurd (by decide) h⟩
  · rw [if_neg g]
    simp -implicitDefEqProofs only [↓ops_cons, ↓g_assign, ↓ops_nil, ↓w_seq, ↓w_region, Int.reduceNeg, Nat.reduceLT, ev_tab, upd_eq, ↓g_move, ↓g_binOp, ev_const, of_int, b_lss, g, decide_false, ↓w_cond, ↓w_ret, retP_1, res_tmp, onS_some, ↓w_skip, ne_eq, Nat.reduceEqDiff, not_false_eq_true, upd_ne, onB_false]
    exact ⟨_, rfl, e0, by omega, fun h => by omega⟩
theorem toArenaX {H : AHeap} {x : AV} {l : List (Rw kNode)} (hx : IsR H x l) (hl : l.length ≤ 1048576) :
    Sound Tryd.prog 12 [.agg [x]] H (.agg [.sl (H.length + 3) 0 l.length 4]) (H ++ [⟨[x], true, true⟩, ⟨[.sl (H.length + 3) 0 l.length 4], true, true⟩, ⟨[.sl (H.length + 3) 0 l.length 4], true, true⟩, ⟨rows Rw.cs l, true, true⟩]) := by
  suffices h : ∃ v Z, Sound Tryd.prog 12 [.agg [x]] H v Z ∧ v = .agg [.sl (H.length + 3) 0 l.length 4] ∧ Z = H ++ [⟨[x], true, true⟩, ⟨[.sl (H.length + 3) 0 l.length 4], true, true⟩, ⟨[.sl (H.length + 3) 0 l.length 4], true, true⟩, ⟨rows Rw.cs l, true, true⟩] by
    obtain ⟨v, Z, h1, rfl, rfl⟩ := h
    exact h1
  refine Sound.runP (args := [.agg [x]]) 9 [.cell 2 43] Tryd.func12 rfl rfl rfl rfl (by simp) (fun v Z => v = .agg [.sl (H.length + 3) 0 l.length 4] ∧ Z = H ++ [⟨[x], true, true⟩, ⟨[.sl (H.length + 3) 0 l.length 4], true, true⟩, ⟨[.sl (H.length + 3) 0 l.length 4], true, true⟩, ⟨rows Rw.cs l, true, true⟩]) ?_
  have o := hx.one
  have c := fun Y => toNodeSS ((Ext.more H Y).isR hx) hl
  simp -implicitDefEqProofs only [↓w_seq, ↓w_region, ↓ops_cons, ↓g_box, Nat.reduceLT, ev_tab, par0, cells_agg, ↓g_alloc, zero43, Option.map_some, ↓ops_nil, ↓g_fieldAddrT, ne_eq, Nat.reduceEqDiff, not_false_eq_true, upd_ne, upd_eq, ↓g_load, alK_some, List.all_cons, one_nil, List.all_nil, Bool.and_self, true_and, List.append_assoc, List.cons_append, List.nil_append, List.length_append, List.length_cons, List.length_nil, Nat.zero_add, o, fadr38_0, Nat.add_assoc, Nat.reduceAdd, onS_some, rd_def, tyOk36, agg36, cells36, hap_0, List.getElem?_cons_zero, rd_onec]
  refine call1S (by simp -implicitDefEqProofs only [List.map_cons, Nat.reduceLT, ev_tab, upd_eq, List.map_nil] <;> rfl) (c _) ?_
  simp -implicitDefEqProofs only [↓ops_cons, ↓g_fieldAddrT, List.length_append, List.length_cons, List.length_nil, Nat.zero_add, Nat.reduceAdd, Nat.reduceLT, ev_tab, ne_eq, Nat.reduceEqDiff, not_false_eq_true, upd_ne, upd_eq, fadr43_0, ↓g_store, List.append_assoc, List.cons_append, List.nil_append, ↓ops_nil, ↓w_seq, ↓w_region, ↓g_load, rd_def, tyOk43, agg43, cells43, wr_def, ↓w_ret, retP_1, res_cell, onS_some, tyOk41, cells41, hap_k, List.getElem?_cons_succ, List.getElem?_cons_zero, wr_c, cells_sl, Nat.le_refl, List.all_cons, one_sl, List.all_nil, Bool.and_self, and_self, ovC, ovN, hset_k, List.set_cons_succ, List.set_cons_zero, if_true, rd_aggc, List.drop_zero, List.take_succ_cons, List.take_zero, true_and, onS_ite, cells_agg, and_true]
  try exact ⟨rfl, rfl⟩
theorem eqArenaS {H : AHeap} {x y : AV} {l : List (Rw kNode)} (hx : IsR H x l) (hy : IsR H y l) (hl : l.length ≤ 1048576) : ∃ Z, Sound Tryd.prog 14 [.agg [x], .agg [y]] H (.sc (.bool true)) Z ∧ Ext H Z := by
  suffices h : ∃ v Z, Sound Tryd.prog 14 [.agg [x], .agg [y]] H v Z ∧ v = .sc (.bool true) ∧ Ext H Z by
    obtain ⟨v, Z, h1, rfl, h2⟩ := h
    exact ⟨Z, h1, h2⟩
  refine Sound.runP (args := [.agg [x], .agg [y]]) 11 [.tmp 4] Tryd.func14 rfl rfl rfl rfl (by simp) (fun v Z => v = .sc (.bool true) ∧ Ext H Z) ?_
  have o := hx.one
  have p := hy.one
  have c := fun Y => eqNodeSS ((Ext.more H Y).isR hx) ((Ext.more H Y).isR hy) (by omega)
  simp -implicitDefEqProofs only [↓w_seq, ↓w_region, ↓ops_cons, ↓g_box, Nat.reduceLT, ev_tab, par0, cells_agg, ne_eq, Nat.reduceEqDiff, not_false_eq_true, upd_ne, par1, ↓g_assign, ↓ops_nil, ev_const, of_bool, ↓g_fieldAddrT, upd_eq, ↓g_load, alK_some, List.all_cons, p, List.all_nil, Bool.and_self, fadr43_0, Nat.zero_add, onS_some, rd_def, tyOk41, agg41, cells41, hap_0, List.getElem?_cons_zero, rd_onec, true_and, o, List.append_assoc, List.cons_append, List.nil_append, List.length_append, List.length_cons, List.length_nil]
  refine call1S (by simp -implicitDefEqProofs only [List.map_cons, Nat.reduceLT, ev_tab, ne_eq, Nat.reduceEqDiff, not_false_eq_true, upd_ne, upd_eq, List.map_nil] <;> rfl) (c _) ?_
  simp -implicitDefEqProofs only [↓ops_cons, ↓g_unOp, Nat.reduceLT, ev_tab, upd_eq, u_not, Bool.not_true, Option.map_some, ↓ops_nil, ↓w_cond, ↓w_seq, ↓w_region, ↓g_assign, ↓w_ret, ev_const, of_bool, retP_1, res_tmp, onS_some, ↓w_skip, true_and, onB_false]
  exact Ext.more _ _
theorem toGateX {H : AHeap} {x1 x2 x3 x4 : AV} {l1 : List (Rw kSess)} {l2 : List (Rw kLease)} {l3 : List (Rw kRoute)} {l4 : List (Rw kOut)} (n nx dr : Int) (h1 : IsR H x1 l1) (h2 : IsR H x2 l2) (h3 : IsR H x3 l3) (h4 : IsR H x4 l4)
    (b1 : l1.length ≤ 1048576) (b2 : l2.length ≤ 1048576) (b3 : l3.length ≤ 1048576) (b4 : l4.length ≤ 1048576) :
    Sound Tryd.prog 17 [.agg [.sc (.int .i64 n), .sc (.int .i64 nx), x1, x2, x3, x4, .sc (.int .i64 dr)]] H (.agg [.sc (.int .i64 n), .sc (.int .i64 nx), .sl (H.length + 3) 0 l1.length 20, .sl (H.length + 4) 0 l2.length 2, .sl (H.length + 5) 0 l3.length 3, .sl (H.length + 6) 0 l4.length 5, .sc (.int .i64 dr)]) (H ++ [⟨[.sc (.int .i64 n), .sc (.int .i64 nx), x1, x2, x3, x4, .sc (.int .i64 dr)], true, true⟩, ⟨[.sc (.int .i64 n), .sc (.int .i64 nx), .sl (H.length + 3) 0 l1.length 20, .sl (H.length + 4) 0 l2.length 2, .sl (H.length + 5) 0 l3.length 3, .sl (H.length + 6) 0 l4.length 5, .sc (.int .i64 dr)], true, true⟩, ⟨[.sc (.int .i64 n), .sc (.int .i64 nx), .sl (H.length + 3) 0 l1.length 20, .sl (H.length + 4) 0 l2.length 2, .sl (H.length + 5) 0 l3.length 3, .sl (H.length + 6) 0 l4.length 5, .sc (.int .i64 dr)], true, true⟩, ⟨rows Rw.cs l1, true, true⟩, ⟨rows Rw.cs l2, true, true⟩, ⟨rows Rw.cs l3, true, true⟩, ⟨rows Rw.cs l4, true, true⟩]) := by
  suffices h : ∃ v Z, Sound Tryd.prog 17 [.agg [.sc (.int .i64 n), .sc (.int .i64 nx), x1, x2, x3, x4, .sc (.int .i64 dr)]] H v Z ∧ v = .agg [.sc (.int .i64 n), .sc (.int .i64 nx), .sl (H.length + 3) 0 l1.length 20, .sl (H.length + 4) 0 l2.length 2, .sl (H.length + 5) 0 l3.length 3, .sl (H.length + 6) 0 l4.length 5, .sc (.int .i64 dr)] ∧ Z = (H ++ [⟨[.sc (.int .i64 n), .sc (.int .i64 nx), x1, x2, x3, x4, .sc (.int .i64 dr)], true, true⟩, ⟨[.sc (.int .i64 n), .sc (.int .i64 nx), .sl (H.length + 3) 0 l1.length 20, .sl (H.length + 4) 0 l2.length 2, .sl (H.length + 5) 0 l3.length 3, .sl (H.length + 6) 0 l4.length 5, .sc (.int .i64 dr)], true, true⟩, ⟨[.sc (.int .i64 n), .sc (.int .i64 nx), .sl (H.length + 3) 0 l1.length 20, .sl (H.length + 4) 0 l2.length 2, .sl (H.length + 5) 0 l3.length 3, .sl (H.length + 6) 0 l4.length 5, .sc (.int .i64 dr)], true, true⟩, ⟨rows Rw.cs l1, true, true⟩, ⟨rows Rw.cs l2, true, true⟩, ⟨rows Rw.cs l3, true, true⟩, ⟨rows Rw.cs l4, true, true⟩]) by
    obtain ⟨v, Z, h1, rfl, rfl⟩ := h
    exact h1
  refine Sound.runP (args := [.agg [.sc (.int .i64 n), .sc (.int .i64 nx), x1, x2, x3, x4, .sc (.int .i64 dr)]]) 30 [.cell 2 60] Tryd.func17 rfl rfl rfl rfl (by simp) (fun v Z => v = .agg [.sc (.int .i64 n), .sc (.int .i64 nx), .sl (H.length + 3) 0 l1.length 20, .sl (H.length + 4) 0 l2.length 2, .sl (H.length + 5) 0 l3.length 3, .sl (H.length + 6) 0 l4.length 5, .sc (.int .i64 dr)] ∧ Z = (H ++ [⟨[.sc (.int .i64 n), .sc (.int .i64 nx), x1, x2, x3, x4, .sc (.int .i64 dr)], true, true⟩, ⟨[.sc (.int .i64 n), .sc (.int .i64 nx), .sl (H.length + 3) 0 l1.length 20, .sl (H.length + 4) 0 l2.length 2, .sl (H.length + 5) 0 l3.length 3, .sl (H.length + 6) 0 l4.length 5, .sc (.int .i64 dr)], true, true⟩, ⟨[.sc (.int .i64 n), .sc (.int .i64 nx), .sl (H.length + 3) 0 l1.length 20, .sl (H.length + 4) 0 l2.length 2, .sl (H.length + 5) 0 l3.length 3, .sl (H.length + 6) 0 l4.length 5, .sc (.int .i64 dr)], true, true⟩, ⟨rows Rw.cs l1, true, true⟩, ⟨rows Rw.cs l2, true, true⟩, ⟨rows Rw.cs l3, true, true⟩, ⟨rows Rw.cs l4, true, true⟩])) ?_
  have o1 := h1.one
  have o2 := h2.one
  have o3 := h3.one
  have o4 := h4.one
  have c1 := fun Y => toSessSS ((Ext.more H Y).isR h1) b1
  have c2 := fun Y => toLeaseSS ((Ext.more H Y).isR h2) b2
  have c3 := fun Y => toRouteSS ((Ext.more H Y).isR h3) b3
  have c4 := fun Y => toOutSS ((Ext.more H Y).isR h4) b4
  simp -implicitDefEqProofs only [↓w_seq, ↓w_region, ↓ops_cons, ↓g_box, Nat.reduceLT, ev_tab, par0, cells_agg, ↓g_alloc, zero60, Option.map_some, ↓ops_nil, ↓g_fieldAddrT, ne_eq, Nat.reduceEqDiff, not_false_eq_true, upd_ne, upd_eq, ↓g_load, ↓g_store, alK_some, List.all_cons, one_int, one_nil, List.all_nil, Bool.and_self, fadr60_0, Nat.zero_add, fadr60_1, onS_some, wr_def, tyOk3, cells3, hap_0, List.getElem?_cons_zero, wr_c, List.length_cons, List.length_nil, Nat.reduceAdd, Nat.reduceLeDiff, true_and, hset_0, List.set_cons_zero, onS_ite, List.append_assoc, List.cons_append, List.nil_append, List.length_append, o1, o2, o3, o4, fadr52_0, fadr52_1, Nat.add_assoc, fadr52_2, rd_def, tyOk47, agg47, cells47, agg3, rd_onec, List.getElem?_cons_succ, cells_int, and_self, ovC, ovN, over_s, hset_k, List.set_cons_succ, if_true]
  refine call1S (by simp -implicitDefEqProofs only [List.map_cons, Nat.reduceLT, ev_tab, upd_eq, List.map_nil] <;> rfl) (c1 _) ?_
  simp -implicitDefEqProofs only [↓ops_cons, ↓g_fieldAddrT, List.length_append, List.length_cons, List.length_nil, Nat.zero_add, Nat.reduceAdd, Nat.reduceLT, ev_tab, ne_eq, Nat.reduceEqDiff, not_false_eq_true, upd_ne, upd_eq, fadr60_2, ↓g_store, List.append_assoc, List.cons_append, List.nil_append, ↓ops_nil, ↓w_seq, ↓w_region, fadr52_3, ↓g_load, onS_some, rd_def, tyOk48, agg48, cells48, wr_def, tyOk55, cells55, hap_k, List.getElem?_cons_succ, List.getElem?_cons_zero, wr_c, cells_sl, Nat.reduceLeDiff, List.all_cons, one_sl, List.all_nil, Bool.and_self, and_self, over_s, ovC, ovN, hset_k, List.set_cons_succ, List.set_cons_zero, if_true, hap_0, rd_onec]
  refine call1S (by simp -implicitDefEqProofs only [List.map_cons, Nat.reduceLT, ev_tab, upd_eq, List.map_nil] <;> rfl) (c2 _) ?_
  simp -implicitDefEqProofs only [↓ops_cons, ↓g_fieldAddrT, List.length_append, List.length_cons, List.length_nil, Nat.zero_add, Nat.reduceAdd, Nat.reduceLT, ev_tab, ne_eq, Nat.reduceEqDiff, not_false_eq_true, upd_ne, upd_eq, fadr60_3, ↓g_store, List.append_assoc, List.cons_append, List.nil_append, ↓ops_nil, ↓w_seq, ↓w_region, fadr52_4, ↓g_load, onS_some, rd_def, tyOk49, agg49, cells49, wr_def, tyOk56, cells56, hap_k, List.getElem?_cons_succ, List.getElem?_cons_zero, wr_c, cells_sl, Nat.reduceLeDiff, List.all_cons, one_sl, List.all_nil, Bool.and_self, and_self, over_s, ovC, ovN, hset_k, List.set_cons_succ, List.set_cons_zero, if_true, hap_0, rd_onec]
  refine call1S (by simp -implicitDefEqProofs only [List.map_cons, Nat.reduceLT, ev_tab, upd_eq, List.map_nil] <;> rfl) (c3 _) ?_
  simp -implicitDefEqProofs only [↓ops_cons, ↓g_fieldAddrT, List.length_append, List.length_cons, List.length_nil, Nat.zero_add, Nat.reduceAdd, Nat.reduceLT, ev_tab, ne_eq, Nat.reduceEqDiff, not_false_eq_true, upd_ne, upd_eq, fadr60_4, ↓g_store, List.append_assoc, List.cons_append, List.nil_append, ↓ops_nil, ↓w_seq, ↓w_region, fadr52_5, ↓g_load, onS_some, rd_def, tyOk50, agg50, cells50, wr_def, tyOk57, cells57, hap_k, List.getElem?_cons_succ, List.getElem?_cons_zero, wr_c, cells_sl, Nat.reduceLeDiff, List.all_cons, one_sl, List.all_nil, Bool.and_self, and_self, over_s, ovC, ovN, hset_k, List.set_cons_succ, List.set_cons_zero, if_true, hap_0, rd_onec]
  refine call1S (by simp -implicitDefEqProofs only [List.map_cons, Nat.reduceLT, ev_tab, upd_eq, List.map_nil] <;> rfl) (c4 _) ?_
  simp -implicitDefEqProofs only [↓ops_cons, ↓g_fieldAddrT, List.length_append, List.length_cons, List.length_nil, Nat.zero_add, Nat.reduceAdd, Nat.reduceLT, ev_tab, ne_eq, Nat.reduceEqDiff, not_false_eq_true, upd_ne, upd_eq, fadr60_5, ↓g_store, List.append_assoc, List.cons_append, List.nil_append, ↓ops_nil, ↓w_seq, ↓w_region, fadr52_6, ↓g_load, fadr60_6, rd_def, tyOk60, agg60, cells60, wr_def, ↓w_ret, retP_1, res_cell, onS_some, tyOk3, cells3, agg3, tyOk58, cells58, hap_k, List.getElem?_cons_succ, List.getElem?_cons_zero, wr_c, cells_sl, Nat.reduceLeDiff, List.all_cons, one_sl, List.all_nil, Bool.and_self, and_self, over_s, ovC, ovN, hset_k, List.set_cons_succ, List.set_cons_zero, if_true, hap_0, rd_onec, Nat.le_refl, true_and, onS_ite, rd_aggc, Nat.add_assoc, List.drop_zero, List.take_succ_cons, cells_agg, one_int, cells_int, List.take_zero]
  try exact ⟨rfl, rfl⟩
theorem szWorldS {H : AHeap} (n nx dr nw dw : Int) {la : List (Rw kNode)} {lb : List (Rw kClient)} {ld : List Int} {le : List (Rw kSess)} {lf : List (Rw kLease)} {lg : List (Rw kRoute)} {lh : List (Rw kOut)} {li : List (Rw kLetter)} {lj : List Int} {lk : List Int} {ll : List (Rw kNote)} {lm : List (Rw kNote)} {lo : List (Rw kNote)} {lp : List (Rw kNote)} {lq : List Int} {xa xb xd xe xf xg xh xi xj xk xl xm xo xp xq : AV} (ha : IsR H xa la) (hb : IsR H xb lb) (hd : IsL H xd .i64 ld) (he : IsR H xe le) (hf : IsR H xf lf) (hg : IsR H xg lg) (hh : IsR H xh lh) (hi : IsR H xi li) (hj : IsL H xj .i64 lj) (hk : IsL H xk .i64 lk) (hl : IsR H xl ll) (hm : IsR H xm lm) (ho : IsR H xo lo) (hp : IsR H xp lp) (hq : IsL H xq .i64 lq) (ba : la.length ≤ 9223372036854775807) (bb : lb.length ≤ 9223372036854775807) (bd : ld.length ≤ 9223372036854775807) (be : le.length ≤ 9223372036854775807) (bf : lf.length ≤ 9223372036854775807) (bg : lg.length ≤ 9223372036854775807) (bh : lh.length ≤ 9223372036854775807) (bi : li.length ≤ 9223372036854775807) (bj : lj.length ≤ 9223372036854775807) (bk : lk.length ≤ 9223372036854775807) (bl : ll.length ≤ 9223372036854775807) (bm : lm.length ≤ 9223372036854775807) (bo : lo.length ≤ 9223372036854775807) (bp : lp.length ≤ 9223372036854775807) (bq : lq.length ≤ 9223372036854775807) :
    ∃ (k : Int) (Z : AHeap), Sound Tryd.prog 20 [.agg [xa, xb, xd, .sc (.int .i64 n), .sc (.int .i64 nx), xe, xf, xg, xh, .sc (.int .i64 dr), xi, .sc (.int .i64 nw), .sc (.int .i64 dw), xj, xk, xl, xm, xo, xp, xq], .sc (.int .i64 1048576)] H (.sc (.int .i64 k)) Z ∧ Ext H Z ∧ (¬ k < 0 → la.length + lb.length + ld.length + le.length + lf.length + lg.length + lh.length + li.length + lj.length + lk.length + ll.length + lm.length + lo.length + lp.length + lq.length + k ≤ 1048576) := by
  suffices h : ∃ v Z, Sound Tryd.prog 20 [.agg [xa, xb, xd, .sc (.int .i64 n), .sc (.int .i64 nx), xe, xf, xg, xh, .sc (.int .i64 dr), xi, .sc (.int .i64 nw), .sc (.int .i64 dw), xj, xk, xl, xm, xo, xp, xq], .sc (.int .i64 1048576)] H v Z ∧ ∃ k : Int, v = .sc (.int .i64 k) ∧ Ext H Z ∧ (¬ k < 0 → la.length + lb.length + ld.length + le.length + lf.length + lg.length + lh.length + li.length + lj.length + lk.length + ll.length + lm.length + lo.length + lp.length + lq.length + k ≤ 1048576) by
    obtain ⟨v, Z, h1, k, rfl, h2⟩ := h
    exact ⟨k, Z, h1, h2⟩
  refine Sound.runP (args := [.agg [xa, xb, xd, .sc (.int .i64 n), .sc (.int .i64 nx), xe, xf, xg, xh, .sc (.int .i64 dr), xi, .sc (.int .i64 nw), .sc (.int .i64 dw), xj, xk, xl, xm, xo, xp, xq], .sc (.int .i64 1048576)]) 78 [.tmp 4] Tryd.func20 rfl rfl rfl rfl (by simp) (fun v Z => ∃ k : Int, v = .sc (.int .i64 k) ∧ Ext H Z ∧ (¬ k < 0 → la.length + lb.length + ld.length + le.length + lf.length + lg.length + lh.length + li.length + lj.length + lk.length + ll.length + lm.length + lo.length + lp.length + lq.length + k ≤ 1048576)) ?_
  have oa := ha.one
  have ob := hb.one
  have od := hd.one
  have oe := he.one
  have of := hf.one
  have og := hg.one
  have oh := hh.one
  have oi := hi.one
  have oj := hj.one
  have ok := hk.one
  have ol := hl.one
  have om := hm.one
  have oo := ho.one
  have op := hp.one
  have oq := hq.one
  obtain ⟨A, hA⟩ : ∃ A : Reg, A = ⟨[xa, xb, xd, .sc (.int .i64 n), .sc (.int .i64 nx), xe, xf, xg, xh, .sc (.int .i64 dr), xi, .sc (.int .i64 nw), .sc (.int .i64 dw), xj, xk, xl, xm, xo, xp, xq], true, true⟩ := ⟨_, rfl⟩
  have E := Ext.more H [A]
  have bQ : (H ++ [A])[H.length]? = some ⟨[xa, xb, xd, .sc (.int .i64 n), .sc (.int .i64 nx), xe, xf, xg, xh, .sc (.int .i64 dr), xi, .sc (.int .i64 nw), .sc (.int .i64 dw), xj, xk, xl, xm, xo, xp, xq], true, true⟩ := by rw [← hA]; exact hap_0 H [A]
  have hM : (0 : Int) ≤ 1048576 ∧ (1048576 : Int) ≤ 1048576 := by omega
  simp -implicitDefEqProofs only [↓w_seq, ↓w_region, Int.reduceNeg, ↓ops_cons, ↓g_box, Nat.reduceLT, ev_tab, par0, cells_agg, ↓g_assign, ↓ops_nil, ev_const, of_int, ↓g_fieldAddrT, ne_eq, Nat.reduceEqDiff, not_false_eq_true, upd_ne, upd_eq, ↓g_load, ↓g_move, par1, alK_some, List.all_cons, oa, ob, od, one_int, oe, of, og, oh, oi, oj, ok, ol, om, oo, op, oq, List.all_nil, Bool.and_self, fadr69_0, Nat.zero_add, onS_some, rd_def, tyOk38, agg38, cells38, hap_0, List.getElem?_cons_zero, rd_aggc, List.length_cons, List.length_nil, Nat.reduceAdd, Nat.reduceLeDiff, List.drop_zero, List.take_succ_cons, List.take_zero, if_true, true_and]
  rw [← hA]
  obtain ⟨k0, Z0, c0, x0, u0, v0⟩ := szArenaE 1048576 hM (E.isR ha) ba
  refine call1S (by simp -implicitDefEqProofs only [List.map_cons, Nat.reduceLT, ev_tab, ne_eq, Nat.reduceEqDiff, not_false_eq_true, upd_ne, upd_eq, List.map_nil] <;> rfl) c0 ?_
  by_cases g0 : k0 < 0
  · simp -implicitDefEqProofs only [↓ops_cons, ↓g_assign, ↓ops_nil, ↓w_seq, ↓w_region, Int.reduceNeg, Nat.reduceLT, ev_tab, upd_eq, ↓g_move, ↓g_binOp, ev_const, of_int, b_lss, g0, decide_true, ↓w_cond, ↓w_ret, retP_1, res_tmp, onS_some, ↓w_skip, ↓g_fieldAddrT, ne_eq, Nat.reduceEqDiff, not_false_eq_true, upd_ne, fadr69_1, Nat.zero_add, ↓g_load, rd_def, tyOk64, agg64, cells64, onB_true]
    exact ⟨_, rfl, E.trans x0, fun h => absurd (by decide) h⟩
  replace E := E.trans x0
  replace bQ := x0.at bQ
  have m0 : 0 ≤ k0 ∧ k0 ≤ 1048576 := ⟨by omega, u0⟩
  have n0 := v0 g0
  simp -implicitDefEqProofs only [↓ops_cons, ↓g_assign, ↓ops_nil, ↓w_seq, ↓w_region, Int.reduceNeg, Nat.reduceLT, ev_tab, upd_eq, ↓g_move, ↓g_binOp, ev_const, of_int, b_lss, g0, decide_false, ↓w_cond, ↓w_ret, retP_1, res_tmp, onS_some, ↓w_skip, ↓g_fieldAddrT, ne_eq, Nat.reduceEqDiff, not_false_eq_true, upd_ne, fadr69_1, Nat.zero_add, ↓g_load, rd_def, tyOk64, agg64, cells64, bQ, rd_onec, List.getElem?_cons_succ, List.getElem?_cons_zero, onB_false]
  obtain ⟨k1, Z1, c1, x1, u1, v1⟩ := szE m0.2 (szClientSS k0 m0 (E.isR hb) bb)
  refine call1S (by simp -implicitDefEqProofs only [List.map_cons, Nat.reduceLT, ev_tab, ne_eq, Nat.reduceEqDiff, not_false_eq_true, upd_ne, upd_eq, List.map_nil] <;> rfl) c1 ?_
  by_cases g1 : k1 < 0
  · simp -implicitDefEqProofs only [↓ops_cons, ↓g_assign, ↓ops_nil, ↓w_seq, ↓w_region, Int.reduceNeg, Nat.reduceLT, ev_tab, upd_eq, ↓g_move, ↓g_binOp, ev_const, of_int, b_lss, g1, decide_true, ↓w_cond, ↓w_ret, retP_1, res_tmp, onS_some, ↓w_skip, ↓g_fieldAddrT, ne_eq, Nat.reduceEqDiff, not_false_eq_true, upd_ne, fadr69_2, Nat.zero_add, ↓g_load, rd_def, tyOk65, agg65, cells65, onB_true]
    exact ⟨_, rfl, E.trans x1, fun h => absurd (by decide) h⟩
  replace E := E.trans x1
  replace bQ := x1.at bQ
  have m1 : 0 ≤ k1 ∧ k1 ≤ 1048576 := ⟨by omega, u1⟩
  have n1 := v1 g1
  simp -implicitDefEqProofs only [↓ops_cons, ↓g_assign, ↓ops_nil, ↓w_seq, ↓w_region, Int.reduceNeg, Nat.reduceLT, ev_tab, upd_eq, ↓g_move, ↓g_binOp, ev_const, of_int, b_lss, g1, decide_false, ↓w_cond, ↓w_ret, retP_1, res_tmp, onS_some, ↓w_skip, ↓g_fieldAddrT, ne_eq, Nat.reduceEqDiff, not_false_eq_true, upd_ne, fadr69_2, Nat.zero_add, ↓g_load, rd_def, tyOk65, agg65, cells65, bQ, rd_onec, List.getElem?_cons_succ, List.getElem?_cons_zero, onB_false]
  obtain ⟨k2, Z2, c2, x2, u2, v2⟩ := szE m1.2 (szIntSS k1 m1 (E.isL hd) bd)
  refine call1S (by simp -implicitDefEqProofs only [List.map_cons, Nat.reduceLT, ev_tab, ne_eq, Nat.reduceEqDiff, not_false_eq_true, upd_ne, upd_eq, List.map_nil] <;> rfl) c2 ?_
  by_cases g2 : k2 < 0
  · simp -implicitDefEqProofs only [↓ops_cons, ↓g_assign, ↓ops_nil, ↓w_seq, ↓w_region, Int.reduceNeg, Nat.reduceLT, ev_tab, upd_eq, ↓g_move, ↓g_binOp, ev_const, of_int, b_lss, g2, decide_true, ↓w_cond, ↓w_ret, retP_1, res_tmp, onS_some, ↓w_skip, ↓g_fieldAddrT, ne_eq, Nat.reduceEqDiff, not_false_eq_true, upd_ne, fadr69_3, Nat.zero_add, ↓g_load, rd_def, tyOk52, agg52, cells52, onB_true]
    exact ⟨_, rfl, E.trans x2, fun h => absurd (by decide) h⟩
  replace E := E.trans x2
  replace bQ := x2.at bQ
  have m2 : 0 ≤ k2 ∧ k2 ≤ 1048576 := ⟨by omega, u2⟩
  have n2 := v2 g2
  simp -implicitDefEqProofs only [↓ops_cons, ↓g_assign, ↓ops_nil, ↓w_seq, ↓w_region, Int.reduceNeg, Nat.reduceLT, ev_tab, upd_eq, ↓g_move, ↓g_binOp, ev_const, of_int, b_lss, g2, decide_false, ↓w_cond, ↓w_ret, retP_1, res_tmp, onS_some, ↓w_skip, ↓g_fieldAddrT, ne_eq, Nat.reduceEqDiff, not_false_eq_true, upd_ne, fadr69_3, Nat.zero_add, ↓g_load, rd_def, tyOk52, agg52, cells52, bQ, rd_aggc, Nat.reduceAdd, List.length_cons, List.length_nil, Nat.reduceLeDiff, List.drop_succ_cons, List.drop_zero, List.take_succ_cons, List.take_zero, if_true, onB_false]
  obtain ⟨k3, Z3, c3, x3, u3, v3⟩ := szGateS n nx dr (E.isR he) (E.isR hf) (E.isR hg) (E.isR hh) be bf bg bh k2 m2
  unfold gtv at c3
  refine call1S (by simp -implicitDefEqProofs only [List.map_cons, Nat.reduceLT, ev_tab, ne_eq, Nat.reduceEqDiff, not_false_eq_true, upd_ne, upd_eq, List.map_nil] <;> rfl) c3 ?_
  by_cases g3 : k3 < 0
  · simp -implicitDefEqProofs only [↓ops_cons, ↓g_assign, ↓ops_nil, ↓w_seq, ↓w_region, Int.reduceNeg, Nat.reduceLT, ev_tab, upd_eq, ↓g_move, ↓g_binOp, ev_const, of_int, b_lss, g3, decide_true, ↓w_cond, ↓w_ret, retP_1, res_tmp, onS_some, ↓w_skip, ↓g_fieldAddrT, ne_eq, Nat.reduceEqDiff, not_false_eq_true, upd_ne, fadr69_4, Nat.zero_add, ↓g_load, rd_def, tyOk66, agg66, cells66, onB_true]
    exact ⟨_, rfl, E.trans x3, fun h => absurd (by decide) h⟩
  replace E := E.trans x3
  replace bQ := x3.at bQ
  have m3 : 0 ≤ k3 ∧ k3 ≤ 1048576 := ⟨by omega, u3⟩
  have n3 := v3 g3
  simp -implicitDefEqProofs only [↓ops_cons, ↓g_assign, ↓ops_nil, ↓w_seq, ↓w_region, Int.reduceNeg, Nat.reduceLT, ev_tab, upd_eq, ↓g_move, ↓g_binOp, ev_const, of_int, b_lss, g3, decide_false, ↓w_cond, ↓w_ret, retP_1, res_tmp, onS_some, ↓w_skip, ↓g_fieldAddrT, ne_eq, Nat.reduceEqDiff, not_false_eq_true, upd_ne, fadr69_4, Nat.zero_add, ↓g_load, rd_def, tyOk66, agg66, cells66, bQ, rd_onec, List.getElem?_cons_succ, List.getElem?_cons_zero, onB_false]
  obtain ⟨k4, Z4, c4, x4, u4, v4⟩ := szE m3.2 (szLetterSS k3 m3 (E.isR hi) bi)
  refine call1S (by simp -implicitDefEqProofs only [List.map_cons, Nat.reduceLT, ev_tab, ne_eq, Nat.reduceEqDiff, not_false_eq_true, upd_ne, upd_eq, List.map_nil] <;> rfl) c4 ?_
  by_cases g4 : k4 < 0
  · simp -implicitDefEqProofs only [↓ops_cons, ↓g_assign, ↓ops_nil, ↓w_seq, ↓w_region, Int.reduceNeg, Nat.reduceLT, ev_tab, upd_eq, ↓g_move, ↓g_binOp, ev_const, of_int, b_lss, g4, decide_true, ↓w_cond, ↓w_ret, retP_1, res_tmp, onS_some, ↓w_skip, ↓g_fieldAddrT, ne_eq, Nat.reduceEqDiff, not_false_eq_true, upd_ne, fadr69_7, Nat.zero_add, ↓g_load, rd_def, tyOk65, agg65, cells65, onB_true]
    exact ⟨_, rfl, E.trans x4, fun h => absurd (by decide) h⟩
  replace E := E.trans x4
  replace bQ := x4.at bQ
  have m4 : 0 ≤ k4 ∧ k4 ≤ 1048576 := ⟨by omega, u4⟩
  have n4 := v4 g4
  simp -implicitDefEqProofs only [↓ops_cons, ↓g_assign, ↓ops_nil, ↓w_seq, ↓w_region, Int.reduceNeg, Nat.reduceLT, ev_tab, upd_eq, ↓g_move, ↓g_binOp, ev_const, of_int, b_lss, g4, decide_false, ↓w_cond, ↓w_ret, retP_1, res_tmp, onS_some, ↓w_skip, ↓g_fieldAddrT, ne_eq, Nat.reduceEqDiff, not_false_eq_true, upd_ne, fadr69_7, Nat.zero_add, ↓g_load, rd_def, tyOk65, agg65, cells65, bQ, rd_onec, List.getElem?_cons_succ, List.getElem?_cons_zero, onB_false]
  obtain ⟨k5, Z5, c5, x5, u5, v5⟩ := szE m4.2 (szIntSS k4 m4 (E.isL hj) bj)
  refine call1S (by simp -implicitDefEqProofs only [List.map_cons, Nat.reduceLT, ev_tab, ne_eq, Nat.reduceEqDiff, not_false_eq_true, upd_ne, upd_eq, List.map_nil] <;> rfl) c5 ?_
  by_cases g5 : k5 < 0
  · simp -implicitDefEqProofs only [↓ops_cons, ↓g_assign, ↓ops_nil, ↓w_seq, ↓w_region, Int.reduceNeg, Nat.reduceLT, ev_tab, upd_eq, ↓g_move, ↓g_binOp, ev_const, of_int, b_lss, g5, decide_true, ↓w_cond, ↓w_ret, retP_1, res_tmp, onS_some, ↓w_skip, ↓g_fieldAddrT, ne_eq, Nat.reduceEqDiff, not_false_eq_true, upd_ne, fadr69_8, Nat.zero_add, ↓g_load, rd_def, tyOk65, agg65, cells65, onB_true]
    exact ⟨_, rfl, E.trans x5, fun h => absurd (by decide) h⟩
  replace E := E.trans x5
  replace bQ := x5.at bQ
  have m5 : 0 ≤ k5 ∧ k5 ≤ 1048576 := ⟨by omega, u5⟩
  have n5 := v5 g5
  simp -implicitDefEqProofs only [↓ops_cons, ↓g_assign, ↓ops_nil, ↓w_seq, ↓w_region, Int.reduceNeg, Nat.reduceLT, ev_tab, upd_eq, ↓g_move, ↓g_binOp, ev_const, of_int, b_lss, g5, decide_false, ↓w_cond, ↓w_ret, retP_1, res_tmp, onS_some, ↓w_skip, ↓g_fieldAddrT, ne_eq, Nat.reduceEqDiff, not_false_eq_true, upd_ne, fadr69_8, Nat.zero_add, ↓g_load, rd_def, tyOk65, agg65, cells65, bQ, rd_onec, List.getElem?_cons_succ, List.getElem?_cons_zero, onB_false]
  obtain ⟨k6, Z6, c6, x6, u6, v6⟩ := szE m5.2 (szIntSS k5 m5 (E.isL hk) bk)
  refine call1S (by simp -implicitDefEqProofs only [List.map_cons, Nat.reduceLT, ev_tab, ne_eq, Nat.reduceEqDiff, not_false_eq_true, upd_ne, upd_eq, List.map_nil] <;> rfl) c6 ?_
  by_cases g6 : k6 < 0
  · simp -implicitDefEqProofs only [↓ops_cons, ↓g_assign, ↓ops_nil, ↓w_seq, ↓w_region, Int.reduceNeg, Nat.reduceLT, ev_tab, upd_eq, ↓g_move, ↓g_binOp, ev_const, of_int, b_lss, g6, decide_true, ↓w_cond, ↓w_ret, retP_1, res_tmp, onS_some, ↓w_skip, ↓g_fieldAddrT, ne_eq, Nat.reduceEqDiff, not_false_eq_true, upd_ne, fadr69_9, Nat.zero_add, ↓g_load, rd_def, tyOk67, agg67, cells67, onB_true]
    exact ⟨_, rfl, E.trans x6, fun h => absurd (by decide) h⟩
  replace E := E.trans x6
  replace bQ := x6.at bQ
  have m6 : 0 ≤ k6 ∧ k6 ≤ 1048576 := ⟨by omega, u6⟩
  have n6 := v6 g6
  simp -implicitDefEqProofs only [↓ops_cons, ↓g_assign, ↓ops_nil, ↓w_seq, ↓w_region, Int.reduceNeg, Nat.reduceLT, ev_tab, upd_eq, ↓g_move, ↓g_binOp, ev_const, of_int, b_lss, g6, decide_false, ↓w_cond, ↓w_ret, retP_1, res_tmp, onS_some, ↓w_skip, ↓g_fieldAddrT, ne_eq, Nat.reduceEqDiff, not_false_eq_true, upd_ne, fadr69_9, Nat.zero_add, ↓g_load, rd_def, tyOk67, agg67, cells67, bQ, rd_onec, List.getElem?_cons_succ, List.getElem?_cons_zero, onB_false]
  obtain ⟨k7, Z7, c7, x7, u7, v7⟩ := szE m6.2 (szNoteSS k6 m6 (E.isR hl) bl)
  refine call1S (by simp -implicitDefEqProofs only [List.map_cons, Nat.reduceLT, ev_tab, ne_eq, Nat.reduceEqDiff, not_false_eq_true, upd_ne, upd_eq, List.map_nil] <;> rfl) c7 ?_
  by_cases g7 : k7 < 0
  · simp -implicitDefEqProofs only [↓ops_cons, ↓g_assign, ↓ops_nil, ↓w_seq, ↓w_region, Int.reduceNeg, Nat.reduceLT, ev_tab, upd_eq, ↓g_move, ↓g_binOp, ev_const, of_int, b_lss, g7, decide_true, ↓w_cond, ↓w_ret, retP_1, res_tmp, onS_some, ↓w_skip, ↓g_fieldAddrT, ne_eq, Nat.reduceEqDiff, not_false_eq_true, upd_ne, fadr69_10, Nat.zero_add, ↓g_load, rd_def, tyOk67, agg67, cells67, onB_true]
    exact ⟨_, rfl, E.trans x7, fun h => absurd (by decide) h⟩
  replace E := E.trans x7
  replace bQ := x7.at bQ
  have m7 : 0 ≤ k7 ∧ k7 ≤ 1048576 := ⟨by omega, u7⟩
  have n7 := v7 g7
  simp -implicitDefEqProofs only [↓ops_cons, ↓g_assign, ↓ops_nil, ↓w_seq, ↓w_region, Int.reduceNeg, Nat.reduceLT, ev_tab, upd_eq, ↓g_move, ↓g_binOp, ev_const, of_int, b_lss, g7, decide_false, ↓w_cond, ↓w_ret, retP_1, res_tmp, onS_some, ↓w_skip, ↓g_fieldAddrT, ne_eq, Nat.reduceEqDiff, not_false_eq_true, upd_ne, fadr69_10, Nat.zero_add, ↓g_load, rd_def, tyOk67, agg67, cells67, bQ, rd_onec, List.getElem?_cons_succ, List.getElem?_cons_zero, onB_false]
  obtain ⟨k8, Z8, c8, x8, u8, v8⟩ := szE m7.2 (szNoteSS k7 m7 (E.isR hm) bm)
  refine call1S (by simp -implicitDefEqProofs only [List.map_cons, Nat.reduceLT, ev_tab, ne_eq, Nat.reduceEqDiff, not_false_eq_true, upd_ne, upd_eq, List.map_nil] <;> rfl) c8 ?_
  by_cases g8 : k8 < 0
  · simp -implicitDefEqProofs only [↓ops_cons, ↓g_assign, ↓ops_nil, ↓w_seq, ↓w_region, Int.reduceNeg, Nat.reduceLT, ev_tab, upd_eq, ↓g_move, ↓g_binOp, ev_const, of_int, b_lss, g8, decide_true, ↓w_cond, ↓w_ret, retP_1, res_tmp, onS_some, ↓w_skip, ↓g_fieldAddrT, ne_eq, Nat.reduceEqDiff, not_false_eq_true, upd_ne, fadr69_11, Nat.zero_add, ↓g_load, rd_def, tyOk67, agg67, cells67, onB_true]
    exact ⟨_, rfl, E.trans x8, fun h => absurd (by decide) h⟩
  replace E := E.trans x8
  replace bQ := x8.at bQ
  have m8 : 0 ≤ k8 ∧ k8 ≤ 1048576 := ⟨by omega, u8⟩
  have n8 := v8 g8
  simp -implicitDefEqProofs only [↓ops_cons, ↓g_assign, ↓ops_nil, ↓w_seq, ↓w_region, Int.reduceNeg, Nat.reduceLT, ev_tab, upd_eq, ↓g_move, ↓g_binOp, ev_const, of_int, b_lss, g8, decide_false, ↓w_cond, ↓w_ret, retP_1, res_tmp, onS_some, ↓w_skip, ↓g_fieldAddrT, ne_eq, Nat.reduceEqDiff, not_false_eq_true, upd_ne, fadr69_11, Nat.zero_add, ↓g_load, rd_def, tyOk67, agg67, cells67, bQ, rd_onec, List.getElem?_cons_succ, List.getElem?_cons_zero, onB_false]
  obtain ⟨k9, Z9, c9, x9, u9, v9⟩ := szE m8.2 (szNoteSS k8 m8 (E.isR ho) bo)
  refine call1S (by simp -implicitDefEqProofs only [List.map_cons, Nat.reduceLT, ev_tab, ne_eq, Nat.reduceEqDiff, not_false_eq_true, upd_ne, upd_eq, List.map_nil] <;> rfl) c9 ?_
  by_cases g9 : k9 < 0
  · simp -implicitDefEqProofs only [↓ops_cons, ↓g_assign, ↓ops_nil, ↓w_seq, ↓w_region, Int.reduceNeg, Nat.reduceLT, ev_tab, upd_eq, ↓g_move, ↓g_binOp, ev_const, of_int, b_lss, g9, decide_true, ↓w_cond, ↓w_ret, retP_1, res_tmp, onS_some, ↓w_skip, ↓g_fieldAddrT, ne_eq, Nat.reduceEqDiff, not_false_eq_true, upd_ne, fadr69_12, Nat.zero_add, ↓g_load, rd_def, tyOk67, agg67, cells67, onB_true]
    exact ⟨_, rfl, E.trans x9, fun h => absurd (by decide) h⟩
  replace E := E.trans x9
  replace bQ := x9.at bQ
  have m9 : 0 ≤ k9 ∧ k9 ≤ 1048576 := ⟨by omega, u9⟩
  have n9 := v9 g9
  simp -implicitDefEqProofs only [↓ops_cons, ↓g_assign, ↓ops_nil, ↓w_seq, ↓w_region, Int.reduceNeg, Nat.reduceLT, ev_tab, upd_eq, ↓g_move, ↓g_binOp, ev_const, of_int, b_lss, g9, decide_false, ↓w_cond, ↓w_ret, retP_1, res_tmp, onS_some, ↓w_skip, ↓g_fieldAddrT, ne_eq, Nat.reduceEqDiff, not_false_eq_true, upd_ne, fadr69_12, Nat.zero_add, ↓g_load, rd_def, tyOk67, agg67, cells67, bQ, rd_onec, List.getElem?_cons_succ, List.getElem?_cons_zero, onB_false]
  obtain ⟨k10, Z10, c10, x10, u10, v10⟩ := szE m9.2 (szNoteSS k9 m9 (E.isR hp) bp)
  refine call1S (by simp -implicitDefEqProofs only [List.map_cons, Nat.reduceLT, ev_tab, ne_eq, Nat.reduceEqDiff, not_false_eq_true, upd_ne, upd_eq, List.map_nil] <;> rfl) c10 ?_
  by_cases g10 : k10 < 0
  · simp -implicitDefEqProofs only [↓ops_cons, ↓g_assign, ↓ops_nil, ↓w_seq, ↓w_region, Int.reduceNeg, Nat.reduceLT, ev_tab, upd_eq, ↓g_move, ↓g_binOp, ev_const, of_int, b_lss, g10, decide_true, ↓w_cond, ↓w_ret, retP_1, res_tmp, onS_some, ↓w_skip, ↓g_fieldAddrT, ne_eq, Nat.reduceEqDiff, not_false_eq_true, upd_ne, fadr69_13, Nat.zero_add, ↓g_load, rd_def, tyOk65, agg65, cells65, onB_true]
    exact ⟨_, rfl, E.trans x10, fun h => absurd (by decide) h⟩
  replace E := E.trans x10
  replace bQ := x10.at bQ
  have m10 : 0 ≤ k10 ∧ k10 ≤ 1048576 := ⟨by omega, u10⟩
  have n10 := v10 g10
  simp -implicitDefEqProofs only [↓ops_cons, ↓g_assign, ↓ops_nil, ↓w_seq, ↓w_region, Int.reduceNeg, Nat.reduceLT, ev_tab, upd_eq, ↓g_move, ↓g_binOp, ev_const, of_int, b_lss, g10, decide_false, ↓w_cond, ↓w_ret, retP_1, res_tmp, onS_some, ↓w_skip, ↓g_fieldAddrT, ne_eq, Nat.reduceEqDiff, not_false_eq_true, upd_ne, fadr69_13, Nat.zero_add, ↓g_load, rd_def, tyOk65, agg65, cells65, bQ, rd_onec, List.getElem?_cons_succ, List.getElem?_cons_zero, onB_false]
  obtain ⟨k11, Z11, c11, x11, u11, v11⟩ := szE m10.2 (szIntSS k10 m10 (E.isL hq) bq)
  refine call1S (by simp -implicitDefEqProofs only [List.map_cons, Nat.reduceLT, ev_tab, ne_eq, Nat.reduceEqDiff, not_false_eq_true, upd_ne, upd_eq, List.map_nil] <;> rfl) c11 ?_
  by_cases g11 : k11 < 0
  · simp -implicitDefEqProofs only [↓ops_cons, ↓g_assign, ↓ops_nil, ↓w_seq, ↓w_region, Int.reduceNeg, Nat.reduceLT, ev_tab, upd_eq, ↓g_move, ↓g_binOp, ev_const, of_int, b_lss, g11, decide_true, ↓w_cond, ↓w_ret, retP_1, res_tmp, onS_some, ↓w_skip, ne_eq, Nat.reduceEqDiff, not_false_eq_true, upd_ne, onB_true]
    exact ⟨_, rfl, E.trans x11, fun h => absurd (by decide) h⟩
  replace E := E.trans x11
  replace bQ := x11.at bQ
  have m11 : 0 ≤ k11 ∧ k11 ≤ 1048576 := ⟨by omega, u11⟩
  have n11 := v11 g11
  simp -implicitDefEqProofs only [↓ops_cons, ↓g_assign, ↓ops_nil, ↓w_seq, ↓w_region, Int.reduceNeg, Nat.reduceLT, ev_tab, upd_eq, ↓g_move, ↓g_binOp, ev_const, of_int, b_lss, g11, decide_false, ↓w_cond, ↓w_ret, retP_1, res_tmp, onS_some, ↓w_skip, ne_eq, Nat.reduceEqDiff, not_false_eq_true, upd_ne, onB_false]
  exact ⟨_, rfl, E, fun h => by omega⟩
theorem toWorldS {H : AHeap} (n nx dr nw dw : Int) {la : List (Rw kNode)} {lb : List (Rw kClient)} {ld : List Int} {le : List (Rw kSess)} {lf : List (Rw kLease)} {lg : List (Rw kRoute)} {lh : List (Rw kOut)} {li : List (Rw kLetter)} {lj : List Int} {lk : List Int} {ll : List (Rw kNote)} {lm : List (Rw kNote)} {lo : List (Rw kNote)} {lp : List (Rw kNote)} {lq : List Int} {xa xb xd xe xf xg xh xi xj xk xl xm xo xp xq : AV} (ha : IsR H xa la) (hb : IsR H xb lb) (hd : IsL H xd .i64 ld) (he : IsR H xe le) (hf : IsR H xf lf) (hg : IsR H xg lg) (hh : IsR H xh lh) (hi : IsR H xi li) (hj : IsL H xj .i64 lj) (hk : IsL H xk .i64 lk) (hl : IsR H xl ll) (hm : IsR H xm lm) (ho : IsR H xo lo) (hp : IsR H xp lp) (hq : IsL H xq .i64 lq) (ba : la.length ≤ 1048576) (bb : lb.length ≤ 1048576) (bd : ld.length ≤ 1048576) (be : le.length ≤ 1048576) (bf : lf.length ≤ 1048576) (bg : lg.length ≤ 1048576) (bh : lh.length ≤ 1048576) (bi : li.length ≤ 1048576) (bj : lj.length ≤ 1048576) (bk : lk.length ≤ 1048576) (bl : ll.length ≤ 1048576) (bm : lm.length ≤ 1048576) (bo : lo.length ≤ 1048576) (bp : lp.length ≤ 1048576) (bq : lq.length ≤ 1048576) :
    ∃ (ya yb yd ye yf yg yh yi yj yk yl ym yo yp yq : AV) (Z : AHeap), Sound Tryd.prog 22 [.agg [xa, xb, xd, .sc (.int .i64 n), .sc (.int .i64 nx), xe, xf, xg, xh, .sc (.int .i64 dr), xi, .sc (.int .i64 nw), .sc (.int .i64 dw), xj, xk, xl, xm, xo, xp, xq]] H (.agg [ya, yb, yd, .sc (.int .i64 n), .sc (.int .i64 nx), ye, yf, yg, yh, .sc (.int .i64 dr), yi, .sc (.int .i64 nw), .sc (.int .i64 dw), yj, yk, yl, ym, yo, yp, yq]) Z ∧ Ext H Z ∧ IsR Z ya la ∧ IsR Z yb lb ∧ IsL Z yd .i64 ld ∧ IsR Z ye le ∧ IsR Z yf lf ∧ IsR Z yg lg ∧ IsR Z yh lh ∧ IsR Z yi li ∧ IsL Z yj .i64 lj ∧ IsL Z yk .i64 lk ∧ IsR Z yl ll ∧ IsR Z ym lm ∧ IsR Z yo lo ∧ IsR Z yp lp ∧ IsL Z yq .i64 lq := by
  suffices h : ∃ v Z, Sound Tryd.prog 22 [.agg [xa, xb, xd, .sc (.int .i64 n), .sc (.int .i64 nx), xe, xf, xg, xh, .sc (.int .i64 dr), xi, .sc (.int .i64 nw), .sc (.int .i64 dw), xj, xk, xl, xm, xo, xp, xq]] H v Z ∧ ∃ ya yb yd ye yf yg yh yi yj yk yl ym yo yp yq, v = .agg [ya, yb, yd, .sc (.int .i64 n), .sc (.int .i64 nx), ye, yf, yg, yh, .sc (.int .i64 dr), yi, .sc (.int .i64 nw), .sc (.int .i64 dw), yj, yk, yl, ym, yo, yp, yq] ∧ Ext H Z ∧ IsR Z ya la ∧ IsR Z yb lb ∧ IsL Z yd .i64 ld ∧ IsR Z ye le ∧ IsR Z yf lf ∧ IsR Z yg lg ∧ IsR Z yh lh ∧ IsR Z yi li ∧ IsL Z yj .i64 lj ∧ IsL Z yk .i64 lk ∧ IsR Z yl ll ∧ IsR Z ym lm ∧ IsR Z yo lo ∧ IsR Z yp lp ∧ IsL Z yq .i64 lq by
    obtain ⟨v, Z, h1, ya, yb, yd, ye, yf, yg, yh, yi, yj, yk, yl, ym, yo, yp, yq, rfl, h2⟩ := h
    exact ⟨ya, yb, yd, ye, yf, yg, yh, yi, yj, yk, yl, ym, yo, yp, yq, Z, h1, h2⟩
  refine Sound.runP (args := [.agg [xa, xb, xd, .sc (.int .i64 n), .sc (.int .i64 nx), xe, xf, xg, xh, .sc (.int .i64 dr), xi, .sc (.int .i64 nw), .sc (.int .i64 dw), xj, xk, xl, xm, xo, xp, xq]]) 59 [.cell 2 76] Tryd.func22 rfl rfl rfl rfl (by simp) (fun v Z => ∃ ya yb yd ye yf yg yh yi yj yk yl ym yo yp yq, v = .agg [ya, yb, yd, .sc (.int .i64 n), .sc (.int .i64 nx), ye, yf, yg, yh, .sc (.int .i64 dr), yi, .sc (.int .i64 nw), .sc (.int .i64 dw), yj, yk, yl, ym, yo, yp, yq] ∧ Ext H Z ∧ IsR Z ya la ∧ IsR Z yb lb ∧ IsL Z yd .i64 ld ∧ IsR Z ye le ∧ IsR Z yf lf ∧ IsR Z yg lg ∧ IsR Z yh lh ∧ IsR Z yi li ∧ IsL Z yj .i64 lj ∧ IsL Z yk .i64 lk ∧ IsR Z yl ll ∧ IsR Z ym lm ∧ IsR Z yo lo ∧ IsR Z yp lp ∧ IsL Z yq .i64 lq) ?_
  have oa := ha.one
  have ob := hb.one
  have od := hd.one
  have oe := he.one
  have of := hf.one
  have og := hg.one
  have oh := hh.one
  have oi := hi.one
  have oj := hj.one
  have ok := hk.one
  have ol := hl.one
  have om := hm.one
  have oo := ho.one
  have op := hp.one
  have oq := hq.one
  have ca := fun Y => toArenaX ((Ext.more H Y).isR ha) ba
  have cb := fun Y => toClientSS ((Ext.more H Y).isR hb) bb
  have cd := fun Y => toIntsS ((Ext.more H Y).isL hd) (Nat.le_trans bd (by decide))
  have ci := fun Y => toLetterSS ((Ext.more H Y).isR hi) bi
  have cj := fun Y => toIntsS ((Ext.more H Y).isL hj) (Nat.le_trans bj (by decide))
  have ck := fun Y => toIntsS ((Ext.more H Y).isL hk) (Nat.le_trans bk (by decide))
  have cl := fun Y => toNoteSS ((Ext.more H Y).isR hl) bl
  have cm := fun Y => toNoteSS ((Ext.more H Y).isR hm) bm
  have co := fun Y => toNoteSS ((Ext.more H Y).isR ho) bo
  have cp := fun Y => toNoteSS ((Ext.more H Y).isR hp) bp
  have cq := fun Y => toIntsS ((Ext.more H Y).isL hq) (Nat.le_trans bq (by decide))
  have cG := fun Y => toGateX n nx dr ((Ext.more H Y).isR he) ((Ext.more H Y).isR hf) ((Ext.more H Y).isR hg) ((Ext.more H Y).isR hh) be bf bg bh
  simp -implicitDefEqProofs only [↓w_seq, ↓w_region, ↓ops_cons, ↓g_box, Nat.reduceLT, ev_tab, par0, cells_agg, ↓g_alloc, zero76, Option.map_some, ↓ops_nil, ↓g_fieldAddrT, ne_eq, Nat.reduceEqDiff, not_false_eq_true, upd_ne, upd_eq, ↓g_load, alK_some, List.all_cons, one_nil, one_int, List.all_nil, Bool.and_self, true_and, List.append_assoc, List.cons_append, List.nil_append, List.length_append, List.length_cons, List.length_nil, Nat.zero_add, oa, ob, od, oe, of, og, oh, oi, oj, ok, ol, om, oo, op, oq, fadr69_0, Nat.add_assoc, Nat.reduceAdd, onS_some, rd_def, tyOk38, agg38, cells38, hap_0, List.getElem?_cons_zero, rd_aggc, Nat.reduceLeDiff, List.drop_zero, List.take_succ_cons, List.take_zero, if_true]
  refine call1S (by simp -implicitDefEqProofs only [List.map_cons, Nat.reduceLT, ev_tab, upd_eq, List.map_nil] <;> rfl) (ca _) ?_
  simp -implicitDefEqProofs only [↓ops_cons, ↓g_fieldAddrT, List.length_append, List.length_cons, List.length_nil, Nat.zero_add, Nat.reduceAdd, Nat.add_assoc, Nat.reduceLT, ev_tab, ne_eq, Nat.reduceEqDiff, not_false_eq_true, upd_ne, upd_eq, fadr76_0, ↓g_store, List.append_assoc, List.cons_append, List.nil_append, ↓ops_nil, ↓w_seq, ↓w_region, fadr69_1, ↓g_load, onS_some, rd_def, tyOk64, agg64, cells64, wr_def, tyOk43, cells43, hap_k, List.getElem?_cons_succ, List.getElem?_cons_zero, wr_c, cells_agg, Nat.reduceLeDiff, List.all_cons, one_sl, List.all_nil, Bool.and_self, and_self, ovC, ovN, hset_k, List.set_cons_succ, List.set_cons_zero, if_true, hap_0, rd_onec]
  refine call1S (by simp -implicitDefEqProofs only [List.map_cons, Nat.reduceLT, ev_tab, upd_eq, List.map_nil] <;> rfl) (cb _) ?_
  simp -implicitDefEqProofs only [↓ops_cons, ↓g_fieldAddrT, List.length_append, List.length_cons, List.length_nil, Nat.zero_add, Nat.reduceAdd, Nat.reduceLT, ev_tab, ne_eq, Nat.reduceEqDiff, not_false_eq_true, upd_ne, upd_eq, fadr76_1, ↓g_store, List.append_assoc, List.cons_append, List.nil_append, ↓ops_nil, ↓w_seq, ↓w_region, fadr69_2, ↓g_load, onS_some, rd_def, tyOk65, agg65, cells65, wr_def, tyOk72, cells72, hap_k, List.getElem?_cons_succ, List.getElem?_cons_zero, wr_c, cells_sl, Nat.reduceLeDiff, List.all_cons, one_sl, List.all_nil, Bool.and_self, and_self, over_s, ovC, ovN, hset_k, List.set_cons_succ, List.set_cons_zero, if_true, hap_0, rd_onec]
  refine call1S (by simp -implicitDefEqProofs only [List.map_cons, Nat.reduceLT, ev_tab, upd_eq, List.map_nil] <;> rfl) (cd _) ?_
  simp -implicitDefEqProofs only [↓ops_cons, ↓g_fieldAddrT, List.length_append, List.length_cons, List.length_nil, Nat.zero_add, Nat.reduceAdd, Nat.reduceLT, ev_tab, ne_eq, Nat.reduceEqDiff, not_false_eq_true, upd_ne, upd_eq, fadr76_2, ↓g_store, List.append_assoc, List.cons_append, List.nil_append, ↓ops_nil, ↓w_seq, ↓w_region, fadr69_3, ↓g_load, onS_some, rd_def, tyOk52, agg52, cells52, wr_def, tyOk65, cells65, hap_k, List.getElem?_cons_succ, List.getElem?_cons_zero, wr_c, cells_sl, Nat.reduceLeDiff, List.all_cons, one_sl, List.all_nil, Bool.and_self, and_self, over_s, ovC, ovN, hset_k, List.set_cons_succ, List.set_cons_zero, if_true, hap_0, rd_aggc, List.drop_succ_cons, List.drop_zero, List.take_succ_cons, List.take_zero]
  refine call1S (by simp -implicitDefEqProofs only [List.map_cons, Nat.reduceLT, ev_tab, upd_eq, List.map_nil] <;> rfl) (cG _) ?_
  simp -implicitDefEqProofs only [↓ops_cons, ↓g_fieldAddrT, List.length_append, List.length_cons, List.length_nil, Nat.zero_add, Nat.reduceAdd, Nat.add_assoc, Nat.reduceLT, ev_tab, ne_eq, Nat.reduceEqDiff, not_false_eq_true, upd_ne, upd_eq, fadr76_3, ↓g_store, List.append_assoc, List.cons_append, List.nil_append, ↓ops_nil, ↓w_seq, ↓w_region, fadr69_4, ↓g_load, onS_some, rd_def, tyOk66, agg66, cells66, wr_def, tyOk60, cells60, hap_k, List.getElem?_cons_succ, List.getElem?_cons_zero, wr_c, cells_agg, Nat.reduceLeDiff, List.all_cons, one_int, one_sl, List.all_nil, Bool.and_self, and_self, over_s, ovC, ovN, hset_k, List.set_cons_succ, List.set_cons_zero, if_true, hap_0, rd_onec]
  refine call1S (by simp -implicitDefEqProofs only [List.map_cons, Nat.reduceLT, ev_tab, upd_eq, List.map_nil] <;> rfl) (ci _) ?_
  simp -implicitDefEqProofs only [↓ops_cons, ↓g_fieldAddrT, List.length_append, List.length_cons, List.length_nil, Nat.zero_add, Nat.reduceAdd, Nat.reduceLT, ev_tab, ne_eq, Nat.reduceEqDiff, not_false_eq_true, upd_ne, upd_eq, fadr76_4, ↓g_store, List.append_assoc, List.cons_append, List.nil_append, ↓ops_nil, ↓w_seq, ↓w_region, fadr69_5, ↓g_load, fadr76_5, fadr69_6, fadr76_6, fadr69_7, onS_some, rd_def, tyOk65, agg65, cells65, wr_def, tyOk3, cells3, agg3, tyOk73, cells73, hap_k, List.getElem?_cons_succ, List.getElem?_cons_zero, wr_c, cells_sl, Nat.reduceLeDiff, List.all_cons, one_sl, List.all_nil, Bool.and_self, and_self, over_s, ovC, ovN, hset_k, List.set_cons_succ, List.set_cons_zero, if_true, hap_0, rd_onec, true_and, onS_ite, Nat.add_assoc, cells_int, one_int, and_true]
  refine call1S (by simp -implicitDefEqProofs only [List.map_cons, Nat.reduceLT, ev_tab, upd_eq, List.map_nil] <;> rfl) (cj _) ?_
  simp -implicitDefEqProofs only [↓ops_cons, ↓g_fieldAddrT, List.length_append, List.length_cons, List.length_nil, Nat.zero_add, Nat.reduceAdd, Nat.reduceLT, ev_tab, ne_eq, Nat.reduceEqDiff, not_false_eq_true, upd_ne, upd_eq, fadr76_7, ↓g_store, List.append_assoc, List.cons_append, List.nil_append, ↓ops_nil, ↓w_seq, ↓w_region, fadr69_8, ↓g_load, onS_some, rd_def, tyOk65, agg65, cells65, wr_def, hap_k, List.getElem?_cons_succ, List.getElem?_cons_zero, wr_c, cells_sl, Nat.reduceLeDiff, List.all_cons, one_sl, List.all_nil, Bool.and_self, and_self, over_s, ovC, ovN, hset_k, List.set_cons_succ, List.set_cons_zero, if_true, hap_0, rd_onec]
  refine call1S (by simp -implicitDefEqProofs only [List.map_cons, Nat.reduceLT, ev_tab, upd_eq, List.map_nil] <;> rfl) (ck _) ?_
  simp -implicitDefEqProofs only [↓ops_cons, ↓g_fieldAddrT, List.length_append, List.length_cons, List.length_nil, Nat.zero_add, Nat.reduceAdd, Nat.reduceLT, ev_tab, ne_eq, Nat.reduceEqDiff, not_false_eq_true, upd_ne, upd_eq, fadr76_8, ↓g_store, List.append_assoc, List.cons_append, List.nil_append, ↓ops_nil, ↓w_seq, ↓w_region, fadr69_9, ↓g_load, onS_some, rd_def, tyOk67, agg67, cells67, wr_def, tyOk65, cells65, hap_k, List.getElem?_cons_succ, List.getElem?_cons_zero, wr_c, cells_sl, Nat.reduceLeDiff, List.all_cons, one_sl, List.all_nil, Bool.and_self, and_self, over_s, ovC, ovN, hset_k, List.set_cons_succ, List.set_cons_zero, if_true, hap_0, rd_onec]
  refine call1S (by simp -implicitDefEqProofs only [List.map_cons, Nat.reduceLT, ev_tab, upd_eq, List.map_nil] <;> rfl) (cl _) ?_
  simp -implicitDefEqProofs only [↓ops_cons, ↓g_fieldAddrT, List.length_append, List.length_cons, List.length_nil, Nat.zero_add, Nat.reduceAdd, Nat.reduceLT, ev_tab, ne_eq, Nat.reduceEqDiff, not_false_eq_true, upd_ne, upd_eq, fadr76_9, ↓g_store, List.append_assoc, List.cons_append, List.nil_append, ↓ops_nil, ↓w_seq, ↓w_region, fadr69_10, ↓g_load, onS_some, rd_def, tyOk67, agg67, cells67, wr_def, tyOk74, cells74, hap_k, List.getElem?_cons_succ, List.getElem?_cons_zero, wr_c, cells_sl, Nat.reduceLeDiff, List.all_cons, one_sl, List.all_nil, Bool.and_self, and_self, over_s, ovC, ovN, hset_k, List.set_cons_succ, List.set_cons_zero, if_true, hap_0, rd_onec]
  refine call1S (by simp -implicitDefEqProofs only [List.map_cons, Nat.reduceLT, ev_tab, upd_eq, List.map_nil] <;> rfl) (cm _) ?_
  simp -implicitDefEqProofs only [↓ops_cons, ↓g_fieldAddrT, List.length_append, List.length_cons, List.length_nil, Nat.zero_add, Nat.reduceAdd, Nat.reduceLT, ev_tab, ne_eq, Nat.reduceEqDiff, not_false_eq_true, upd_ne, upd_eq, fadr76_10, ↓g_store, List.append_assoc, List.cons_append, List.nil_append, ↓ops_nil, ↓w_seq, ↓w_region, fadr69_11, ↓g_load, onS_some, rd_def, tyOk67, agg67, cells67, wr_def, tyOk74, cells74, hap_k, List.getElem?_cons_succ, List.getElem?_cons_zero, wr_c, cells_sl, Nat.reduceLeDiff, List.all_cons, one_sl, List.all_nil, Bool.and_self, and_self, over_s, ovC, ovN, hset_k, List.set_cons_succ, List.set_cons_zero, if_true, hap_0, rd_onec]
  refine call1S (by simp -implicitDefEqProofs only [List.map_cons, Nat.reduceLT, ev_tab, upd_eq, List.map_nil] <;> rfl) (co _) ?_
  simp -implicitDefEqProofs only [↓ops_cons, ↓g_fieldAddrT, List.length_append, List.length_cons, List.length_nil, Nat.zero_add, Nat.reduceAdd, Nat.reduceLT, ev_tab, ne_eq, Nat.reduceEqDiff, not_false_eq_true, upd_ne, upd_eq, fadr76_11, ↓g_store, List.append_assoc, List.cons_append, List.nil_append, ↓ops_nil, ↓w_seq, ↓w_region, fadr69_12, ↓g_load, onS_some, rd_def, tyOk67, agg67, cells67, wr_def, tyOk74, cells74, hap_k, List.getElem?_cons_succ, List.getElem?_cons_zero, wr_c, cells_sl, Nat.reduceLeDiff, List.all_cons, one_sl, List.all_nil, Bool.and_self, and_self, over_s, ovC, ovN, hset_k, List.set_cons_succ, List.set_cons_zero, if_true, hap_0, rd_onec]
  refine call1S (by simp -implicitDefEqProofs only [List.map_cons, Nat.reduceLT, ev_tab, upd_eq, List.map_nil] <;> rfl) (cp _) ?_
  simp -implicitDefEqProofs only [↓ops_cons, ↓g_fieldAddrT, List.length_append, List.length_cons, List.length_nil, Nat.zero_add, Nat.reduceAdd, Nat.reduceLT, ev_tab, ne_eq, Nat.reduceEqDiff, not_false_eq_true, upd_ne, upd_eq, fadr76_12, ↓g_store, List.append_assoc, List.cons_append, List.nil_append, ↓ops_nil, ↓w_seq, ↓w_region, fadr69_13, ↓g_load, onS_some, rd_def, tyOk65, agg65, cells65, wr_def, tyOk74, cells74, hap_k, List.getElem?_cons_succ, List.getElem?_cons_zero, wr_c, cells_sl, Nat.reduceLeDiff, List.all_cons, one_sl, List.all_nil, Bool.and_self, and_self, over_s, ovC, ovN, hset_k, List.set_cons_succ, List.set_cons_zero, if_true, hap_0, rd_onec]
  refine call1S (by simp -implicitDefEqProofs only [List.map_cons, Nat.reduceLT, ev_tab, upd_eq, List.map_nil] <;> rfl) (cq _) ?_
  simp -implicitDefEqProofs only [↓ops_cons, ↓g_fieldAddrT, List.length_append, List.length_cons, List.length_nil, Nat.zero_add, Nat.reduceAdd, Nat.reduceLT, ev_tab, ne_eq, Nat.reduceEqDiff, not_false_eq_true, upd_ne, upd_eq, fadr76_13, ↓g_store, List.append_assoc, List.cons_append, List.nil_append, ↓ops_nil, ↓w_seq, ↓w_region, ↓g_load, rd_def, tyOk76, agg76, cells76, wr_def, ↓w_ret, retP_1, res_cell, onS_some, tyOk65, cells65, hap_k, List.getElem?_cons_succ, List.getElem?_cons_zero, wr_c, cells_sl, Nat.le_refl, List.all_cons, one_sl, List.all_nil, Bool.and_self, and_self, over_s, ovC, ovN, hset_k, List.set_cons_succ, List.set_cons_zero, if_true, rd_aggc, List.drop_zero, List.take_succ_cons, List.take_zero, true_and, onS_ite, cells_agg, one_int]
  exact ⟨_, _, _, _, _, _, _, _, _, _, _, _, _, _, _, rfl, Ext.more _ _, .at (hap_k _ _ 6) rfl rfl, .at (hap_k _ _ 7) rfl rfl, IsL.at (hap_k _ _ 8) rfl, .at (hap_k _ _ 12) rfl rfl, .at (hap_k _ _ 13) rfl rfl, .at (hap_k _ _ 14) rfl rfl, .at (hap_k _ _ 15) rfl rfl, .at (hap_k _ _ 16) rfl rfl, IsL.at (hap_k _ _ 17) rfl, IsL.at (hap_k _ _ 18) rfl, .at (hap_k _ _ 19) rfl rfl, .at (hap_k _ _ 20) rfl rfl, .at (hap_k _ _ 21) rfl rfl, .at (hap_k _ _ 22) rfl rfl, IsL.at (hap_k _ _ 23) rfl⟩
theorem eqWorldS {H : AHeap} (n nx dr nw dw : Int) {la : List (Rw kNode)} {lb : List (Rw kClient)} {ld : List Int} {le : List (Rw kSess)} {lf : List (Rw kLease)} {lg : List (Rw kRoute)} {lh : List (Rw kOut)} {li : List (Rw kLetter)} {lj : List Int} {lk : List Int} {ll : List (Rw kNote)} {lm : List (Rw kNote)} {lo : List (Rw kNote)} {lp : List (Rw kNote)} {lq : List Int} {xa xb xd xe xf xg xh xi xj xk xl xm xo xp xq ya yb yd ye yf yg yh yi yj yk yl ym yo yp yq : AV} (ha : IsR H xa la) (hb : IsR H xb lb) (hd : IsL H xd .i64 ld) (he : IsR H xe le) (hf : IsR H xf lf) (hg : IsR H xg lg) (hh : IsR H xh lh) (hi : IsR H xi li) (hj : IsL H xj .i64 lj) (hk : IsL H xk .i64 lk) (hl : IsR H xl ll) (hm : IsR H xm lm) (ho : IsR H xo lo) (hp : IsR H xp lp) (hq : IsL H xq .i64 lq) (ja : IsR H ya la) (jb : IsR H yb lb) (jd : IsL H yd .i64 ld) (je : IsR H ye le) (jf : IsR H yf lf) (jg : IsR H yg lg) (jh : IsR H yh lh) (ji : IsR H yi li) (jj : IsL H yj .i64 lj) (jk : IsL H yk .i64 lk) (jl : IsR H yl ll) (jm : IsR H ym lm) (jo : IsR H yo lo) (jp : IsR H yp lp) (jq : IsL H yq .i64 lq) (ba : la.length ≤ 1048576) (bb : lb.length ≤ 1048576) (bd : ld.length ≤ 1048576) (be : le.length ≤ 1048576) (bf : lf.length ≤ 1048576) (bg : lg.length ≤ 1048576) (bh : lh.length ≤ 1048576) (bi : li.length ≤ 1048576) (bj : lj.length ≤ 1048576) (bk : lk.length ≤ 1048576) (bl : ll.length ≤ 1048576) (bm : lm.length ≤ 1048576) (bo : lo.length ≤ 1048576) (bp : lp.length ≤ 1048576) (bq : lq.length ≤ 1048576) :
    ∃ Z : AHeap, Sound Tryd.prog 24 [.agg [xa, xb, xd, .sc (.int .i64 n), .sc (.int .i64 nx), xe, xf, xg, xh, .sc (.int .i64 dr), xi, .sc (.int .i64 nw), .sc (.int .i64 dw), xj, xk, xl, xm, xo, xp, xq], .agg [ya, yb, yd, .sc (.int .i64 n), .sc (.int .i64 nx), ye, yf, yg, yh, .sc (.int .i64 dr), yi, .sc (.int .i64 nw), .sc (.int .i64 dw), yj, yk, yl, ym, yo, yp, yq]] H (.sc (.bool true)) Z ∧ Ext H Z := by
  suffices h : ∃ v Z, Sound Tryd.prog 24 [.agg [xa, xb, xd, .sc (.int .i64 n), .sc (.int .i64 nx), xe, xf, xg, xh, .sc (.int .i64 dr), xi, .sc (.int .i64 nw), .sc (.int .i64 dw), xj, xk, xl, xm, xo, xp, xq], .agg [ya, yb, yd, .sc (.int .i64 n), .sc (.int .i64 nx), ye, yf, yg, yh, .sc (.int .i64 dr), yi, .sc (.int .i64 nw), .sc (.int .i64 dw), yj, yk, yl, ym, yo, yp, yq]] H v Z ∧ v = .sc (.bool true) ∧ Ext H Z by
    obtain ⟨v, Z, h1, rfl, h2⟩ := h
    exact ⟨Z, h1, h2⟩
  refine Sound.runP (args := [.agg [xa, xb, xd, .sc (.int .i64 n), .sc (.int .i64 nx), xe, xf, xg, xh, .sc (.int .i64 dr), xi, .sc (.int .i64 nw), .sc (.int .i64 dw), xj, xk, xl, xm, xo, xp, xq], .agg [ya, yb, yd, .sc (.int .i64 n), .sc (.int .i64 nx), ye, yf, yg, yh, .sc (.int .i64 dr), yi, .sc (.int .i64 nw), .sc (.int .i64 dw), yj, yk, yl, ym, yo, yp, yq]]) 87 [.tmp 4] Tryd.func24 rfl rfl rfl rfl (by simp) (fun v Z => v = .sc (.bool true) ∧ Ext H Z) ?_
  have oa := ha.one
  have pa := ja.one
  have ob := hb.one
  have pb := jb.one
  have od := hd.one
  have pd := jd.one
  have oe := he.one
  have pe := je.one
  have of := hf.one
  have pf := jf.one
  have og := hg.one
  have pg := jg.one
  have oh := hh.one
  have ph := jh.one
  have oi := hi.one
  have pi := ji.one
  have oj := hj.one
  have pj := jj.one
  have ok := hk.one
  have pk := jk.one
  have ol := hl.one
  have pl := jl.one
  have om := hm.one
  have pm := jm.one
  have oo := ho.one
  have po := jo.one
  have op := hp.one
  have pp := jp.one
  have oq := hq.one
  have pq := jq.one
  obtain ⟨A, hA⟩ : ∃ A : Reg, A = ⟨[xa, xb, xd, .sc (.int .i64 n), .sc (.int .i64 nx), xe, xf, xg, xh, .sc (.int .i64 dr), xi, .sc (.int .i64 nw), .sc (.int .i64 dw), xj, xk, xl, xm, xo, xp, xq], true, true⟩ := ⟨_, rfl⟩
  obtain ⟨B, hB⟩ : ∃ B : Reg, B = ⟨[ya, yb, yd, .sc (.int .i64 n), .sc (.int .i64 nx), ye, yf, yg, yh, .sc (.int .i64 dr), yi, .sc (.int .i64 nw), .sc (.int .i64 dw), yj, yk, yl, ym, yo, yp, yq], true, true⟩ := ⟨_, rfl⟩
  have E := Ext.more H [A, B]
  have bA : (H ++ [A, B])[H.length]? = some ⟨[xa, xb, xd, .sc (.int .i64 n), .sc (.int .i64 nx), xe, xf, xg, xh, .sc (.int .i64 dr), xi, .sc (.int .i64 nw), .sc (.int .i64 dw), xj, xk, xl, xm, xo, xp, xq], true, true⟩ := by rw [← hA]; exact hap_0 H [A, B]
  have bB : (H ++ [A, B])[H.length + 1]? = some ⟨[ya, yb, yd, .sc (.int .i64 n), .sc (.int .i64 nx), ye, yf, yg, yh, .sc (.int .i64 dr), yi, .sc (.int .i64 nw), .sc (.int .i64 dw), yj, yk, yl, ym, yo, yp, yq], true, true⟩ := by rw [← hB]; exact hap_k H [A, B] 1
  simp -implicitDefEqProofs only [↓w_seq, ↓w_region, ↓ops_cons, ↓g_box, Nat.reduceLT, ev_tab, par0, cells_agg, ne_eq, Nat.reduceEqDiff, not_false_eq_true, upd_ne, par1, ↓g_assign, ↓ops_nil, ev_const, of_bool, ↓g_fieldAddrT, upd_eq, ↓g_load, alK_some, List.all_cons, pa, pb, pd, one_int, pe, pf, pg, ph, pi, pj, pk, pl, pm, po, pp, pq, List.all_nil, Bool.and_self, fadr76_0, Nat.zero_add, onS_some, rd_def, tyOk43, agg43, cells43, hap_0, List.getElem?_cons_zero, rd_aggc, List.length_cons, List.length_nil, Nat.reduceAdd, Nat.reduceLeDiff, List.drop_zero, List.take_succ_cons, List.take_zero, if_true, true_and, oa, ob, od, oe, of, og, oh, oi, oj, ok, ol, om, oo, op, oq, List.append_assoc, List.cons_append, List.nil_append, List.length_append]
  rw [← hA, ← hB]
  obtain ⟨Z0, c0, x0⟩ := eqArenaS (E.isR ha) (E.isR ja) ba
  refine call1S (by simp -implicitDefEqProofs only [List.map_cons, Nat.reduceLT, ev_tab, ne_eq, Nat.reduceEqDiff, not_false_eq_true, upd_ne, upd_eq, List.map_nil] <;> rfl) c0 ?_
  replace E := E.trans x0
  replace bA := x0.at bA
  replace bB := x0.at bB
  simp -implicitDefEqProofs only [↓ops_cons, ↓g_unOp, Nat.reduceLT, ev_tab, upd_eq, u_not, Bool.not_true, Option.map_some, ↓ops_nil, ↓w_cond, ↓w_seq, ↓w_region, ↓g_assign, ↓w_ret, ev_const, of_bool, retP_1, res_tmp, onS_some, ↓w_skip, ↓g_fieldAddrT, ne_eq, Nat.reduceEqDiff, not_false_eq_true, upd_ne, fadr76_1, Nat.zero_add, ↓g_load, rd_def, tyOk72, agg72, cells72, bB, rd_onec, List.getElem?_cons_succ, List.getElem?_cons_zero, bA, onB_false]
  have c1 := eqClientSS (E.isR hb) (E.isR jb) (Nat.le_trans bb (by decide))
  refine call1S (by simp -implicitDefEqProofs only [List.map_cons, Nat.reduceLT, ev_tab, ne_eq, Nat.reduceEqDiff, not_false_eq_true, upd_ne, upd_eq, List.map_nil] <;> rfl) c1 ?_
  simp -implicitDefEqProofs only [↓ops_cons, ↓g_unOp, Nat.reduceLT, ev_tab, upd_eq, u_not, Bool.not_true, Option.map_some, ↓ops_nil, ↓w_cond, ↓w_seq, ↓w_region, ↓g_assign, ↓w_ret, ev_const, of_bool, retP_1, res_tmp, onS_some, ↓w_skip, ↓g_fieldAddrT, ne_eq, Nat.reduceEqDiff, not_false_eq_true, upd_ne, fadr76_2, Nat.zero_add, ↓g_load, rd_def, tyOk65, agg65, cells65, bB, rd_onec, List.getElem?_cons_succ, List.getElem?_cons_zero, bA, onB_false]
  have c2 := eqIntSS (E.isL hd) (E.isL jd) (Nat.le_trans bd (by decide))
  refine call1S (by simp -implicitDefEqProofs only [List.map_cons, Nat.reduceLT, ev_tab, ne_eq, Nat.reduceEqDiff, not_false_eq_true, upd_ne, upd_eq, List.map_nil] <;> rfl) c2 ?_
  simp -implicitDefEqProofs only [↓ops_cons, ↓g_unOp, Nat.reduceLT, ev_tab, upd_eq, u_not, Bool.not_true, Option.map_some, ↓ops_nil, ↓w_cond, ↓w_seq, ↓w_region, ↓g_assign, ↓w_ret, ev_const, of_bool, retP_1, res_tmp, onS_some, ↓w_skip, ↓g_fieldAddrT, ne_eq, Nat.reduceEqDiff, not_false_eq_true, upd_ne, fadr76_3, Nat.zero_add, ↓g_load, rd_def, tyOk60, agg60, cells60, bB, rd_aggc, Nat.reduceAdd, List.length_cons, List.length_nil, Nat.reduceLeDiff, List.drop_succ_cons, List.drop_zero, List.take_succ_cons, List.take_zero, if_true, bA, onB_false]
  obtain ⟨Z3, c3, x3⟩ := eqGateS n nx dr (E.isR he) (E.isR hf) (E.isR hg) (E.isR hh) (E.isR je) (E.isR jf) (E.isR jg) (E.isR jh) be bf bg bh
  unfold gtv at c3
  refine call1S (by simp -implicitDefEqProofs only [List.map_cons, Nat.reduceLT, ev_tab, ne_eq, Nat.reduceEqDiff, not_false_eq_true, upd_ne, upd_eq, List.map_nil] <;> rfl) c3 ?_
  replace E := E.trans x3
  replace bA := x3.at bA
  replace bB := x3.at bB
  simp -implicitDefEqProofs only [↓ops_cons, ↓g_unOp, Nat.reduceLT, ev_tab, upd_eq, u_not, Bool.not_true, Option.map_some, ↓ops_nil, ↓w_cond, ↓w_seq, ↓w_region, ↓g_assign, ↓w_ret, ev_const, of_bool, retP_1, res_tmp, onS_some, ↓w_skip, ↓g_fieldAddrT, ne_eq, Nat.reduceEqDiff, not_false_eq_true, upd_ne, fadr76_4, Nat.zero_add, ↓g_load, rd_def, tyOk73, agg73, cells73, bB, rd_onec, List.getElem?_cons_succ, List.getElem?_cons_zero, bA, onB_false]
  have c4 := eqLetterSS (E.isR hi) (E.isR ji) (Nat.le_trans bi (by decide))
  refine call1S (by simp -implicitDefEqProofs only [List.map_cons, Nat.reduceLT, ev_tab, ne_eq, Nat.reduceEqDiff, not_false_eq_true, upd_ne, upd_eq, List.map_nil] <;> rfl) c4 ?_
  simp -implicitDefEqProofs only [↓ops_cons, ↓g_unOp, Nat.reduceLT, ev_tab, upd_eq, u_not, Bool.not_true, Option.map_some, ↓ops_nil, ↓w_cond, ↓w_seq, ↓w_region, ↓g_assign, ↓w_ret, ev_const, of_bool, retP_1, res_tmp, onS_some, ↓w_skip, ↓g_fieldAddrT, ne_eq, Nat.reduceEqDiff, not_false_eq_true, upd_ne, fadr76_5, Nat.zero_add, ↓g_load, ↓g_binOp, fadr76_6, fadr76_7, rd_def, tyOk65, agg65, cells65, bB, rd_onec, List.getElem?_cons_succ, List.getElem?_cons_zero, bA, tyOk3, agg3, cells3, b_neq, decide_true, onB_false]
  have c5 := eqIntSS (E.isL hj) (E.isL jj) (Nat.le_trans bj (by decide))
  refine call1S (by simp -implicitDefEqProofs only [List.map_cons, Nat.reduceLT, ev_tab, ne_eq, Nat.reduceEqDiff, not_false_eq_true, upd_ne, upd_eq, List.map_nil] <;> rfl) c5 ?_
  simp -implicitDefEqProofs only [↓ops_cons, ↓g_unOp, Nat.reduceLT, ev_tab, upd_eq, u_not, Bool.not_true, Option.map_some, ↓ops_nil, ↓w_cond, ↓w_seq, ↓w_region, ↓g_assign, ↓w_ret, ev_const, of_bool, retP_1, res_tmp, onS_some, ↓w_skip, ↓g_fieldAddrT, ne_eq, Nat.reduceEqDiff, not_false_eq_true, upd_ne, fadr76_8, Nat.zero_add, ↓g_load, rd_def, tyOk65, agg65, cells65, bB, rd_onec, List.getElem?_cons_succ, List.getElem?_cons_zero, bA, onB_false]
  have c6 := eqIntSS (E.isL hk) (E.isL jk) (Nat.le_trans bk (by decide))
  refine call1S (by simp -implicitDefEqProofs only [List.map_cons, Nat.reduceLT, ev_tab, ne_eq, Nat.reduceEqDiff, not_false_eq_true, upd_ne, upd_eq, List.map_nil] <;> rfl) c6 ?_
  simp -implicitDefEqProofs only [↓ops_cons, ↓g_unOp, Nat.reduceLT, ev_tab, upd_eq, u_not, Bool.not_true, Option.map_some, ↓ops_nil, ↓w_cond, ↓w_seq, ↓w_region, ↓g_assign, ↓w_ret, ev_const, of_bool, retP_1, res_tmp, onS_some, ↓w_skip, ↓g_fieldAddrT, ne_eq, Nat.reduceEqDiff, not_false_eq_true, upd_ne, fadr76_9, Nat.zero_add, ↓g_load, rd_def, tyOk74, agg74, cells74, bB, rd_onec, List.getElem?_cons_succ, List.getElem?_cons_zero, bA, onB_false]
  have c7 := eqNoteSS (E.isR hl) (E.isR jl) (Nat.le_trans bl (by decide))
  refine call1S (by simp -implicitDefEqProofs only [List.map_cons, Nat.reduceLT, ev_tab, ne_eq, Nat.reduceEqDiff, not_false_eq_true, upd_ne, upd_eq, List.map_nil] <;> rfl) c7 ?_
  simp -implicitDefEqProofs only [↓ops_cons, ↓g_unOp, Nat.reduceLT, ev_tab, upd_eq, u_not, Bool.not_true, Option.map_some, ↓ops_nil, ↓w_cond, ↓w_seq, ↓w_region, ↓g_assign, ↓w_ret, ev_const, of_bool, retP_1, res_tmp, onS_some, ↓w_skip, ↓g_fieldAddrT, ne_eq, Nat.reduceEqDiff, not_false_eq_true, upd_ne, fadr76_10, Nat.zero_add, ↓g_load, rd_def, tyOk74, agg74, cells74, bB, rd_onec, List.getElem?_cons_succ, List.getElem?_cons_zero, bA, onB_false]
  have c8 := eqNoteSS (E.isR hm) (E.isR jm) (Nat.le_trans bm (by decide))
  refine call1S (by simp -implicitDefEqProofs only [List.map_cons, Nat.reduceLT, ev_tab, ne_eq, Nat.reduceEqDiff, not_false_eq_true, upd_ne, upd_eq, List.map_nil] <;> rfl) c8 ?_
  simp -implicitDefEqProofs only [↓ops_cons, ↓g_unOp, Nat.reduceLT, ev_tab, upd_eq, u_not, Bool.not_true, Option.map_some, ↓ops_nil, ↓w_cond, ↓w_seq, ↓w_region, ↓g_assign, ↓w_ret, ev_const, of_bool, retP_1, res_tmp, onS_some, ↓w_skip, ↓g_fieldAddrT, ne_eq, Nat.reduceEqDiff, not_false_eq_true, upd_ne, fadr76_11, Nat.zero_add, ↓g_load, rd_def, tyOk74, agg74, cells74, bB, rd_onec, List.getElem?_cons_succ, List.getElem?_cons_zero, bA, onB_false]
  have c9 := eqNoteSS (E.isR ho) (E.isR jo) (Nat.le_trans bo (by decide))
  refine call1S (by simp -implicitDefEqProofs only [List.map_cons, Nat.reduceLT, ev_tab, ne_eq, Nat.reduceEqDiff, not_false_eq_true, upd_ne, upd_eq, List.map_nil] <;> rfl) c9 ?_
  simp -implicitDefEqProofs only [↓ops_cons, ↓g_unOp, Nat.reduceLT, ev_tab, upd_eq, u_not, Bool.not_true, Option.map_some, ↓ops_nil, ↓w_cond, ↓w_seq, ↓w_region, ↓g_assign, ↓w_ret, ev_const, of_bool, retP_1, res_tmp, onS_some, ↓w_skip, ↓g_fieldAddrT, ne_eq, Nat.reduceEqDiff, not_false_eq_true, upd_ne, fadr76_12, Nat.zero_add, ↓g_load, rd_def, tyOk74, agg74, cells74, bB, rd_onec, List.getElem?_cons_succ, List.getElem?_cons_zero, bA, onB_false]
  have c10 := eqNoteSS (E.isR hp) (E.isR jp) (Nat.le_trans bp (by decide))
  refine call1S (by simp -implicitDefEqProofs only [List.map_cons, Nat.reduceLT, ev_tab, ne_eq, Nat.reduceEqDiff, not_false_eq_true, upd_ne, upd_eq, List.map_nil] <;> rfl) c10 ?_
  simp -implicitDefEqProofs only [↓ops_cons, ↓g_unOp, Nat.reduceLT, ev_tab, upd_eq, u_not, Bool.not_true, Option.map_some, ↓ops_nil, ↓w_cond, ↓w_seq, ↓w_region, ↓g_assign, ↓w_ret, ev_const, of_bool, retP_1, res_tmp, onS_some, ↓w_skip, ↓g_fieldAddrT, ne_eq, Nat.reduceEqDiff, not_false_eq_true, upd_ne, fadr76_13, Nat.zero_add, ↓g_load, rd_def, tyOk65, agg65, cells65, bB, rd_onec, List.getElem?_cons_succ, List.getElem?_cons_zero, bA, onB_false]
  have c11 := eqIntSS (E.isL hq) (E.isL jq) (Nat.le_trans bq (by decide))
  refine call1S (by simp -implicitDefEqProofs only [List.map_cons, Nat.reduceLT, ev_tab, ne_eq, Nat.reduceEqDiff, not_false_eq_true, upd_ne, upd_eq, List.map_nil] <;> rfl) c11 ?_
  simp -implicitDefEqProofs only [↓ops_cons, ↓g_unOp, Nat.reduceLT, ev_tab, upd_eq, u_not, Bool.not_true, Option.map_some, ↓ops_nil, ↓w_cond, ↓w_seq, ↓w_region, ↓g_assign, ↓w_ret, ev_const, of_bool, retP_1, res_tmp, onS_some, ↓w_skip, true_and, onB_false]
  exact E
end Go.Proofs.YtfgmmklljibbiaaDoor.Sim

