/- FnExactShowClient: the law returns true. -/
import Derived.Test.YtfgmmklljibbiaaDoorFCli
namespace Go.Proofs.YtfgmmklljibbiaaDoor.Sim
open Go
set_option maxRecDepth 100000
set_option maxHeartbeats 4000000
set_option linter.unusedSimpArgs false
set_option linter.unusedVariables false
theorem wf_le {n : Int} (h : (Lit.int .i64 n).wf = true) : n ≤ 9223372036854775807 := by
  simp only [Lit.wf, Bool.and_eq_true, decide_eq_true_eq] at h
  exact h.2
theorem lawClient (c : Cl) (h1 : c.n ≤ 9223372036854775807) (h2 : c.le ≤ 9223372036854775807) : Fn Tryd.prog 3 [.agg c.cs] (.sc (.bool true)) := by
  refine Fn.run 14 [.tmp 2] Tryd.func3 rfl rfl rfl rfl (by simp) (flats_cons c.flat flats_nil) (.sc _) ?_
  have o : c.cs.all AV.one = true := rfl
  have r : rdT true true 23 (some ⟨c.cs, true, true⟩) 0 = some (.agg c.cs) := rfl
  simp -implicitDefEqProofs only [↓w_seq, ↓w_region, ↓ops_cons, ↓g_box, Nat.reduceLT, ev_tab, par0, cells_agg, ↓g_assign, ↓ops_nil, ev_const, of_bool, ↓g_load, ne_eq, Nat.reduceEqDiff, not_false_eq_true, upd_ne, upd_eq, alK_some, o, List.length_nil, List.nil_append, rd_def, tyOk27, agg27, cells27, List.getElem?_cons_zero, r, onS_some, true_and]
  refine call1 (by simp -implicitDefEqProofs only [List.map_cons, Nat.reduceLT, ev_tab, upd_eq, List.map_nil] <;> rfl) (toClientS c) ?_
  simp -implicitDefEqProofs only [↓ops_cons]
  refine call1 (by simp -implicitDefEqProofs only [List.map_cons, Nat.reduceLT, ev_tab, upd_eq, List.map_nil] <;> rfl) (showCliS c h1 h2) ?_
  simp -implicitDefEqProofs only [↓ops_cons, ↓g_assign, ↓ops_nil, ↓w_seq, ↓w_region, Nat.reduceLT, ev_tab, upd_eq, ↓g_load, ne_eq, Nat.reduceEqDiff, not_false_eq_true, upd_ne, rd_def, tyOk27, agg27, cells27, List.getElem?_cons_zero, r, onS_some]
  refine call1 (by simp -implicitDefEqProofs only [List.map_cons, Nat.reduceLT, ev_tab, upd_eq, List.map_nil] <;> rfl) (toClientS c) ?_
  simp -implicitDefEqProofs only [↓ops_cons]
  refine call1 (by simp -implicitDefEqProofs only [List.map_cons, Nat.reduceLT, ev_tab, upd_eq, List.map_nil] <;> rfl) (showCliI c h1 h2) ?_
  simp -implicitDefEqProofs only [↓ops_cons, ↓g_assign, ↓ops_nil, ↓w_seq, ↓w_region, Nat.reduceLT, ev_tab, upd_eq, ↓g_move, ↓g_binOp, ne_eq, Nat.reduceEqDiff, not_false_eq_true, upd_ne, t_neq, beq_self_eq_true, Bool.not_true, ↓w_cond, ↓w_ret, ev_const, of_bool, ret_one, ↓w_skip, onS_some, onB_false]
theorem lawFnExactShowClient (H : AHeap) (n : Int) (_wn : (Lit.int .i64 n).wf = true) (g : Int) (_wg : (Lit.int .i64 g).wf = true) (m : Int) (_wm : (Lit.int .i64 m).wf = true) (s : Int) (_ws : (Lit.int .i64 s).wf = true) (d : Int) (_wd : (Lit.int .i64 d).wf = true) (k : Bool) (h : Int) (_wh : (Lit.int .i64 h).wf = true) (sd : Int) (_wsd : (Lit.int .i64 sd).wf = true) (hd : Int) (_whd : (Lit.int .i64 hd).wf = true) (la : Int) (_wla : (Lit.int .i64 la).wf = true) (le : Int) (_wle : (Lit.int .i64 le).wf = true) (c0 : Int) (_wc0 : (Lit.int .i64 c0).wf = true) (c1 : Int) (_wc1 : (Lit.int .i64 c1).wf = true) (c2 : Int) (_wc2 : (Lit.int .i64 c2).wf = true) (c3 : Int) (_wc3 : (Lit.int .i64 c3).wf = true) (c4 : Int) (_wc4 : (Lit.int .i64 c4).wf = true) (c5 : Int) (_wc5 : (Lit.int .i64 c5).wf = true) (c6 : Int) (_wc6 : (Lit.int .i64 c6).wf = true) (c7 : Int) (_wc7 : (Lit.int .i64 c7).wf = true) (c8 : Int) (_wc8 : (Lit.int .i64 c8).wf = true) (du : Int) (_wdu : (Lit.int .i64 du).wf = true) (w : Int) (_ww : (Lit.int .i64 w).wf = true) (t : Int) (_wt : (Lit.int .i64 t).wf = true) : ∃ H', Sound Tryd.prog 3 [.agg [.sc (.int .i64 n), .sc (.int .i64 g), .sc (.int .i64 m), .sc (.int .i64 s), .sc (.int .i64 d), .sc (.bool k), .sc (.int .i64 h), .sc (.int .i64 sd), .sc (.int .i64 hd), .sc (.int .i64 la), .sc (.int .i64 le), .sc (.int .i64 c0), .sc (.int .i64 c1), .sc (.int .i64 c2), .sc (.int .i64 c3), .sc (.int .i64 c4), .sc (.int .i64 c5), .sc (.int .i64 c6), .sc (.int .i64 c7), .sc (.int .i64 c8), .sc (.int .i64 du), .sc (.int .i64 w), .sc (.int .i64 t)]] H (.sc (.bool true)) H' :=
  ⟨H, lawClient ⟨n, g, m, s, d, k, h, sd, hd, la, le, c0, c1, c2, c3, c4, c5, c6, c7, c8, du, w, t⟩ (wf_le _wn) (wf_le _wle) H⟩
end Go.Proofs.YtfgmmklljibbiaaDoor.Sim

