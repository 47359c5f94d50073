/- FnExactShowWorld: the law returns true. By wip/tools/worldlaw.py. -/
import Derived.Test.YtfgmmklljibbiaaDoorFWorld
import Derived.Test.YtfgmmklljibbiaaDoorFShW
namespace Go.Proofs.YtfgmmklljibbiaaDoor.Sim
open Go
set_option maxRecDepth 100000
set_option maxHeartbeats 40000000
set_option linter.unusedSimpArgs false
set_option linter.unusedVariables false
theorem lawFnExactShowWorld (H : AHeap) (xa : AV) (la : List (Rw kNode)) (Ba : la.length ≤ 9223372036854775807) (ha : IsR H xa la) (xb : AV) (lb : List (Rw kClient)) (Bb : lb.length ≤ 9223372036854775807) (hb : IsR H xb lb) (xd : AV) (ld : List Int) (Bd : ld.length ≤ 9223372036854775807) (hd : IsL H xd .i64 ld) (n : Int) (wn : (Lit.int .i64 n).wf = true) (nx : Int) (wnx : (Lit.int .i64 nx).wf = true) (xe : AV) (le : List (Rw kSess)) (Be : le.length ≤ 9223372036854775807) (he : IsR H xe le) (xf : AV) (lf : List (Rw kLease)) (Bf : lf.length ≤ 9223372036854775807) (hf : IsR H xf lf) (xg : AV) (lg : List (Rw kRoute)) (Bg : lg.length ≤ 9223372036854775807) (hg : IsR H xg lg) (xh : AV) (lh : List (Rw kOut)) (Bh : lh.length ≤ 9223372036854775807) (hh : IsR H xh lh) (dr : Int) (wdr : (Lit.int .i64 dr).wf = true) (xi : AV) (li : List (Rw kLetter)) (Bi : li.length ≤ 9223372036854775807) (hi : IsR H xi li) (nw : Int) (wnw : (Lit.int .i64 nw).wf = true) (dw : Int) (wdw : (Lit.int .i64 dw).wf = true) (xj : AV) (lj : List Int) (Bj : lj.length ≤ 9223372036854775807) (hj : IsL H xj .i64 lj) (xk : AV) (lk : List Int) (Bk : lk.length ≤ 9223372036854775807) (hk : IsL H xk .i64 lk) (xl : AV) (ll : List (Rw kNote)) (Bl : ll.length ≤ 9223372036854775807) (hl : IsR H xl ll) (xm : AV) (lm : List (Rw kNote)) (Bm : lm.length ≤ 9223372036854775807) (hm : IsR H xm lm) (xo : AV) (lo : List (Rw kNote)) (Bo : lo.length ≤ 9223372036854775807) (ho : IsR H xo lo) (xp : AV) (lp : List (Rw kNote)) (Bp : lp.length ≤ 9223372036854775807) (hp : IsR H xp lp) (xq : AV) (lq : List Int) (Bq : lq.length ≤ 9223372036854775807) (hq : IsL H xq .i64 lq) :
    ∃ H', Sound Tryd.prog 6 [.agg [xa, xb, xd, .sc (.int .i64 n), .sc (.int .i64 nx), xe, xf, xg, xh, .sc (.int .i64 dr), xi, .sc (.int .i64 nw), .sc (.int .i64 dw), xj, xk, xl, xm, xo, xp, xq]] H (.sc (.bool true)) H' := by
  have key : ∃ v H', Sound Tryd.prog 6 [.agg [xa, xb, xd, .sc (.int .i64 n), .sc (.int .i64 nx), xe, xf, xg, xh, .sc (.int .i64 dr), xi, .sc (.int .i64 nw), .sc (.int .i64 dw), xj, xk, xl, xm, xo, xp, xq]] H v H' ∧ v = .sc (.bool true) := by
    refine Sound.runP (args := [.agg [xa, xb, xd, .sc (.int .i64 n), .sc (.int .i64 nx), xe, xf, xg, xh, .sc (.int .i64 dr), xi, .sc (.int .i64 nw), .sc (.int .i64 dw), xj, xk, xl, xm, xo, xp, xq]]) 27 [.tmp 2] Tryd.func6 rfl rfl rfl rfl (by simp) (fun v Z => v = .sc (.bool true)) ?_
    have oa := ha.one
    have ob := hb.one
    have od := hd.one
    have oe := he.one
    have of := hf.one
    have og := hg.one
    have oh := hh.one
    have oi := hi.one
    have oj := hj.one
    have ok := hk.one
    have ol := hl.one
    have om := hm.one
    have oo := ho.one
    have op := hp.one
    have oq := hq.one
    obtain ⟨A, hA⟩ : ∃ A : Reg, A = ⟨[xa, xb, xd, .sc (.int .i64 n), .sc (.int .i64 nx), xe, xf, xg, xh, .sc (.int .i64 dr), xi, .sc (.int .i64 nw), .sc (.int .i64 dw), xj, xk, xl, xm, xo, xp, xq], true, true⟩ := ⟨_, rfl⟩
    have e0 := Ext.more H [A]
    have a0 : (H ++ [A])[H.length]? = some ⟨[xa, xb, xd, .sc (.int .i64 n), .sc (.int .i64 nx), xe, xf, xg, xh, .sc (.int .i64 dr), xi, .sc (.int .i64 nw), .sc (.int .i64 dw), xj, xk, xl, xm, xo, xp, xq], true, true⟩ := by rw [← hA]; exact hap_0 H [A]
    obtain ⟨kk, Z1, c1, c2, c4⟩ := szWorldS n nx dr nw dw (e0.isR ha) (e0.isR hb) (e0.isL hd) (e0.isR he) (e0.isR hf) (e0.isR hg) (e0.isR hh) (e0.isR hi) (e0.isL hj) (e0.isL hk) (e0.isR hl) (e0.isR hm) (e0.isR ho) (e0.isR hp) (e0.isL hq) Ba Bb Bd Be Bf Bg Bh Bi Bj Bk Bl Bm Bo Bp Bq
    by_cases hK : kk < 0
    · simp -implicitDefEqProofs only [↓w_seq, ↓w_region, ↓ops_cons, ↓g_box, Nat.reduceLT, ev_tab, par0, cells_agg, ↓g_assign, ↓ops_nil, ev_const, of_bool, of_int, ↓g_load, ne_eq, Nat.reduceEqDiff, not_false_eq_true, upd_ne, upd_eq, ↓g_move, alK_some, List.all_cons, oa, ob, od, one_int, oe, of, og, oh, oi, oj, ok, ol, om, oo, op, oq, List.all_nil, Bool.and_self, rd_def, tyOk69, agg69, cells69, hap_0, List.getElem?_cons_zero, rd_aggc, Nat.zero_add, List.length_cons, List.length_nil, Nat.reduceAdd, Nat.le_refl, List.drop_zero, List.take_succ_cons, List.take_zero, if_true, onS_some, true_and]
      rw [← hA]
      refine call1S (by simp -implicitDefEqProofs only [List.map_cons, Nat.reduceLT, ev_tab, ne_eq, Nat.reduceEqDiff, not_false_eq_true, upd_ne, upd_eq, List.map_nil] <;> rfl) c1 ?_
      simp -implicitDefEqProofs only [↓ops_cons, ↓g_assign, ↓ops_nil, ↓w_seq, ↓w_region, Nat.reduceLT, ev_tab, upd_eq, ↓g_move, ↓g_binOp, ev_const, of_int, b_lss, hK, decide_true, ↓w_cond, ↓w_ret, of_bool, retP_1, res_tmp, onS_some, ↓w_skip, ↓g_load, ne_eq, Nat.reduceEqDiff, not_false_eq_true, upd_ne, rd_def, tyOk69, agg69, cells69, onB_true]
    · have hbs := c4 hK
      have e1 := e0.trans c2
      have ba : la.length ≤ 1048576 := by omega
      have bb : lb.length ≤ 1048576 := by omega
      have bd : ld.length ≤ 1048576 := by omega
      have be : le.length ≤ 1048576 := by omega
      have bf : lf.length ≤ 1048576 := by omega
      have bg : lg.length ≤ 1048576 := by omega
      have bh : lh.length ≤ 1048576 := by omega
      have bi : li.length ≤ 1048576 := by omega
      have bj : lj.length ≤ 1048576 := by omega
      have bk : lk.length ≤ 1048576 := by omega
      have bl : ll.length ≤ 1048576 := by omega
      have bm : lm.length ≤ 1048576 := by omega
      have bo : lo.length ≤ 1048576 := by omega
      have bp : lp.length ≤ 1048576 := by omega
      have bq : lq.length ≤ 1048576 := by omega
      clear hbs c4
      obtain ⟨ya, yb, yd, ye, yf, yg, yh, yi, yj, yk, yl, ym, yo, yp, yq, Z2, d1, d2, y_a, y_b, y_d, y_e, y_f, y_g, y_h, y_i, y_j, y_k, y_l, y_m, y_o, y_p, y_q⟩ := toWorldS n nx dr nw dw (e1.isR ha) (e1.isR hb) (e1.isL hd) (e1.isR he) (e1.isR hf) (e1.isR hg) (e1.isR hh) (e1.isR hi) (e1.isL hj) (e1.isL hk) (e1.isR hl) (e1.isR hm) (e1.isR ho) (e1.isR hp) (e1.isL hq) ba bb bd be bf bg bh bi bj bk bl bm bo bp bq
      obtain ⟨Z3, g1, g2⟩ := showWorldS n nx dr nw dw y_b y_e y_h y_p y_a.one y_d.one y_f.one y_g.one y_i.one y_j.one y_k.one y_l.one y_m.one y_o.one y_q.one bb be bh bp (wf_le wdr)
      have e3 := (e1.trans d2).trans g2
      obtain ⟨za, zb, zd, ze, zf, zg, zh, zi, zj, zk, zl, zm, zo, zp, zq, Z4, i1, i2, z_a, z_b, z_d, z_e, z_f, z_g, z_h, z_i, z_j, z_k, z_l, z_m, z_o, z_p, z_q⟩ := toWorldS n nx dr nw dw (e3.isR ha) (e3.isR hb) (e3.isL hd) (e3.isR he) (e3.isR hf) (e3.isR hg) (e3.isR hh) (e3.isR hi) (e3.isL hj) (e3.isL hk) (e3.isR hl) (e3.isR hm) (e3.isR ho) (e3.isR hp) (e3.isL hq) ba bb bd be bf bg bh bi bj bk bl bm bo bp bq
      have zao := z_a.one
      have zbo := z_b.one
      have zdo := z_d.one
      have zeo := z_e.one
      have zfo := z_f.one
      have zgo := z_g.one
      have zho := z_h.one
      have zio := z_i.one
      have zjo := z_j.one
      have zko := z_k.one
      have zlo := z_l.one
      have zmo := z_m.one
      have zoo := z_o.one
      have zpo := z_p.one
      have zqo := z_q.one
      obtain ⟨B, hB⟩ : ∃ B : Reg, B = ⟨[za, zb, zd, .sc (.int .i64 n), .sc (.int .i64 nx), ze, zf, zg, zh, .sc (.int .i64 dr), zi, .sc (.int .i64 nw), .sc (.int .i64 dw), zj, zk, zl, zm, zo, zp, zq], true, true⟩ := ⟨_, rfl⟩
      have x4' := Ext.more Z4 [B]
      have bB : (Z4 ++ [B])[Z4.length]? = some ⟨[za, zb, zd, .sc (.int .i64 n), .sc (.int .i64 nx), ze, zf, zg, zh, .sc (.int .i64 dr), zi, .sc (.int .i64 nw), .sc (.int .i64 dw), zj, zk, zl, zm, zo, zp, zq], true, true⟩ := by rw [← hB]; exact hap_0 Z4 [B]
      obtain ⟨Z5, j1, j2⟩ := showWorldI n nx dr nw dw (x4'.isR z_b) (x4'.isR z_e) (x4'.isR z_h) (x4'.isR z_p) zao zdo zfo zgo zio zjo zko zlo zmo zoo zqo bb be bh bp (wf_le wdr)
      have m5 := x4'.trans j2
      have e5 := (e3.trans i2).trans m5
      have b5 := j2.at bB
      have a1 := c2.at a0
      have a3 := g2.at (d2.at a1)
      have a5 := m5.at (i2.at a3)
      obtain ⟨wa, wb, wd, we, wf, wg, wh, wi, wj, wk, wl, wm, wo, wp, wq, Z6, p1, p2, w_a, w_b, w_d, w_e, w_f, w_g, w_h, w_i, w_j, w_k, w_l, w_m, w_o, w_p, w_q⟩ := toWorldS n nx dr nw dw (e5.isR ha) (e5.isR hb) (e5.isL hd) (e5.isR he) (e5.isR hf) (e5.isR hg) (e5.isR hh) (e5.isR hi) (e5.isL hj) (e5.isL hk) (e5.isR hl) (e5.isR hm) (e5.isR ho) (e5.isR hp) (e5.isL hq) ba bb bd be bf bg bh bi bj bk bl bm bo bp bq
      have m6 := m5.trans p2
      have b6 := p2.at b5
      obtain ⟨Z7, r1, r2⟩ := eqWorldS n nx dr nw dw (m6.isR z_a) (m6.isR z_b) (m6.isL z_d) (m6.isR z_e) (m6.isR z_f) (m6.isR z_g) (m6.isR z_h) (m6.isR z_i) (m6.isL z_j) (m6.isL z_k) (m6.isR z_l) (m6.isR z_m) (m6.isR z_o) (m6.isR z_p) (m6.isL z_q) w_a w_b w_d w_e w_f w_g w_h w_i w_j w_k w_l w_m w_o w_p w_q ba bb bd be bf bg bh bi bj bk bl bm bo bp bq
      have b7 := r2.at b6
      simp -implicitDefEqProofs only [↓w_seq, ↓w_region, ↓ops_cons, ↓g_box, Nat.reduceLT, ev_tab, par0, cells_agg, ↓g_assign, ↓ops_nil, ev_const, of_bool, of_int, ↓g_load, ne_eq, Nat.reduceEqDiff, not_false_eq_true, upd_ne, upd_eq, ↓g_move, alK_some, List.all_cons, oa, ob, od, one_int, oe, of, og, oh, oi, oj, ok, ol, om, oo, op, oq, List.all_nil, Bool.and_self, rd_def, tyOk69, agg69, cells69, hap_0, List.getElem?_cons_zero, rd_aggc, Nat.zero_add, List.length_cons, List.length_nil, Nat.reduceAdd, Nat.le_refl, List.drop_zero, List.take_succ_cons, List.take_zero, if_true, onS_some, true_and]
      rw [← hA]
      refine call1S (by simp -implicitDefEqProofs only [List.map_cons, Nat.reduceLT, ev_tab, ne_eq, Nat.reduceEqDiff, not_false_eq_true, upd_ne, upd_eq, List.map_nil] <;> rfl) c1 ?_
      try simp -implicitDefEqProofs only [↓ops_cons, ↓g_assign, ↓ops_nil, ↓w_seq, ↓w_region, Nat.reduceLT, ev_tab, upd_eq, ↓g_move, ↓g_binOp, ev_const, of_int, b_lss, hK, decide_false, ↓w_cond, ↓w_ret, of_bool, retP_1, res_tmp, onS_some, ↓w_skip, ↓g_load, ne_eq, Nat.reduceEqDiff, not_false_eq_true, upd_ne, rd_def, tyOk69, agg69, cells69, a1, rd_aggc, Nat.zero_add, List.length_cons, List.length_nil, Nat.reduceAdd, Nat.le_refl, List.drop_zero, List.take_succ_cons, List.take_zero, if_true, onB_false]
      refine call1S (by simp -implicitDefEqProofs only [List.map_cons, Nat.reduceLT, ev_tab, upd_eq, List.map_nil] <;> rfl) d1 ?_
      try simp -implicitDefEqProofs only [↓ops_cons]
      refine call1S (by simp -implicitDefEqProofs only [List.map_cons, Nat.reduceLT, ev_tab, upd_eq, List.map_nil] <;> rfl) g1 ?_
      try simp -implicitDefEqProofs only [↓ops_cons, ↓g_assign, ↓ops_nil, ↓w_seq, ↓w_region, Nat.reduceLT, ev_tab, upd_eq, ↓g_load, ne_eq, Nat.reduceEqDiff, not_false_eq_true, upd_ne, rd_def, tyOk69, agg69, cells69, a3, rd_aggc, Nat.zero_add, List.length_cons, List.length_nil, Nat.reduceAdd, Nat.le_refl, List.drop_zero, List.take_succ_cons, List.take_zero, if_true, onS_some]
      refine call1S (by simp -implicitDefEqProofs only [List.map_cons, Nat.reduceLT, ev_tab, upd_eq, List.map_nil] <;> rfl) i1 ?_
      try simp -implicitDefEqProofs only [↓ops_cons, ↓g_alloc, zero76, Option.map_some, ↓g_store, Nat.reduceLT, ev_tab, upd_eq, ne_eq, Nat.reduceEqDiff, not_false_eq_true, upd_ne, ↓ops_nil, ↓w_seq, ↓w_region, ↓g_load, alK_some, List.all_cons, one_nil, one_int, List.all_nil, Bool.and_self, wr_def, tyOk76, cells76, hap_0, List.getElem?_cons_zero, wr_c, cells_agg, List.length_cons, List.length_nil, Nat.zero_add, Nat.reduceAdd, Nat.le_refl, zao, zbo, zdo, zeo, zfo, zgo, zho, zio, zjo, zko, zlo, zmo, zoo, zpo, zqo, and_self, ovC, ovN, hset_0, List.set_cons_zero, if_true, rd_def, agg76, onS_some, rd_aggc, List.drop_zero, List.take_succ_cons, List.take_zero, true_and]
      rw [← hB]
      try simp -implicitDefEqProofs only []
      refine call1S (by simp -implicitDefEqProofs only [List.map_cons, Nat.reduceLT, ev_tab, upd_eq, List.map_nil] <;> rfl) j1 ?_
      try simp -implicitDefEqProofs only [↓ops_cons, ↓g_assign, ↓ops_nil, ↓w_seq, ↓w_region, Nat.reduceLT, ev_tab, upd_eq, ↓g_move, ↓g_binOp, ne_eq, Nat.reduceEqDiff, not_false_eq_true, upd_ne, t_neq, beq_self_eq_true, Bool.not_true, ↓w_cond, ↓w_ret, ev_const, of_bool, retP_1, res_tmp, onS_some, ↓w_skip, onB_false]
      refine drawn [(0, 0), (0, 3), (1, 0)] follows (by kernel_rfl) (by kernel_rfl) ?_
      try simp -implicitDefEqProofs only [↓dops_cons, ↓g_load, Nat.reduceLT, ev_tab, ne_eq, Nat.reduceEqDiff, not_false_eq_true, upd_ne, upd_eq, rd_def, tyOk76, agg76, cells76, b5, rd_aggc, Nat.zero_add, List.length_cons, List.length_nil, Nat.reduceAdd, Nat.le_refl, List.drop_zero, List.take_succ_cons, List.take_zero, if_true, tyOk69, agg69, cells69, a5, onS_some]
      refine call1S (by simp -implicitDefEqProofs only [List.map_cons, Nat.reduceLT, ev_tab, upd_eq, List.map_nil] <;> rfl) p1 ?_
      try simp -implicitDefEqProofs only [↓dops_cons]
      refine call1S (by simp -implicitDefEqProofs only [List.map_cons, Nat.reduceLT, ev_tab, ne_eq, Nat.reduceEqDiff, not_false_eq_true, upd_ne, upd_eq, List.map_nil] <;> rfl) r1 ?_
      try simp -implicitDefEqProofs only [↓dops_cons, ↓g_unOp, Nat.reduceLT, ev_tab, upd_eq, u_not, Bool.not_true, Option.map_some, ↓dops_p, ↓w_cond, ↓w_seq, ↓w_region, ↓ops_cons, ↓g_assign, ↓ops_nil, ↓w_ret, ev_const, of_bool, retP_1, res_tmp, onS_some, ↓w_skip, onB_false, and_true]
      exact pairs_cons (same_H rfl) (pairs_cons (same_ld _ _ Z4.length 0 rfl rfl (b6.trans b5.symm)) (pairs_cons (same_H rfl) pairs_nil))
  obtain ⟨v, H', h1, rfl⟩ := key
  exact ⟨H', h1⟩
end Go.Proofs.YtfgmmklljibbiaaDoor.Sim

