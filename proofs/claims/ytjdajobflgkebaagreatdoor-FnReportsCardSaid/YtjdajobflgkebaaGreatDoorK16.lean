/- Texts of this proof, put together and made small by a program: part 16. -/
import Derived.Test.YtjdajobflgkebaaGreatDoorK15
import Derived.Test.YtjdajobflgkebaaGreatDoorRows
import Derived.Lib.LaidTab
import Derived.MakeChecks
import Derived.Stop.LaidErr
set_option linter.all false
set_option maxRecDepth 100000
set_option maxHeartbeats 40000000
namespace Go.Proofs.YtjdajobflgkebaaGreatDoor.Sim
open Go
section
attribute [local irreducible] kO uW kR wQ
theorem w64_le {z:Int}(h:W64 z):z≤9223372036854775807:=by
 unfold W64 at h
 omega
theorem lawFnReports (H : qE) (x : AV) (L : List Int) (hL0 : L.length ≤ 9223372036854775807) (hx : IsL H x .u8 L) : ∃ H', Sound Tryz.prog 3 [x] H (.sc (.bool true)) H' := by
  have key : ∃ v H', Sound Tryz.prog 3 [x] H v H' ∧ v = .sc (.bool true) := by
    refine Sound.runP (args := [x]) 78 [.tmp 2] Tryz.func3 rfl rfl rfl rfl (by simp) (fun v Z => v = .sc (.bool true)) ?_
    have hb := bigS hx
    by_cases hL : L.length ≤ 1048576
    · rw [decide_eq_false (show ¬ (1048576 : Int) < L.length by omega)] at hb
      replace hL : L.length ≤ 4000000 := by omega
      obtain ⟨ds, Z1, a1, e1, v⟩ := drawShowWorld hx hL
      have lds : ds.length = 20 := v.len
      have ods := v.ones
      match ds, lds with
      | [xa, xb, xd, x3, x4, xe, xf, xg, xh, x9, xi, x11, x12, xj, xk, xl, xm, xo, xp, xq], _ =>
      have wr := fun H r => yX wX rfl ods H r
      have oa := (v.ok 0 _ _ rfl rfl).one
      have od := (v.ok 2 _ _ rfl rfl).one
      obtain ⟨n, hn, _⟩ := v.ok 3 (.int W64) _ rfl rfl
      obtain ⟨nx, hnx, _⟩ := v.ok 4 (.int W64) _ rfl rfl
      have of := (v.ok 6 _ _ rfl rfl).one
      have og := (v.ok 7 _ _ rfl rfl).one
      obtain ⟨dr, hdr, wdr⟩ := v.ok 9 (.int W64) _ rfl rfl
      have oi := (v.ok 10 _ _ rfl rfl).one
      obtain ⟨nw, hnw, _⟩ := v.ok 11 (.int W64) _ rfl rfl
      obtain ⟨dw, hdw, _⟩ := v.ok 12 (.int W64) _ rfl rfl
      have oj := (v.ok 13 _ _ rfl rfl).one
      have ok := (v.ok 14 _ _ rfl rfl).one
      have ol := (v.ok 15 _ _ rfl rfl).one
      have om := (v.ok 16 _ _ rfl rfl).one
      have oo := (v.ok 17 _ _ rfl rfl).one
      have oq := (v.ok 19 _ _ rfl rfl).one
      obtain ⟨lb, hb1, bb⟩ := v.ok 1 (xV kClient 23 (· ≤ 500000)) _ rfl rfl
      obtain ⟨le, he1, be⟩ := v.ok 5 (xV kSess 20 (· ≤ 500000)) _ rfl rfl
      obtain ⟨lh, hh1, bh⟩ := v.ok 8 (xV kOut 5 (· ≤ 500000)) _ rfl rfl
      obtain ⟨lp, hp1, bp⟩ := v.ok 18 (xV kA 7 (· ≤ 500000)) _ rfl rfl
      dsimp only at bb be bh bp
      subst hn hnx hdr hnw hdw
      replace hb1 := hb1.rdx.isR
      replace he1 := he1.rdx.isR
      replace hh1 := hh1.rdx.isR
      replace hp1 := hp1.rdx.isR
      have hd := w64_le wdr
      clear v
      obtain ⟨H2, hH2⟩ : ∃ Y : qE, Y = List.set (Z1 ++ [⟨zW, true, true⟩]) Z1.length ⟨[xa, xb, xd, .sc (.int .i64 n), .sc (.int .i64 nx), xe, xf, xg, xh, .sc (.int .i64 dr), xi, .sc (.int .i64 nw), .sc (.int .i64 dw), xj, xk, xl, xm, xo, xp, xq], true, true⟩ := ⟨_, rfl⟩
      have e2 : Ext Z1 H2 := by rw [hH2]; exact (Ext.more Z1 _).set (Nat.le_refl _) _
      have b2 : H2[Z1.length]? = some ⟨[xa, xb, xd, .sc (.int .i64 n), .sc (.int .i64 nx), xe, xf, xg, xh, .sc (.int .i64 dr), xi, .sc (.int .i64 nw), .sc (.int .i64 dw), xj, xk, xl, xm, xo, xp, xq], true, true⟩ := by rw [hH2]; exact List.getElem?_set_self (by simp)
      obtain ⟨Z3, a3, e3⟩ := showWorldI n nx dr nw dw (e2.isR hb1) (e2.isR he1) (e2.isR hh1) (e2.isR hp1) oa od of og oi oj ok ol om oo oq (by omega) (by omega) (by omega) (by omega) hd
      have nS := nl_world lb le dr lh lp.length
      have sS : (worldT lb (kF (kZ le dr) lh) lp.length).size ≤ 1000000000 := by
        have s1 := clsT_size lb
        have s2 := outsT_size (kZ le dr) lh
        have s3 := gateH_size le dr (by omega) hd
        have s4 := yM lp.length (by omega)
        have s5 : ((⟨#[103, 111, 116, 32]⟩ : ByteArray)).size = 4 := rfl
        have s6 : ((⟨#[10]⟩ : ByteArray)).size = 1 := rfl
        simp only [worldT, ByteArray.size_append]
        omega
      have E3 := (e1.trans e2).trans e3
      have b3 := e3.at b2
      obtain ⟨a, l, k, Z4, a4, e4, on, ll, _, _, _⟩ := drawShowTerm (jC hx E3) hL
      have ow : a.cells = [a] ∧ a.one = true := OwnF.one on
      have wr1 := fun (Hh : qE) => yX (cs := [AV.sc (.slice none 0 0)]) (ds := [a]) (m := 1) rfl rfl (by simp [ow.2]) Hh
      obtain ⟨H5, hH5⟩ : ∃ Y : qE, Y = List.set (Z4 ++ [⟨[.sc (.slice none 0 0)], true, true⟩]) Z4.length ⟨[a], true, true⟩ := ⟨_, rfl⟩
      have e5 : Ext Z4 H5 := by rw [hH5]; exact (Ext.more Z4 _).set (Nat.le_refl _) _
      have b5 : H5[Z4.length]? = some ⟨[a], true, true⟩ := by rw [hH5]; exact List.getElem?_set_self (by simp)
      have E5 := (E3.trans e4).trans e5
      obtain ⟨p, Z6, a6, e6⟩ := drawShowClient (jC hx E5) hL
      obtain ⟨H7, hH7⟩ : ∃ Y : qE, Y = List.set (Z6 ++ [⟨zC, true, true⟩]) Z6.length ⟨p.cs, true, true⟩ := ⟨_, rfl⟩
      have e7 : Ext Z6 H7 := by rw [hH7]; exact (Ext.more Z6 _).set (Nat.le_refl _) _
      have b7 : H7[Z6.length]? = some ⟨p.cs, true, true⟩ := by rw [hH7]; exact List.getElem?_set_self (by simp)
      have plen : p.cs.length = 23 := p.cs_len
      have wr2 := fun H r => yX zC_len plen p.ones H r
      have rdp := fun (o : Bool) => wU plen o
      have E7 := (E5.trans e6).trans e7
      obtain ⟨gs, Z8, a8, e8, v8⟩ := drawShowGate (jC hx E7) hL
      have lgs : gs.length = 7 := v8.len
      have ogs := v8.ones
      match gs, lgs with
      | [y0, y1, y2, y3, y4, y5, y6], _ =>
      have wr3 := fun H r => yX zG_len rfl ogs H r
      obtain ⟨gn, hgn, _⟩ := v8.ok 0 (.int W64) _ rfl rfl
      obtain ⟨gx, hgx, _⟩ := v8.ok 1 (.int W64) _ rfl rfl
      obtain ⟨ge, hge, be2⟩ := v8.ok 2 (xV kSess 20 (· ≤ 20000)) _ rfl rfl
      have o3 := (v8.ok 3 _ _ rfl rfl).one
      have o4 := (v8.ok 4 _ _ rfl rfl).one
      obtain ⟨gh, hgh, bh2⟩ := v8.ok 5 (xV kOut 5 (· ≤ 20000)) _ rfl rfl
      obtain ⟨gd, hgd, wgd⟩ := v8.ok 6 (.int W64) _ rfl rfl
      dsimp only at be2 bh2
      subst hgn hgx hgd
      replace hge := hge.rdx.isR
      replace hgh := hgh.rdx.isR
      have hd2 := w64_le wgd
      clear v8
      obtain ⟨H9, hH9⟩ : ∃ Y : qE, Y = List.set (Z8 ++ [⟨zG, true, true⟩]) Z8.length ⟨[.sc (.int .i64 gn), .sc (.int .i64 gx), y2, y3, y4, y5, .sc (.int .i64 gd)], true, true⟩ := ⟨_, rfl⟩
      have e9 : Ext Z8 H9 := by rw [hH9]; exact (Ext.more Z8 _).set (Nat.le_refl _) _
      have b9 : H9[Z8.length]? = some ⟨[.sc (.int .i64 gn), .sc (.int .i64 gx), y2, y3, y4, y5, .sc (.int .i64 gd)], true, true⟩ := by rw [hH9]; exact List.getElem?_set_self (by simp)
      have F9 := e8.trans e9
      have F7 := (e6.trans e7).trans F9
      have F4 := e5.trans F7
      have F3 := e4.trans F4
      have F2 := e2.trans (e3.trans F3)
      have w9 := F3.at b3
      have t9 := F7.at b5
      have c9 := F9.at b7
      obtain ⟨Z10, a10, e10⟩ := showWorldS n nx dr nw dw (F2.isR hb1) (F2.isR he1) (F2.isR hh1) (F2.isR hp1) oa od of og oi oj ok ol om oo oq (by omega) (by omega) (by omega) (by omega) hd
      have t10 := e10.at t9
      obtain ⟨t, ht⟩ := show_is l k
      obtain ⟨Z11, a11, e11⟩ := showTI ((OwnN.rd on).ext (F4.trans e10)) (by omega) k t ht
      have t11 := e11.at t10
      obtain ⟨Z12, a12, e12⟩ := showTS ((OwnN.rd on).ext ((F4.trans e10).trans e11)) (by omega) k t ht
      have G12 := (e10.trans e11).trans e12
      have c12 := G12.at c9
      have g12 := G12.at b9
      have cI := showCliI (clOf p) (cl_n p) (cl_le p)
      have cS := showCliS (clOf p) (cl_n p) (cl_le p)
      rw [← clOf_cs] at cI cS
      obtain ⟨Z13, a13, e13⟩ := showGateI gn gx gd ((e9.trans G12).isR hge) o3 o4 ((e9.trans G12).isR hgh) (by omega) (by omega) hd2
      have g13 := e13.at g12
      obtain ⟨Z14, a14, e14⟩ := showGateS gn gx gd (((e9.trans G12).trans e13).isR hge) o3 o4 (((e9.trans G12).trans e13).isR hgh) (by omega) (by omega) hd2
      have lB := fun e => hb1.len e
      have lH := fun e => hh1.len e
      have rdg := fun (o : Bool) => wU (cs := [.sc (.int .i64 gn), .sc (.int .i64 gx), y2, y3, y4, y5, .sc (.int .i64 gd)]) (m := 7) rfl o
      have rdw := fun (o : Bool) => wU (cs := [xa, xb, xd, .sc (.int .i64 n), .sc (.int .i64 nx), xe, xf, xg, xh, .sc (.int .i64 dr), xi, .sc (.int .i64 nw), .sc (.int .i64 dw), xj, xk, xl, xm, xo, xp, xq]) (m := 20) rfl o
      have rda := fun (o : Bool) => wU (cs := [a]) (m := 1) rfl o
      have w1 : IntKind.i64.wrap ((lb.length : Int) + lh.length) = (lb.length : Int) + lh.length := w64 (by omega) (by omega)
      have w2 : IntKind.i64.wrap ((lb.length : Int) + lh.length + 2) = (lb.length : Int) + lh.length + 2 := w64 (by omega) (by omega)
      generalize hS : worldT lb (kF (kZ le dr) lh) lp.length = S at *
      simp -implicitDefEqProofs only [↓w_seq, ↓w_region, ↓ops_cons, ↓g_assign, ↓ops_nil, ev_const, of_bool, ↓g_move, Nat.reduceLT, ev_tab, ne_eq, reduceCtorEq, not_false_eq_true, upd_ne, par0]
      refine qF (by simp -implicitDefEqProofs only [List.map_cons, Nat.reduceLT, ev_tab, upd_eq, List.map_nil] <;> rfl) hb ?_
      simp -implicitDefEqProofs only [↓ops_nil, ↓w_cond, Nat.reduceLT, ev_tab, upd_eq, ↓w_seq, ↓w_region, ↓ops_cons, ↓g_assign, ↓w_ret, ev_const, of_bool, retP_1, res_tmp, onS_some, ↓w_skip, ↓g_move, ne_eq, reduceCtorEq, not_false_eq_true, upd_ne, par0, onB_false]
      refine qF rfl a1 ?_
      simp -implicitDefEqProofs only [↓ops_cons, ↓g_alloc, zw, Option.map_some, ↓g_store, Nat.reduceLT, ev_tab, upd_eq, ne_eq, Nat.reduceEqDiff, not_false_eq_true, upd_ne, ↓ops_nil, ↓w_seq, ↓w_region, ↓g_load, alK_some, wW, wr_def, tyOk38, cells38, yA, wr, ← hH2, rd_def, agg38, onS_some, b2, rdw, true_and]
      refine qF rfl a3 ?_
      simp -implicitDefEqProofs only [↓ops_cons, ↓g_assign, ↓ops_nil, ↓w_seq, ↓w_region, Nat.reduceLT, ev_tab, upd_eq, ev_const, of_int, ↓w_block]
      refine yL (ι := Nat) (fun i s => ∃ T : Nat → AV, s = ⟨qY 78 T, Z3⟩ ∧ i ≤ S.size ∧ T 0 = x ∧ T 3 = .ptr Z1.length 0 ∧ T 4 = .sc (.string S) ∧ T 5 = .sc (.int .i64 (nlN ((xO S).take i) : Int)) ∧ T 6 = .sc (.int .i64 (i : Int))) (fun i => S.size - i) ?_ (i := 0) ?_
      · rintro i s ⟨T, rfl, hi, t0, t3, t4, t5, t6⟩
        have bn : nlN ((xO S).take i) ≤ i := Nat.le_trans List.countP_le_length (by rw [List.length_take]; omega)
        by_cases h : i < S.size
        · have k1 : (i : Int) < (S.size : Int) := by omega
          have k2 : (0 : Int) ≤ (i : Int) := by omega
          have st := nlN_s S i h
          have ei : IntKind.i64.wrap ((i : Int) + 1) = ((i + 1 : Nat) : Int) := by rw [w64 (by omega) (by omega)]; omega
          have en : IntKind.i64.wrap ((nlN ((xO S).take i) : Int) + 1) = ((nlN ((xO S).take i) + 1 : Nat) : Int) := by rw [w64 (by omega) (by omega)]; omega
          by_cases hc : jA S i = 10
          · rw [if_pos hc] at st
            simp -implicitDefEqProofs only [↓w_seq, ↓w_region, ↓ops_cons, ↓g_move, ↓g_len, Tryz.underlying9, Nat.reduceLT, ev_tab, t6, ne_eq, Nat.reduceEqDiff, not_false_eq_true, upd_ne, t4, upd_eq, len_str, ↓g_binOp, ↓ops_nil, ↓w_cond, ↓w_skip, ↓w_block, ↓g_index, idx_str, k2, Int.toNat_natCast, h, and_self, hc, if_true, ev_const, of_int, t5, b_add, en, ↓g_assign, ei, onS_some, b_eql, decide_true, onB_true, ↓w_exit, reduceCtorEq, b_lss, k1]
            refine ⟨i + 1, by omega, _, rfl, by omega, ?_, ?_, ?_, ?_, ?_⟩ <;> simp -implicitDefEqProofs only [ne_eq, reduceCtorEq, not_false_eq_true, upd_ne, t0, Nat.reduceEqDiff, t3, t4, upd_eq, st] <;> rfl
          · rw [if_neg hc, Nat.add_zero] at st
            simp -implicitDefEqProofs only [↓w_seq, ↓w_region, ↓ops_cons, ↓g_move, ↓g_len, Tryz.underlying9, Nat.reduceLT, ev_tab, t6, ne_eq, Nat.reduceEqDiff, not_false_eq_true, upd_ne, t4, upd_eq, len_str, ↓g_binOp, ↓ops_nil, ↓w_cond, ↓w_skip, ↓w_block, ↓g_index, idx_str, k2, Int.toNat_natCast, h, and_self, if_true, ev_const, of_int, t5, b_add, en, ↓g_assign, ei, onS_some, b_eql, hc, decide_false, onB_false, ↓w_exit, reduceCtorEq, b_lss, k1, decide_true, onB_true]
            refine ⟨i + 1, by omega, _, rfl, by omega, ?_, ?_, ?_, ?_, ?_⟩ <;> simp -implicitDefEqProofs only [ne_eq, reduceCtorEq, not_false_eq_true, upd_ne, t0, Nat.reduceEqDiff, t3, t4, t5, st, upd_eq] <;> rfl
        · have k1 : ¬ (i : Int) < (S.size : Int) := by omega
          obtain rfl : i = S.size := by omega
          have hf : (nlN ((xO S).take S.size) : Int) = (lb.length : Int) + lh.length + 2 := by
            rw [List.take_of_length_le (by rw [wV]; exact Nat.le_refl _)]
            rw [nl] at nS
            omega
          rw [hf] at t5
          simp -implicitDefEqProofs only [↓w_seq, ↓w_region, ↓ops_cons, ↓g_move, ↓g_len, Tryz.underlying9, Nat.reduceLT, ev_tab, t6, ne_eq, Nat.reduceEqDiff, not_false_eq_true, upd_ne, t4, upd_eq, len_str, ↓g_binOp, ↓ops_nil, ↓w_cond, ↓w_skip, ↓w_block, ↓g_index, idx_str, ev_const, of_int, t5, b_add, ↓g_assign, onS_some, onS_ite, b_eql, onB_dec, ↓w_exit, reduceCtorEq, t0, if_true, b_lss, k1, decide_false, onB_false]
          refine qF rfl a4 ?_
          simp -implicitDefEqProofs only [↓ops_cons, ↓g_move, ↓g_extract, Nat.reduceLT, ev_tab, upd_eq, ext_0, ne_eq, Nat.reduceEqDiff, not_false_eq_true, upd_ne, ext_1, ↓g_alloc, zero26, Option.map_some, ↓g_store, ↓g_assign, ↓ops_nil, ↓w_seq, ↓w_region, reduceCtorEq, t0, alK_some, List.all_cons, one_nil, List.all_nil, Bool.and_self, wr_def, tyOk26, cells26, yA, wr_c, Nat.zero_add, List.length_cons, List.length_nil, Nat.le_refl, true_and, onS_ite, onS_some, yO, ow, and_self, over_0, ← hH5]
          refine qF rfl a6 ?_
          simp -implicitDefEqProofs only [↓ops_cons, ↓g_alloc, zc, Option.map_some, ↓g_store, Nat.reduceLT, ev_tab, upd_eq, ne_eq, Nat.reduceEqDiff, not_false_eq_true, upd_ne, ↓ops_nil, ↓w_seq, ↓w_region, ↓g_move, reduceCtorEq, t0, alK_some, zC_one, wr_def, tyOk48, cells48, yA, wr2, ← hH7, onS_some, true_and]
          refine qF rfl a8 ?_
          simp -implicitDefEqProofs only [↓ops_cons, ↓g_alloc, zg, Option.map_some, ↓g_store, Nat.reduceLT, ev_tab, upd_eq, ne_eq, Nat.reduceEqDiff, not_false_eq_true, upd_ne, ↓ops_nil, ↓w_seq, alK_some, zG_one, wr_def, tyOk34, cells34, yA, wr3, ← hH9, onS_some, true_and]
          refine drawn [(2, 0), (6, 0), (13, 0), (18, 15), (21, 15), (21, 21), (27, 24), (29, 24), (29, 29), (34, 31), (36, 31), (36, 36)] follows (by kernel_rfl) (by kernel_rfl) ?_
          simp -implicitDefEqProofs only [↓dops_cons, ↓g_move, ↓g_fieldAddrT, Nat.reduceLT, ev_tab, ne_eq, Nat.reduceEqDiff, not_false_eq_true, upd_ne, t5, t3, fadr38_1, Nat.zero_add, ↓g_load, upd_eq, ↓g_len, Tryz.underlying27, fadr38_3, Tryz.underlying32, ↓g_binOp, ev_const, of_int, onS_some, fadr34_5, Nat.reduceAdd, rd_def, tyOk32, agg32, cells32, w9, rd_onec, List.getElem?_cons_succ, List.getElem?_cons_zero, lH, tyOk27, agg27, cells27, lB, b_add, w1, w2, b_eql, decide_true, yielded_tab, dstAt_s, dstAt_0, ybv_some, boolOf_b, ↓g_guard_t, t4, tyOk38, agg38, cells38, rdw]
          refine qF rfl a10 ?_
          simp -implicitDefEqProofs only [↓dops_cons, yielded_tab, dstAt_s, dstAt_0, Nat.reduceLT, ybv_some, ne_eq, Nat.reduceEqDiff, not_false_eq_true, upd_ne, upd_eq, boolOf_b, ↓g_guard_t, ↓g_binOp, ev_tab, t_eql, beq_self_eq_true, ↓g_pick, ev_const, of_bool, pick_b, if_true, ↓g_move, onS_some, ↓g_load, rd_def, tyOk26, agg26, cells26, t10, rda]
          refine qF rfl a11 ?_
          simp -implicitDefEqProofs only [↓dops_cons, yielded_tab, dstAt_s, dstAt_0, Nat.reduceLT, ybv_some, ne_eq, Nat.reduceEqDiff, not_false_eq_true, upd_ne, upd_eq, boolOf_b, ↓g_guard_t, ↓g_load, ev_tab, rd_def, tyOk26, agg26, cells26, t11, rda, ↓g_move, onS_some]
          refine qF rfl a12 ?_
          simp -implicitDefEqProofs only [↓dops_cons, yielded_tab, dstAt_s, dstAt_0, Nat.reduceLT, ybv_some, ne_eq, Nat.reduceEqDiff, not_false_eq_true, upd_ne, upd_eq, boolOf_b, ↓g_guard_t, ↓g_binOp, ev_tab, t_eql, beq_self_eq_true, ↓g_pick, ev_const, of_bool, pick_b, if_true, ↓g_move, onS_some, ↓g_load, rd_def, tyOk48, agg48, cells48, c12, rdp]
          refine qN (by simp -implicitDefEqProofs only [List.map_cons, Nat.reduceLT, ev_tab, upd_eq, List.map_nil] <;> rfl) cI ?_
          simp -implicitDefEqProofs only [↓dops_cons, yielded_tab, dstAt_s, dstAt_0, Nat.reduceLT, ybv_some, ne_eq, Nat.reduceEqDiff, not_false_eq_true, upd_ne, upd_eq, boolOf_b, ↓g_guard_t, ↓g_load, ev_tab, rd_def, tyOk48, agg48, cells48, c12, rdp, onS_some]
          refine qN (by simp -implicitDefEqProofs only [List.map_cons, Nat.reduceLT, ev_tab, upd_eq, List.map_nil] <;> rfl) cS ?_
          simp -implicitDefEqProofs only [↓dops_cons, yielded_tab, dstAt_s, dstAt_0, Nat.reduceLT, ybv_some, ne_eq, Nat.reduceEqDiff, not_false_eq_true, upd_ne, upd_eq, boolOf_b, ↓g_guard_t, ↓g_binOp, ev_tab, t_eql, beq_self_eq_true, ↓g_pick, ev_const, of_bool, pick_b, if_true, ↓g_move, onS_some, ↓g_load, rd_def, tyOk34, agg34, cells34, g12, rdg]
          refine qF rfl a13 ?_
          simp -implicitDefEqProofs only [↓dops_cons, yielded_tab, dstAt_s, dstAt_0, Nat.reduceLT, ybv_some, ne_eq, Nat.reduceEqDiff, not_false_eq_true, upd_ne, upd_eq, boolOf_b, ↓g_guard_t, ↓g_load, ev_tab, rd_def, tyOk34, agg34, cells34, g13, rdg, onS_some]
          refine qF rfl a14 ?_
          simp -implicitDefEqProofs only [↓dops_cons, yielded_tab, dstAt_s, dstAt_0, Nat.reduceLT, ybv_some, ne_eq, Nat.reduceEqDiff, not_false_eq_true, upd_ne, upd_eq, boolOf_b, ↓g_guard_t, ↓g_binOp, ev_tab, t_eql, beq_self_eq_true, ↓g_pick, ev_const, of_bool, pick_b, if_true, ↓g_assign, ↓dops_p, ↓w_ret, retP_1, res_tmp, onS_some, and_true]
          exact qI (same_calm (by kernel_rfl)) (qI (same_calm (by kernel_rfl)) (qI (same_calm (by kernel_rfl)) (qI (same_calm (by kernel_rfl)) (qI (qS _ _ Z4.length 0 rfl rfl (t10.trans t11.symm)) (qI (same_calm (by kernel_rfl)) (qI (same_calm (by kernel_rfl)) (qI (yC rfl) (qI (same_calm (by kernel_rfl)) (qI (same_calm (by kernel_rfl)) (qI (qS _ _ Z8.length 0 rfl rfl (g12.trans g13.symm)) (qI (same_calm (by kernel_rfl)) (qH))))))))))))
      · refine ⟨_, rfl, by omega, ?_, ?_, ?_, ?_, ?_⟩ <;> simp -implicitDefEqProofs only [ne_eq, reduceCtorEq, not_false_eq_true, upd_ne, par0, Nat.reduceEqDiff, upd_eq, List.take_zero, Int.cast_ofNat_Int] <;> rfl
    · rw [decide_eq_true (show (1048576 : Int) < L.length by omega)] at hb
      simp -implicitDefEqProofs only [↓w_seq, ↓w_region, ↓ops_cons, ↓g_assign, ↓ops_nil, ev_const, of_bool, ↓g_move, Nat.reduceLT, ev_tab, ne_eq, reduceCtorEq, not_false_eq_true, upd_ne, par0]
      refine qF (by simp -implicitDefEqProofs only [List.map_cons, Nat.reduceLT, ev_tab, upd_eq, List.map_nil] <;> rfl) hb ?_
      simp -implicitDefEqProofs only [↓ops_nil, ↓w_cond, Nat.reduceLT, ev_tab, upd_eq, ↓w_seq, ↓w_region, ↓ops_cons, ↓g_assign, ↓w_ret, ev_const, of_bool, retP_1, res_tmp, onS_some, ↓w_skip, ↓g_move, ne_eq, reduceCtorEq, not_false_eq_true, upd_ne, par0, onB_true]
  obtain ⟨v, H', h1, rfl⟩ := key
  exact ⟨H', h1⟩
end
theorem gl_of_laid {W : World} (h : laidMetH Tryz.prog [("math/bits.deBruijn32tab", Rows.laid_math_bits_deBruijn32tab), ("math/bits.deBruijn64tab", Rows.laid_math_bits_deBruijn64tab), ("internal/strconv.uint64pow10", Rows.laid_internal_strconv_uint64pow10)] W) : Gl W.heap.size W := by
  rw [MakeChecks.laidMetH_plain _ _ _ (by kernel_rfl)] at h
  have ht : ∃ t e n, (Tryz.prog.globals[0]?).map (·.type) = some t ∧ Tryz.prog.underlying t = some (.array n e) ∧ Tryz.prog.underlying e = some (.int .u64) ∧ Tryz.prog.cellsOf e = 1 ∧ Tryz.prog.cellsOf t = n := ⟨176, 152, 20, by kernel_rfl, by kernel_rfl, by kernel_rfl, by kernel_rfl, by kernel_rfl⟩
  obtain ⟨t, e, n, t1, t2, t3, t4, t5⟩ := ht
  have hp : Lib.TabIs Tryz.prog W "internal/strconv.uint64pow10" .u64 Lib.pow10Tab := Lib.tabIs_of_head (by kernel_rfl) t1 t2 t3 t4 t5 (h.tail.tail)
  have hg : Tryz.prog.globalNamed "internal/strconv.uint64pow10" = some 0 := by kernel_rfl
  unfold Lib.TabIs World.var? at hp
  rw [hg] at hp
  simp only [Option.bind_some] at hp
  intro p hp'
  have : p = (0, (Lib.pow10Tab.map fun z => Value.int .u64 z).toArray) := by
    have := List.mem_singleton.1 hp'
    rw [this]
    rfl
  subst this
  cases hb : W.heap[0]? with
  | none => simp [hb] at hp
  | some b =>
    refine ⟨(Array.getElem?_eq_some_iff.1 hb).1, ?_⟩
    cases b with
    | cells cs e fz =>
      simp only [hb, Option.some.injEq] at hp
      subst hp
      exact ⟨e, fz, rfl⟩
    | _ => simp [hb] at hp
end Go.Proofs.YtjdajobflgkebaaGreatDoor.Sim
