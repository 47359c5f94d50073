/- BoxPut: the law returns true. -/
import Derived.Test.YtheeehbaholjmaaFBoxPutS
import Derived.Test.YtheeehbaholjmaaFBoxLaw
namespace Go.Proofs.Ytheeehbaholjmaa.Sim
open Go
set_option maxRecDepth 100000
set_option maxHeartbeats 40000000
set_option linter.unusedSimpArgs false
set_option linter.unusedVariables false
theorem szPartN (i t f : Int) (z : ByteArray) (n : Int) (hn : 0 ≤ n ∧ n ≤ 1048576) (hz : z.size ≤ 9223372036854775807) : Fn Try.prog 11 [prt i t f z, .sc (.int .i64 n)] (.sc (.int .i64 (if n - (z.size : Int) < 0 then -1 else n - z.size))) := by
  refine Fn.run 13 [.tmp 4] Try.func11 rfl rfl rfl rfl (by simp) (flats_cons (prt_flat _ _ _ _) (flats_cons (.sc _) flats_nil)) (.sc _) ?_
  unfold prt
  have e1 : IntKind.i64.wrap (n - (z.size : Int)) = n - z.size := w64 (by omega) (by omega)
  simp -implicitDefEqProofs only [↓w_seq, ↓w_region, Int.reduceNeg, ↓ops_cons, ↓g_box, Nat.reduceLT, ev_tab, par0, cells_agg, ↓g_assign, ↓ops_nil, ev_const, of_int, ↓g_move, ↓g_fieldAddrT, ne_eq, Nat.reduceEqDiff, not_false_eq_true, upd_ne, par1, upd_eq, ↓g_load, ↓g_len, Try.underlying9, ↓g_binOp, ↓w_cond, ↓w_ret, ret_one, ↓w_skip, alK_some, List.all_cons, one_int, one_str, List.all_nil, Bool.and_self, List.length_nil, fadr23_3, Nat.zero_add, List.nil_append, onS_some, rd_def, tyOk9, agg9, cells9, List.getElem?_cons_zero, rd_onec, List.getElem?_cons_succ, len_str, b_sub, e1, b_lss, onB_dec, true_and]
  split <;> rfl
theorem bpV_len (i t : Int) (z : ByteArray) (l : List Bool) (pi pt pf : Int) (y : ByteArray) : (bpV i t z l pi pt pf y).2.1.length = l.length := by
  unfold bpV
  split
  · rfl
  · split
    · rfl
    · split
      · rfl
      · exact fillK_len _ _ _
theorem lawFnExactBoxPut (H : AHeap) (i t : Int) (z : ByteArray) (hz : z.size ≤ 9223372036854775807) (x : AV) (l : List Bool) (hl : l.length ≤ 9223372036854775807) (hx : IsB H x l) (pi pt pf : Int) (y : ByteArray) (hy : y.size ≤ 9223372036854775807) : ∃ H', Sound Try.prog 8 [.agg [.sc (.int .i64 i), .sc (.int .i64 t), .sc (.string z), x], .agg [.sc (.int .i64 pi), .sc (.int .i64 pt), .sc (.int .i64 pf), .sc (.string y)]] H (.sc (.bool true)) H' := by
  have key : ∃ v H', Sound Try.prog 8 [.agg [.sc (.int .i64 i), .sc (.int .i64 t), .sc (.string z), x], .agg [.sc (.int .i64 pi), .sc (.int .i64 pt), .sc (.int .i64 pf), .sc (.string y)]] H v H' ∧ v = .sc (.bool true) := by
    refine Sound.runP (args := [.agg [.sc (.int .i64 i), .sc (.int .i64 t), .sc (.string z), x], .agg [.sc (.int .i64 pi), .sc (.int .i64 pt), .sc (.int .i64 pf), .sc (.string y)]]) 109 [.tmp 4] Try.func8 rfl rfl rfl rfl (by simp) (fun v Z => v = .sc (.bool true)) ?_
    have x1 := hx.one
    obtain ⟨A, hA⟩ : ∃ A : Reg, A = ⟨[.sc (.int .i64 i), .sc (.int .i64 t), .sc (.string z), x], true, true⟩ := ⟨_, rfl⟩
    obtain ⟨B, hB⟩ : ∃ B : Reg, B = ⟨[.sc (.int .i64 pi), .sc (.int .i64 pt), .sc (.int .i64 pf), .sc (.string y)], true, true⟩ := ⟨_, rfl⟩
    have e0 := Ext.more H [A, B]
    have a0 : (H ++ [A, B])[H.length]? = some A := hap_0 H [A, B]
    have b0 : (H ++ [A, B])[H.length + 1]? = some B := hap_k H [A, B] 1
    obtain ⟨n, Z1, n1, n2, n3, n4⟩ := szBoxS (e0.isB hx) hl i t z hz
    have a1 := n2.at a0
    have b1 := n2.at b0
    have e1 := e0.trans n2
    by_cases hn : n < 0
    · subst hA hB
      unfold bx at n1
      simp -implicitDefEqProofs only [↓w_seq, ↓w_region, ↓ops_cons, ↓g_box, Nat.reduceLT, ev_tab, par0, cells_agg, ne_eq, Nat.reduceEqDiff, not_false_eq_true, upd_ne, par1, ↓g_assign, ↓ops_nil, ev_const, of_bool, of_int, ↓g_load, upd_eq, ↓g_move, alK_some, List.all_cons, one_int, one_str, List.all_nil, Bool.and_self, true_and, x1, List.append_assoc, List.cons_append, List.nil_append, rd_def, tyOk32, agg32, cells32, hap_0, List.getElem?_cons_zero, rd_aggc, Nat.zero_add, List.length_cons, List.length_nil, Nat.reduceAdd, Nat.le_refl, List.drop_zero, List.take_succ_cons, List.take_zero, if_true, List.length_append, onS_some]
      refine call1S (by simp -implicitDefEqProofs only [List.map_cons, Nat.reduceLT, ev_tab, ne_eq, Nat.reduceEqDiff, not_false_eq_true, upd_ne, upd_eq, List.map_nil] <;> rfl) n1 ?_
      simp -implicitDefEqProofs only [↓ops_cons, ↓g_assign, ↓ops_nil, ↓w_seq, ↓w_region, Nat.reduceLT, ev_tab, upd_eq, ↓g_move, ↓g_binOp, ev_const, of_int, b_lss, hn, decide_true, ↓w_cond, ↓w_ret, of_bool, retP_1, res_tmp, onS_some, ↓w_skip, ↓g_load, ne_eq, Nat.reduceEqDiff, not_false_eq_true, upd_ne, rd_def, tyOk23, agg23, cells23, onB_true]
    · obtain ⟨n5, n6⟩ := n3 hn
      have sp := szPartN pi pt pf y n ⟨n6, n4⟩ hy
      by_cases hs : n - (y.size : Int) < 0
      · rw [if_pos hs] at sp
        subst hA hB
        unfold bx at n1
        unfold prt at sp
        simp -implicitDefEqProofs only [↓w_seq, ↓w_region, ↓ops_cons, ↓g_box, Nat.reduceLT, ev_tab, par0, cells_agg, ne_eq, Nat.reduceEqDiff, not_false_eq_true, upd_ne, par1, ↓g_assign, ↓ops_nil, ev_const, of_bool, of_int, ↓g_load, upd_eq, ↓g_move, alK_some, List.all_cons, one_int, one_str, List.all_nil, Bool.and_self, true_and, x1, List.append_assoc, List.cons_append, List.nil_append, rd_def, tyOk32, agg32, cells32, hap_0, List.getElem?_cons_zero, rd_aggc, Nat.zero_add, List.length_cons, List.length_nil, Nat.reduceAdd, Nat.le_refl, List.drop_zero, List.take_succ_cons, List.take_zero, if_true, List.length_append, onS_some]
        refine call1S (by simp -implicitDefEqProofs only [List.map_cons, Nat.reduceLT, ev_tab, ne_eq, Nat.reduceEqDiff, not_false_eq_true, upd_ne, upd_eq, List.map_nil] <;> rfl) n1 ?_
        simp -implicitDefEqProofs only [↓ops_cons, ↓g_assign, ↓ops_nil, ↓w_seq, ↓w_region, Nat.reduceLT, ev_tab, upd_eq, ↓g_move, ↓g_binOp, ev_const, of_int, b_lss, hn, decide_false, ↓w_cond, ↓w_ret, of_bool, retP_1, res_tmp, onS_some, ↓w_skip, ↓g_load, ne_eq, Nat.reduceEqDiff, not_false_eq_true, upd_ne, rd_def, tyOk23, agg23, cells23, b1, rd_aggc, Nat.zero_add, List.length_cons, List.length_nil, Nat.reduceAdd, Nat.le_refl, List.drop_zero, List.take_succ_cons, List.take_zero, if_true, onB_false]
        refine call1 (by simp -implicitDefEqProofs only [List.map_cons, Nat.reduceLT, ev_tab, ne_eq, Nat.reduceEqDiff, not_false_eq_true, upd_ne, upd_eq, List.map_nil] <;> rfl) sp ?_
        simp -implicitDefEqProofs only [↓ops_cons, ↓g_assign, ↓ops_nil, ↓w_seq, ↓w_region, Int.reduceNeg, Nat.reduceLT, ev_tab, upd_eq, ↓g_move, ↓g_binOp, ev_const, of_int, b_lss, Int.reduceLT, decide_true, ↓w_cond, ↓w_ret, of_bool, retP_1, res_tmp, onS_some, ↓w_skip, onB_true]
      · rw [if_neg hs] at sp
        have hl2 : l.length ≤ 1000000000 := by omega
        have hz2 : z.size ≤ 1000000000 := by omega
        have hy2 : y.size ≤ 1000000000 := by omega
        have tp := toPartS pi pt pf y
        have hbl := bpV_len i t z l pi pt pf y
        -- the reference
        obtain ⟨q2, Z2, c1, c2, c3, c4⟩ := toBoxS (e1.isB hx) hl2 i t z
        have a2 := c2.at a1
        have b2 := c2.at b1
        obtain ⟨qw, Z3, d1, d2, d3, d4⟩ := boxPutS (IsB.mk c4) hl2 i t z hz2 pi pt pf y hy2
        have e3 := (e1.trans c2).trans d2
        -- the program, again and again
        have hI := fun (G : AHeap) (q : Nat) (h : G[q]? = some ⟨bools l, true, true⟩) => boxPutI (IsB.mk h) hl2 i t z hz2 pi pt pf y hy2
        obtain ⟨R1, hR1⟩ : ∃ r, (bpV i t z l pi pt pf y).1 = r := ⟨_, rfl⟩
        obtain ⟨R2, hR2⟩ : ∃ r, (bpV i t z l pi pt pf y).2.1 = r := ⟨_, rfl⟩
        obtain ⟨R3, hR3⟩ : ∃ r, (bpV i t z l pi pt pf y).2.2 = r := ⟨_, rfl⟩
        rw [hR2] at hbl d4
        simp only [bpR, hR1, hR2, hR3, hbl] at d1 hI
        clear hR1 hR2 hR3
        obtain ⟨Cw, hCw⟩ : ∃ C : Reg, C = ⟨[.sc (.int .i64 i), .sc (.int .i64 t), .sc (.string R1), .sl qw 0 l.length 1], true, true⟩ := ⟨_, rfl⟩
        have x3 := Ext.more Z3 [Cw]
        have a3 := (d2.trans x3).at a2
        have b3 := (d2.trans x3).at b2
        have w3 := at_end Z3 Cw
        have v3 := x3.at d4
        obtain ⟨q4, Z4, f1, f2, f3, f4⟩ := toBoxS (((e3.trans x3)).isB hx) hl2 i t z
        obtain ⟨Cx, hCx⟩ : ∃ C : Reg, C = ⟨[.sc (.int .i64 i), .sc (.int .i64 t), .sc (.string z), .sl q4 0 l.length 1], true, true⟩ := ⟨_, rfl⟩
        have x4 := Ext.more Z4 [Cx]
        have a4 := (f2.trans x4).at a3
        have b4 := (f2.trans x4).at b3
        have w4 := (f2.trans x4).at w3
        have v4 := (f2.trans x4).at v3
        have y4 := at_end Z4 Cx
        have r4 := x4.at f4
        obtain ⟨qg, Z5, g1, g2, g3, g4⟩ := hI (Z4 ++ [Cx]) q4 r4
        obtain ⟨Cg, hCg⟩ : ∃ C : Reg, C = ⟨[.sc (.int .i64 i), .sc (.int .i64 t), .sc (.string R1), .sl qg 0 l.length 1], true, true⟩ := ⟨_, rfl⟩
        have x5 := Ext.more Z5 [Cg]
        have a5 := (g2.trans x5).at a4
        have b5 := (g2.trans x5).at b4
        have w5 := (g2.trans x5).at w4
        have v5 := (g2.trans x5).at v4
        have y5 := (g2.trans x5).at y4
        have r5 := (g2.trans x5).at r4
        have z5 := at_end Z5 Cg
        have u5 := x5.at g4
        obtain ⟨Z6, h1, h2⟩ := eqBoxS (IsB.at u5 hbl) (IsB.at v5 hbl) (by omega) i t R1
        have a6 := h2.at a5
        have b6 := h2.at b5
        have w6 := h2.at w5
        have v6 := h2.at v5
        have y6 := h2.at y5
        have r6 := h2.at r5
        have z6 := h2.at z5
        have u6 := h2.at u5
        have e6 := (((((e3.trans x3).trans f2).trans x4).trans g2).trans x5).trans h2
        obtain ⟨q7, Z7, k1, k2, k3, k4⟩ := toBoxS (e6.isB hx) hl2 i t z
        have y7 := k2.at y6
        have r7 := k2.at r6
        obtain ⟨Z8, m1, m2⟩ := eqBoxS (IsB.at r7 rfl) (IsB.at k4 rfl) (by omega) i t z
        have y8 := m2.at y7
        have r8 := m2.at r7
        have a8 := m2.at (k2.at a6)
        have b8 := m2.at (k2.at b6)
        have w8 := m2.at (k2.at w6)
        have v8 := m2.at (k2.at v6)
        have z8 := m2.at (k2.at z6)
        have u8 := m2.at (k2.at u6)
        obtain ⟨Z9, o1, o2, o3, o4⟩ := markBoxS r8 rfl (by omega) i t z
        -- where all lies
        have p1 : H.length + 1 < Z1.length := at_lt b1
        have p2 : qw < Z3.length := at_lt d4
        have p3 : Z1.length ≤ q2 := c3
        have p4 : Z2.length ≤ qw := d3
        have p5 : Z3.length + 1 ≤ q4 := by rw [List.length_append] at f3; exact f3
        have p6 : q4 < Z4.length := at_lt f4
        have p7 : Z4.length + 1 ≤ qg := by rw [List.length_append] at g3; exact g3
        have p8 : qg < Z5.length := at_lt g4
        have p9 : Z5.length < Z8.length := at_lt z8
        have p10 : Z1.length ≤ Z2.length := c2.1
        have a9 := (o3 H.length (by omega) (by omega)).trans a8
        have b9 := (o3 (H.length + 1) (by omega) (by omega)).trans b8
        have w9 := (o3 Z3.length (by omega) (by omega)).trans w8
        have v9 := (o3 qw (by omega) (by omega)).trans v8
        have z9 := (o3 Z5.length (by omega) (by omega)).trans z8
        have u9 := (o3 qg (by omega) (by omega)).trans u8
        have e9 : IsB Z9 x l := by
          have h8 := ((e6.trans k2).trans m2).isB hx
          rcases hx with ⟨rfl, rfl⟩ | ⟨r, o, rfl, hr⟩
          · exact .nil _
          · have hrl := at_lt hr
            have hr8 := ((e6.trans k2).trans m2).at hr
            exact .at ((o3 r (by omega) (by omega)).trans hr8) rfl
        obtain ⟨Z10, s1, s2⟩ := eqBoxS (IsB.at u9 hbl) (IsB.at v9 hbl) (by omega) i t R1
        have a10 := s2.at a9
        have b10 := s2.at b9
        have w10 := s2.at w9
        have v10 := s2.at v9
        have z10 := s2.at z9
        have u10 := s2.at u9
        have e10 := s2.isB e9
        obtain ⟨Z11, t1, t2, t3, t4⟩ := markBoxS u10 hbl (by omega) i t R1
        have p11 := s2.1
        have a11 := (t3 H.length (by omega) (by omega)).trans a10
        have b11 := (t3 (H.length + 1) (by omega) (by omega)).trans b10
        have w11 := (t3 Z3.length (by omega) (by omega)).trans w10
        have v11 := (t3 qw (by omega) (by omega)).trans v10
        have z11 := (t3 Z5.length (by omega) (by omega)).trans z10
        have e11 : IsB Z11 x l := by
          rcases hx with ⟨rfl, rfl⟩ | ⟨r, o, rfl, hr⟩
          · exact .nil _
          · have hrl := at_lt hr
            have hr10 := s2.at ((o3 r (by omega) (by omega)).trans (((e6.trans k2).trans m2).at hr))
            exact .at ((t3 r (by omega) (by omega)).trans hr10) rfl
        obtain ⟨Z12, j1, j2⟩ := heldBoxS (IsB.at t4 (mkB_len 1 _)) (by omega) i t R1
        have a12 := j2.at a11
        have b12 := j2.at b11
        have w12 := j2.at w11
        have v12 := j2.at v11
        have z12 := j2.at z11
        have u12 := j2.at t4
        obtain ⟨q13, Z13, aa1, aa2, aa3, aa4⟩ := toBoxS (j2.isB e11) hl2 i t z
        have b13 := aa2.at b12
        obtain ⟨qh, Z14, bb1, bb2, bb3, bb4⟩ := hI Z13 q13 aa4
        obtain ⟨Ch, hCh⟩ : ∃ C : Reg, C = ⟨[.sc (.int .i64 i), .sc (.int .i64 t), .sc (.string R1), .sl qh 0 l.length 1], true, true⟩ := ⟨_, rfl⟩
        have x14 := (aa2.trans bb2).trans (Ext.more Z14 [Ch])
        have w14 := x14.at w12
        have v14 := x14.at v12
        have z14 := x14.at z12
        have u14 := x14.at u12
        have h14 := at_end Z14 Ch
        have bb5 := (Ext.more Z14 [Ch]).at bb4
        obtain ⟨Z15, cc1, cc2⟩ := eqBoxS (IsB.at bb5 hbl) (IsB.at v14 hbl) (by omega) i t R1
        have z15 := cc2.at z14
        have u15 := cc2.at u14
        obtain ⟨Z16, dd1, dd2⟩ := heldBoxS (IsB.at u15 (mkB_len 1 _)) (by omega) i t R1
        have kn : ¬ ((1 + l.length : Nat) : Int) < 0 := by omega
        subst hA hB hCw hCx hCg hCh
        unfold bx at n1 c1 d1 f1 g1 h1 k1 m1 o1 s1 t1 j1 aa1 bb1 cc1 dd1
        unfold prt at sp tp d1 g1 bb1
        have hs' : ¬ n - (y.size : Int) < 0 := hs
        simp -implicitDefEqProofs only [↓w_seq, ↓w_region, ↓ops_cons, ↓g_box, Nat.reduceLT, ev_tab, par0, cells_agg, ne_eq, Nat.reduceEqDiff, not_false_eq_true, upd_ne, par1, ↓g_assign, ↓ops_nil, ev_const, of_bool, of_int, ↓g_load, upd_eq, ↓g_move, alK_some, List.all_cons, one_int, one_str, List.all_nil, Bool.and_self, true_and, x1, List.append_assoc, List.cons_append, List.nil_append, rd_def, tyOk32, agg32, cells32, hap_0, List.getElem?_cons_zero, rd_aggc, Nat.zero_add, List.length_cons, List.length_nil, Nat.reduceAdd, Nat.le_refl, List.drop_zero, List.take_succ_cons, List.take_zero, if_true, List.length_append, onS_some]
        refine call1S (by simp -implicitDefEqProofs only [List.map_cons, Nat.reduceLT, ev_tab, ne_eq, Nat.reduceEqDiff, not_false_eq_true, upd_ne, upd_eq, List.map_nil] <;> rfl) n1 ?_
        simp -implicitDefEqProofs only [↓ops_cons, ↓g_assign, ↓ops_nil, ↓w_seq, ↓w_region, Nat.reduceLT, ev_tab, upd_eq, ↓g_move, ↓g_binOp, ev_const, of_int, b_lss, hn, decide_false, ↓w_cond, ↓w_ret, of_bool, retP_1, res_tmp, onS_some, ↓w_skip, ↓g_load, ne_eq, Nat.reduceEqDiff, not_false_eq_true, upd_ne, rd_def, tyOk23, agg23, cells23, b1, rd_aggc, Nat.zero_add, List.length_cons, List.length_nil, Nat.reduceAdd, Nat.le_refl, List.drop_zero, List.take_succ_cons, List.take_zero, if_true, onB_false]
        refine call1 (by simp -implicitDefEqProofs only [List.map_cons, Nat.reduceLT, ev_tab, ne_eq, Nat.reduceEqDiff, not_false_eq_true, upd_ne, upd_eq, List.map_nil] <;> rfl) sp ?_
        simp -implicitDefEqProofs only [↓ops_cons, ↓g_assign, ↓ops_nil, ↓w_seq, ↓w_region, Nat.reduceLT, ev_tab, upd_eq, ↓g_move, ↓g_binOp, ev_const, of_int, b_lss, hs', decide_false, ↓w_cond, ↓w_ret, of_bool, retP_1, res_tmp, onS_some, ↓w_skip, onB_false]
        refine drawn [(0, 0), (2, 0), (2, 2)] follows (by kernel_rfl) (by kernel_rfl) ?_
        simp -implicitDefEqProofs only [↓dops_cons, ↓g_load, Nat.reduceLT, ev_tab, ne_eq, Nat.reduceEqDiff, not_false_eq_true, upd_ne, upd_eq, rd_def, tyOk32, agg32, cells32, a1, rd_aggc, Nat.zero_add, List.length_cons, List.length_nil, Nat.reduceAdd, Nat.le_refl, List.drop_zero, List.take_succ_cons, List.take_zero, if_true, onS_some]
        refine call1S (by simp -implicitDefEqProofs only [List.map_cons, Nat.reduceLT, ev_tab, upd_eq, List.map_nil] <;> rfl) c1 ?_
        simp -implicitDefEqProofs only [↓dops_cons, ↓g_load, Nat.reduceLT, ev_tab, ne_eq, Nat.reduceEqDiff, not_false_eq_true, upd_ne, upd_eq, rd_def, tyOk23, agg23, cells23, b2, rd_aggc, Nat.zero_add, List.length_cons, List.length_nil, Nat.reduceAdd, Nat.le_refl, List.drop_zero, List.take_succ_cons, List.take_zero, if_true, onS_some]
        refine call1 (by simp -implicitDefEqProofs only [List.map_cons, Nat.reduceLT, ev_tab, upd_eq, List.map_nil] <;> rfl) tp ?_
        simp -implicitDefEqProofs only [↓dops_cons]
        refine call1S (by simp -implicitDefEqProofs only [List.map_cons, Nat.reduceLT, ev_tab, ne_eq, Nat.reduceEqDiff, not_false_eq_true, upd_ne, upd_eq, List.map_nil] <;> rfl) d1 ?_
        simp -implicitDefEqProofs only [↓dops_cons, ↓g_move, ↓g_extract, Nat.reduceLT, ev_tab, upd_eq, ext_0, ne_eq, Nat.reduceEqDiff, not_false_eq_true, upd_ne, ext_1, ↓g_alloc, zero35, Option.map_some, ↓g_store, ↓g_assign, ↓dops_p, ↓w_seq, ↓w_region, ↓ops_cons, ↓g_load, rd_def, tyOk32, agg32, cells32, alK_some, List.all_cons, one_int, one_str, one_nil, List.all_nil, Bool.and_self, wr_def, tyOk35, cells35, at_end, wr_c, Nat.zero_add, List.length_cons, List.length_nil, Nat.reduceAdd, Nat.le_refl, true_and, onS_ite, onS_some, cells_agg, one_sl, and_self]
        refine ⟨pairs_cons (same_H rfl) (pairs_cons (same_ld _ _ (H.length + 1) 0 rfl rfl (b1.trans b2.symm)) (pairs_cons (same_H rfl) pairs_nil)), ?_⟩
        simp -implicitDefEqProofs only [ovr_m, ovr_n, hset_0, List.set_cons_zero, a3, rd_aggc, Nat.zero_add, List.length_cons, List.length_nil, Nat.reduceAdd, Nat.le_refl, List.drop_zero, List.take_succ_cons, List.take_zero, if_true, onS_some]
        refine call1S (by simp -implicitDefEqProofs only [List.map_cons, Nat.reduceLT, ev_tab, upd_eq, List.map_nil] <;> rfl) f1 ?_
        simp -implicitDefEqProofs only [↓ops_cons, ↓g_alloc, zero35, Option.map_some, ↓g_store, Nat.reduceLT, ev_tab, upd_eq, ne_eq, Nat.reduceEqDiff, not_false_eq_true, upd_ne, ↓ops_nil, ↓w_seq, alK_some, List.all_cons, one_int, one_str, one_nil, List.all_nil, Bool.and_self, wr_def, tyOk35, cells35, hap_0, List.getElem?_cons_zero, wr_c, cells_agg, List.length_cons, List.length_nil, Nat.zero_add, Nat.reduceAdd, Nat.le_refl, one_sl, and_self, ovr_m, ovr_n, hset_0, List.set_cons_zero, if_true, onS_some, true_and]
        refine drawn [(0, 0), (0, 3), (1, 0)] follows (by kernel_rfl) (by kernel_rfl) ?_
        simp -implicitDefEqProofs only [↓dops_cons, ↓g_load, Nat.reduceLT, ev_tab, upd_eq, rd_def, tyOk35, agg35, cells35, hap_0, List.getElem?_cons_zero, rd_aggc, Nat.zero_add, List.length_cons, List.length_nil, Nat.reduceAdd, Nat.le_refl, List.drop_zero, List.take_succ_cons, List.take_zero, if_true, ne_eq, Nat.reduceEqDiff, not_false_eq_true, upd_ne, tyOk23, agg23, cells23, b4, onS_some]
        refine call1 (by simp -implicitDefEqProofs only [List.map_cons, Nat.reduceLT, ev_tab, upd_eq, List.map_nil] <;> rfl) tp ?_
        simp -implicitDefEqProofs only [↓dops_cons]
        refine call1S (by simp -implicitDefEqProofs only [List.map_cons, Nat.reduceLT, ev_tab, ne_eq, Nat.reduceEqDiff, not_false_eq_true, upd_ne, upd_eq, List.map_nil] <;> rfl) g1 ?_
        simp -implicitDefEqProofs only [↓dops_cons, ↓g_move, ↓g_extract, Nat.reduceLT, ev_tab, upd_eq, ext_0, ne_eq, Nat.reduceEqDiff, not_false_eq_true, upd_ne, ext_1, ↓g_alloc, zero35, Option.map_some, ↓g_store, ↓g_assign, ↓dops_p, ↓w_seq, ↓w_region, ↓ops_cons, ↓g_load, rd_def, tyOk35, agg35, cells35, alK_some, List.all_cons, one_int, one_str, one_nil, List.all_nil, Bool.and_self, wr_def, at_end, wr_c, Nat.zero_add, List.length_cons, List.length_nil, Nat.reduceAdd, Nat.le_refl, true_and, onS_ite, onS_some, cells_agg, one_sl, and_self]
        refine ⟨pairs_cons (same_H rfl) (pairs_cons (same_H rfl) (pairs_cons (same_H rfl) (pairs_nil))), ?_⟩
        simp -implicitDefEqProofs only [ovr_m, ovr_n, hset_0, List.set_cons_zero, hap_0, List.getElem?_cons_zero, rd_aggc, Nat.zero_add, List.length_cons, List.length_nil, Nat.reduceAdd, Nat.le_refl, List.drop_zero, List.take_succ_cons, List.take_zero, if_true, w5, onS_some]
        refine call1S (by simp -implicitDefEqProofs only [List.map_cons, Nat.reduceLT, ev_tab, ne_eq, Nat.reduceEqDiff, not_false_eq_true, upd_ne, upd_eq, List.map_nil] <;> rfl) h1 ?_
        simp -implicitDefEqProofs only [↓ops_cons, ↓g_unOp, Nat.reduceLT, ev_tab, upd_eq, u_not, Bool.not_true, Option.map_some, ↓g_move, onS_some, yielded_tab, dstAt_s, dstAt_0, ybv_some, boolOf_b, ↓g_guard_t, ne_eq, Nat.reduceEqDiff, not_false_eq_true, upd_ne, ↓g_binOp, b_neq, decide_true, ↓g_pick, ev_const, of_bool, pick_b, Bool.false_eq_true, if_false, ↓ops_nil, ↓w_cond, ↓w_seq, ↓w_region, ↓g_assign, ↓w_ret, retP_1, res_tmp, ↓w_skip, onB_false]
        refine drawn [(0, 0), (0, 3), (1, 0)] follows (by kernel_rfl) (by kernel_rfl) ?_
        simp -implicitDefEqProofs only [↓dops_cons, ↓g_load, Nat.reduceLT, ev_tab, ne_eq, Nat.reduceEqDiff, not_false_eq_true, upd_ne, upd_eq, rd_def, tyOk35, agg35, cells35, y6, rd_aggc, Nat.zero_add, List.length_cons, List.length_nil, Nat.reduceAdd, Nat.le_refl, List.drop_zero, List.take_succ_cons, List.take_zero, if_true, tyOk32, agg32, cells32, a6, onS_some]
        refine call1S (by simp -implicitDefEqProofs only [List.map_cons, Nat.reduceLT, ev_tab, upd_eq, List.map_nil] <;> rfl) k1 ?_
        simp -implicitDefEqProofs only [↓dops_cons]
        refine call1S (by simp -implicitDefEqProofs only [List.map_cons, Nat.reduceLT, ev_tab, ne_eq, Nat.reduceEqDiff, not_false_eq_true, upd_ne, upd_eq, List.map_nil] <;> rfl) m1 ?_
        simp -implicitDefEqProofs only [↓dops_cons, ↓g_unOp, Nat.reduceLT, ev_tab, upd_eq, u_not, Bool.not_true, Option.map_some, ↓dops_p, ↓w_cond, ↓w_seq, ↓w_region, ↓ops_cons, ↓g_assign, ↓ops_nil, ↓w_ret, ev_const, of_bool, retP_1, res_tmp, onS_some, ↓w_skip, of_int, ↓g_load, ne_eq, Nat.reduceEqDiff, not_false_eq_true, upd_ne, rd_def, tyOk35, agg35, cells35, ↓g_move, onB_false]
        refine ⟨pairs_cons (same_H rfl) (pairs_cons (same_ld _ _ Z4.length 0 rfl rfl (y7.trans y6.symm)) (pairs_cons (same_H rfl) pairs_nil)), ?_⟩
        simp -implicitDefEqProofs only [y8, rd_aggc, Nat.zero_add, List.length_cons, List.length_nil, Nat.reduceAdd, Nat.le_refl, List.drop_zero, List.take_succ_cons, List.take_zero, if_true, onS_some]
        refine call1S (by simp -implicitDefEqProofs only [List.map_cons, Nat.reduceLT, ev_tab, ne_eq, Nat.reduceEqDiff, not_false_eq_true, upd_ne, upd_eq, List.map_nil] <;> rfl) o1 ?_
        simp -implicitDefEqProofs only [↓ops_cons, ↓g_assign, ↓ops_nil, ↓w_seq, ↓w_region, Nat.reduceLT, ev_tab, upd_eq, ↓g_move, ↓g_binOp, ev_const, of_int, b_lss, kn, decide_false, onS_some, yielded_tab, dstAt_s, dstAt_0, ybv_some, boolOf_b, ↓g_guard_t, ↓g_load, ne_eq, Nat.reduceEqDiff, not_false_eq_true, upd_ne, rd_def, tyOk35, agg35, cells35, z9, rd_aggc, Nat.zero_add, List.length_cons, List.length_nil, Nat.reduceAdd, Nat.le_refl, List.drop_zero, List.take_succ_cons, List.take_zero, if_true, w9]
        refine call1S (by simp -implicitDefEqProofs only [List.map_cons, Nat.reduceLT, ev_tab, ne_eq, Nat.reduceEqDiff, not_false_eq_true, upd_ne, upd_eq, List.map_nil] <;> rfl) s1 ?_
        simp -implicitDefEqProofs only [↓ops_cons, yielded_tab, dstAt_s, dstAt_0, Nat.reduceLT, ybv_some, ne_eq, Nat.reduceEqDiff, not_false_eq_true, upd_ne, upd_eq, boolOf_b, ↓g_guard_t, ↓g_unOp, ev_tab, u_not, Bool.not_true, Option.map_some, ↓g_pick, ev_const, of_bool, pick_b, Bool.false_eq_true, if_false, ↓g_move, onS_some, ↓g_binOp, b_neq, decide_true, ↓ops_nil, ↓w_cond, ↓w_seq, ↓w_region, ↓g_assign, ↓w_ret, retP_1, res_tmp, ↓w_skip, of_int, ↓g_load, rd_def, tyOk35, agg35, cells35, z10, rd_aggc, Nat.zero_add, List.length_cons, List.length_nil, Nat.reduceAdd, Nat.le_refl, List.drop_zero, List.take_succ_cons, List.take_zero, if_true, onB_false]
        refine call1S (by simp -implicitDefEqProofs only [List.map_cons, Nat.reduceLT, ev_tab, ne_eq, Nat.reduceEqDiff, not_false_eq_true, upd_ne, upd_eq, List.map_nil] <;> rfl) t1 ?_
        simp -implicitDefEqProofs only [↓ops_cons, ↓g_assign, ↓ops_nil, ↓w_seq, ↓w_region, Nat.reduceLT, ev_tab, upd_eq, ev_const, of_int, ↓g_load, ne_eq, Nat.reduceEqDiff, not_false_eq_true, upd_ne, rd_def, tyOk35, agg35, cells35, z11, rd_aggc, Nat.zero_add, List.length_cons, List.length_nil, Nat.reduceAdd, Nat.le_refl, List.drop_zero, List.take_succ_cons, List.take_zero, if_true, ↓g_move, onS_some]
        refine call1S (by simp -implicitDefEqProofs only [List.map_cons, Nat.reduceLT, ev_tab, ne_eq, Nat.reduceEqDiff, not_false_eq_true, upd_ne, upd_eq, List.map_nil] <;> rfl) j1 ?_
        simp -implicitDefEqProofs only [↓ops_cons, ↓g_assign, ↓ops_nil, ↓w_seq, ↓w_region, Nat.reduceLT, ev_tab, upd_eq, ↓g_move, ↓g_binOp, ev_const, of_int, b_lss, kn, decide_false, ↓w_cond, ↓w_ret, of_bool, retP_1, res_tmp, onS_some, ↓w_skip, ne_eq, Nat.reduceEqDiff, not_false_eq_true, upd_ne, b_neq, decide_true, Bool.not_true, onB_false]
        refine drawn [(0, 0), (2, 0), (2, 2)] follows (by kernel_rfl) (by kernel_rfl) ?_
        simp -implicitDefEqProofs only [↓dops_cons, ↓g_load, Nat.reduceLT, ev_tab, ne_eq, Nat.reduceEqDiff, not_false_eq_true, upd_ne, upd_eq, rd_def, tyOk32, agg32, cells32, a12, rd_aggc, Nat.zero_add, List.length_cons, List.length_nil, Nat.reduceAdd, Nat.le_refl, List.drop_zero, List.take_succ_cons, List.take_zero, if_true, onS_some]
        refine call1S (by simp -implicitDefEqProofs only [List.map_cons, Nat.reduceLT, ev_tab, upd_eq, List.map_nil] <;> rfl) aa1 ?_
        simp -implicitDefEqProofs only [↓dops_cons, ↓g_load, Nat.reduceLT, ev_tab, ne_eq, Nat.reduceEqDiff, not_false_eq_true, upd_ne, upd_eq, rd_def, tyOk23, agg23, cells23, b13, rd_aggc, Nat.zero_add, List.length_cons, List.length_nil, Nat.reduceAdd, Nat.le_refl, List.drop_zero, List.take_succ_cons, List.take_zero, if_true, onS_some]
        refine call1 (by simp -implicitDefEqProofs only [List.map_cons, Nat.reduceLT, ev_tab, upd_eq, List.map_nil] <;> rfl) tp ?_
        simp -implicitDefEqProofs only [↓dops_cons]
        refine call1S (by simp -implicitDefEqProofs only [List.map_cons, Nat.reduceLT, ev_tab, ne_eq, Nat.reduceEqDiff, not_false_eq_true, upd_ne, upd_eq, List.map_nil] <;> rfl) bb1 ?_
        simp -implicitDefEqProofs only [↓dops_cons, ↓g_move, ↓g_extract, Nat.reduceLT, ev_tab, upd_eq, ext_0, ne_eq, Nat.reduceEqDiff, not_false_eq_true, upd_ne, ext_1, ↓g_alloc, zero35, Option.map_some, ↓g_store, ↓g_assign, ↓dops_p, ↓w_seq, ↓w_region, ↓ops_cons, ↓g_load, rd_def, tyOk35, agg35, cells35, alK_some, List.all_cons, one_int, one_str, one_nil, List.all_nil, Bool.and_self, wr_def, at_end, wr_c, Nat.zero_add, List.length_cons, List.length_nil, Nat.reduceAdd, Nat.le_refl, true_and, onS_ite, onS_some, cells_agg, one_sl, and_self]
        refine ⟨pairs_cons (same_H rfl) (pairs_cons (same_ld _ _ (H.length + 1) 0 rfl rfl (b12.trans b13.symm)) (pairs_cons (same_H rfl) pairs_nil)), ?_⟩
        simp -implicitDefEqProofs only [ovr_m, ovr_n, hset_0, List.set_cons_zero, hap_0, List.getElem?_cons_zero, rd_aggc, Nat.zero_add, List.length_cons, List.length_nil, Nat.reduceAdd, Nat.le_refl, List.drop_zero, List.take_succ_cons, List.take_zero, if_true, w14, onS_some]
        refine call1S (by simp -implicitDefEqProofs only [List.map_cons, Nat.reduceLT, ev_tab, ne_eq, Nat.reduceEqDiff, not_false_eq_true, upd_ne, upd_eq, List.map_nil] <;> rfl) cc1 ?_
        simp -implicitDefEqProofs only [↓ops_cons, ↓g_unOp, Nat.reduceLT, ev_tab, upd_eq, u_not, Bool.not_true, Option.map_some, ↓g_move, onS_some, yielded_tab, dstAt_s, dstAt_0, ybv_some, boolOf_b, ↓g_guard_t, ne_eq, Nat.reduceEqDiff, not_false_eq_true, upd_ne, ↓g_binOp, b_neq, decide_true, ↓g_pick, ev_const, of_bool, pick_b, Bool.false_eq_true, if_false, ↓ops_nil, ↓w_cond, ↓w_seq, ↓w_region, ↓g_assign, ↓w_ret, retP_1, res_tmp, ↓w_skip, of_int, ↓g_load, rd_def, tyOk35, agg35, cells35, z15, rd_aggc, Nat.zero_add, List.length_cons, List.length_nil, Nat.reduceAdd, Nat.le_refl, List.drop_zero, List.take_succ_cons, List.take_zero, if_true, onB_false]
        refine call1S (by simp -implicitDefEqProofs only [List.map_cons, Nat.reduceLT, ev_tab, ne_eq, Nat.reduceEqDiff, not_false_eq_true, upd_ne, upd_eq, List.map_nil] <;> rfl) dd1 ?_
        simp -implicitDefEqProofs only [↓ops_cons, ↓g_assign, ↓ops_nil, ↓w_seq, ↓w_region, Nat.reduceLT, ev_tab, upd_eq, ↓g_move, ↓g_binOp, ev_const, of_int, b_lss, kn, decide_false, ↓w_cond, ↓w_ret, of_bool, retP_1, res_tmp, onS_some, ↓w_skip, ne_eq, Nat.reduceEqDiff, not_false_eq_true, upd_ne, b_neq, decide_true, Bool.not_true, onB_false]
  obtain ⟨v, H', h1, rfl⟩ := key
  exact ⟨H', h1⟩
end Go.Proofs.Ytheeehbaholjmaa.Sim

