/- The sizes of terms: the reference. By wip/tools/sizegen.py. -/
import Derived.Test.YtfgmmklljibbiaaDoorFSizeI
namespace Go.Proofs.YtfgmmklljibbiaaDoor.Sim
open Go
set_option maxRecDepth 100000
set_option maxHeartbeats 40000000
set_option linter.unusedSimpArgs false
set_option linter.unusedVariables false
def UpTo (l : List (Rw kNode)) (i : Nat) (u : List Int) : Prop := (allTo l i ∧ u = szs (l.take i)) ∨ (¬ allTo l i ∧ 0 < i ∧ u.getD (i - 1) 0 = 0)
theorem getD_last (u : List Int) (i : Nat) (z : Int) (h : u.length = i) : (u ++ [z]).getD (i + 1 - 1) 0 = z := by
  rw [Nat.add_sub_cancel, List.getD_eq_getElem?_getD, List.getElem?_append_right (by omega), h, Nat.sub_self]
  rfl
theorem sizesS {H : AHeap} {x : AV} {l : List (Rw kNode)} (hx : IsR H x l) (hl : l.length ≤ 1048576) (n : Nat) (hn : n < l.length) : ∃ q Z u, Sound Tryd.prog 64 [.agg [x], .sc (.int .i64 n)] H (.sl q 0 (n + 1) 1) Z ∧ Ext H Z ∧ Z[q]? = some ⟨ints .i64 u, true, true⟩ ∧ u.length = n + 1 ∧ UpTo l (n + 1) u := by
  suffices h : ∃ w Z, Sound Tryd.prog 64 [.agg [x], .sc (.int .i64 n)] H w Z ∧ ∃ q u, w = .sl q 0 (n + 1) 1 ∧ Ext H Z ∧ Z[q]? = some ⟨ints .i64 u, true, true⟩ ∧ u.length = n + 1 ∧ UpTo l (n + 1) u by
    obtain ⟨w, Z, h1, q, u, rfl, h2⟩ := h
    exact ⟨q, Z, u, h1, h2⟩
  refine Sound.runP (args := [.agg [x], .sc (.int .i64 n)]) 74 [.tmp 4] Tryd.func64 rfl rfl rfl rfl (by simp) (fun w Z => ∃ q u, w = .sl q 0 (n + 1) 1 ∧ Ext H Z ∧ Z[q]? = some ⟨ints .i64 u, true, true⟩ ∧ u.length = n + 1 ∧ UpTo l (n + 1) u) ?_
  have o := hx.one
  have lx := fun e => hx.len e
  obtain ⟨A, hA⟩ : ∃ A : Reg, A = ⟨[x], true, true⟩ := ⟨_, rfl⟩
  have e0 := Ext.more H [A]
  have b0 : (H ++ [A])[H.length]? = some ⟨[x], true, true⟩ := by rw [← hA]; exact hap_0 H [A]
  obtain ⟨r, ow, hxe, hr⟩ := (e0.isR hx).get hn
  have kl : kNode.length = 4 := rfl
  simp -implicitDefEqProofs only [↓w_seq, ↓w_region, ↓ops_cons, ↓g_box, Nat.reduceLT, ev_tab, par0, cells_agg, ↓g_assign, ↓ops_nil, ev_const, ↓g_buildSlice, Tryd.underlying65, List.map_nil, bs3_0, upd_eq, ↓w_block, of_int, alK_some, ints_one, true_and, List.all_cons, o, List.all_nil, Bool.and_self, List.length_append, List.length_cons, List.length_nil, Nat.zero_add, List.append_assoc, List.cons_append, List.nil_append]
  rw [← hA]
  have hsp : H ++ [A, ⟨ints .i64 [], true, true⟩] = (H ++ [A]) ++ [⟨ints .i64 [], true, true⟩] := by simp
  try rw [hsp]
  refine w_loop (ι := Nat) (fun i s => ∃ (T : Nat → AV) (G : AHeap) (q : Nat) (u : List Int), s = ⟨tab 74 T, G⟩ ∧ Ext (H ++ [A]) G ∧ (H ++ [A]).length ≤ q ∧ G[q]? = some ⟨ints .i64 u, true, true⟩ ∧ u.length = i ∧ i ≤ n + 1 ∧ UpTo l i u ∧ T 1 = .sc (.int .i64 n) ∧ T 2 = .ptr H.length 0 ∧ T 5 = .sl q 0 i 1 ∧ T 6 = .sc (.int .i64 i)) (fun i => n + 1 - i) ?_ (i := 0) ?_
  · rintro i s ⟨T, G, q, u, rfl, eG, hq, gq, ul, a1, up, a2, a3, a4, a5⟩
    have b0 := eG.at b0
    have h9 : H.length + 1 ≤ G.length := by have := eG.1; simpa using this
    by_cases h : i < n + 1
    · have k1 : (i : Int) ≤ n := by omega
      have k2 : (0 : Int) ≤ i := by omega
      have k3 : (i : Int) < l.length := by omega
      have k4 : i < l.length := by omega
      have k5 : (i : Int) < ((n + 1 : Nat) : Int) := by omega
      have e2 : IntKind.i64.wrap ((i : Int) + 1) = ((i + 1 : Nat) : Int) := by rw [w64 (by omega) (by omega)]; omega
      have hr := eG.at hr
      have hp : l[i]? = some l[i] := List.getElem?_eq_getElem (by omega)
      generalize l[i] = p at hp
      have rr := fun (o : Bool) => rd_row encNode hp o
      rw [csNode p] at rr
      have cn := nodeS (p.int 0) (p.int 1) (p.int 2) (p.int 3) i (by omega)
      have gq' := fun g => at_more G [g] q (at_lt gq)
      rw [gq] at gq'
      have gq2 := fun g g' => at_more G [g, g'] q (at_lt gq)
      rw [gq] at gq2
      have b0' := fun g => at_more G [g] H.length (at_lt b0)
      rw [b0] at b0'
      have b0'' := fun g g' => at_more G [g, g'] H.length (at_lt b0)
      rw [b0] at b0''
      have hr' := fun g => at_more G [g] r (at_lt hr)
      rw [hr] at hr'
      have hk1 : (i + 1 : Nat) ≤ 140737488355328 := by omega
      have hk2 : (i + 1) * 8 ≤ 140737488355328 := by omega
      have hk3 : i + 1 ≤ 140737488355328 := by omega
      have ut : u.take i = u := List.take_of_length_le (by omega)
      by_cases ok : okR p i
      · rw [decide_eq_true (show okN (p.int 0) (p.int 1) (p.int 2) (p.int 3) i from ok)] at cn
        rcases up with ⟨ao, hu⟩ | ⟨ao, hi0, hz⟩
        · have ao' := allTo_s ao hp ok
          have us := fl_s szStep l i p hp
          rw [← szs_fl, ← szs_fl, ← hu] at us
          have ok' := ok
          unfold okR okN at ok'
          have pos := fun j (hj : j < i) => szs_pos l i (by omega) ao j hj
          have pre := fun j (hj : j < i) => fl_pre szStep l i j 0 hj (by omega)
          simp only [← szs_fl, ← hu] at pre
          have hI : UpTo l (i + 1) (u ++ [szStep u p]) := .inl ⟨ao', us.symm⟩
          have co := oneS (p.int 0)
          by_cases i0 : i = 0
          · have kz : ¬ ((0 : Int) < i) := by omega
            have h1 : p.int 0 = 1 := by omega
            have hV : szStep u p = 1 := by
              have : ¬ hasB (p.int 0) := by unfold hasB; omega
              rw [szStep, if_pos h1, if_neg this]
              omega
            rw [hV] at hI
            have m1 : ¬ ((100000 : Int) < 1) := by omega
            simp -implicitDefEqProofs only [↓w_seq, ↓w_region, List.length_append, List.length_cons, List.length_nil, Nat.zero_add, ↓ops_cons, ↓g_move, ↓g_binOp, Nat.reduceLT, ev_tab, a5, ne_eq, Nat.reduceEqDiff, not_false_eq_true, upd_ne, a2, upd_eq, b_leq, k1, decide_true, onS_some, yielded_tab, dstAt_s, dstAt_0, ybv_some, boolOf_b, ↓g_guard_t, ↓g_fieldAddrT, a3, fadr43_0, ↓g_load, ↓g_len, Tryd.underlying41, ↓g_pick, ev_const, of_bool, pick_b, if_true, ↓ops_nil, ↓w_cond, ↓w_skip, ↓w_block, ↓g_indexAddr, ↓g_alloc, zero123, Option.map_some, ↓g_store, alK_some, List.all_cons, one_int, List.all_nil, Bool.and_self, wr_def, tyOk123, cells123, hap_0, List.getElem?_cons_zero, wr_c, Nat.reduceAdd, Nat.le_refl, true_and, hset_0, List.set_cons_zero, rd_def, agg123, onS_ite, tyOk41, agg41, cells41, b0, hxe, kl, rd_onec, adr_sl, k2, k3, and_self, Int.toNat_natCast, hr, rr, cells_agg, ovC, ovN, rd_aggc, List.drop_zero, List.take_succ_cons, List.take_zero, ↓w_exit, ↓g_assign, ↓w_ret, a4, retP_1, res_tmp, len_sl, b_lss, onB_true]
            refine call1 (by simp -implicitDefEqProofs only [List.map_cons, Nat.reduceLT, ev_tab, ne_eq, Nat.reduceEqDiff, not_false_eq_true, upd_ne, upd_eq, List.map_nil] <;> rfl) cn ?_
            simp -implicitDefEqProofs only [↓ops_cons, ↓g_unOp, h1, Nat.reduceLT, ev_tab, upd_eq, u_not, Bool.not_true, Option.map_some, ↓g_move, onS_some, yielded_tab, dstAt_s, dstAt_0, ybv_some, boolOf_b, ↓g_guard_t, ne_eq, Nat.reduceEqDiff, not_false_eq_true, upd_ne, a5, ↓g_binOp, ev_const, of_int, b_gtr, kz, decide_false, ↓g_guard_f, ↓g_pick, of_bool, pick_b, Bool.false_eq_true, if_false, ↓ops_nil, ↓w_cond, ↓w_seq, ↓w_region, ↓g_buildSlice, Tryd.underlying65, a4, List.map_cons, List.map_nil, bs3_1, ↓g_append, apS65, ↓g_assign, ↓w_exit, b_add, reduceCtorEq, ↓w_ret, retP_1, res_tmp, if_true, alK_some, ints_one, List.append_assoc, List.cons_append, List.nil_append, List.length_append, List.length_cons, List.length_nil, Nat.zero_add, src_sl, hap_k, List.getElem?_cons_succ, List.getElem?_cons_zero, at_ints, Nat.le_refl, List.drop_zero, List.take_succ_cons, List.take_zero, true_and, ↓w_skip, ↓g_fieldAddrT, fadr123_0, ↓g_load, fadr123_2, ↓g_indexAddr, rd_def, tyOk3, agg3, cells3, hap_0, rd_onec, adr_sl, and_self, and_true, Nat.mul_one, onS_ite, gq', rd_ints, ul, m1, onB_false, b_neq, decide_true]
            try simp -implicitDefEqProofs only [gq2, ap_ints, ul, Nat.le_refl, List.length_cons, List.length_nil, Nat.zero_add, hk2, hk1, and_self, List.length_append, Nat.reduceAdd, ut, if_true, e2, onS_some]
            refine ⟨i + 1, by omega, _, _, G.length + 2, _, rfl, ((eG.add _).kill hq).add _, ?_, at_kill G _ q _, by rw [List.length_append, ul]; rfl, by omega, ?_, ?_, ?_, ?_, ?_⟩
            · exact Nat.le_trans h9 (Nat.le_add_right _ _)
            · exact hI
            all_goals (simp -implicitDefEqProofs only [ne_eq, Nat.reduceEqDiff, not_false_eq_true, upd_ne, a2, a3, upd_eq] <;> rfl)
          · have kz : (0 : Int) < i := by omega
            have j1 : IntKind.i64.wrap ((i : Int) - 1) = ((i - 1 : Nat) : Int) := by rw [w64 (by omega) (by omega)]; omega
            have j0 : (0 : Int) ≤ ((i - 1 : Nat) : Int) := by omega
            have j2 : ((i - 1 : Nat) : Int) < i := by omega
            have j3 : i - 1 < i := by omega
            have pz := pos (i - 1) j3
            rw [← pre _ j3] at pz
            have jz : ¬ u.getD (i - 1) 0 = 0 := by omega
            by_cases h1 : p.int 0 = 1
            · have hV : szStep u p = 1 := by
                have : ¬ hasB (p.int 0) := by unfold hasB; omega
                rw [szStep, if_pos h1, if_neg this]
                omega
              rw [hV] at hI
              have m1 : ¬ ((100000 : Int) < 1) := by omega
              simp -implicitDefEqProofs only [↓w_seq, ↓w_region, List.length_append, List.length_cons, List.length_nil, Nat.zero_add, ↓ops_cons, ↓g_move, ↓g_binOp, Nat.reduceLT, ev_tab, a5, ne_eq, Nat.reduceEqDiff, not_false_eq_true, upd_ne, a2, upd_eq, b_leq, k1, decide_true, onS_some, yielded_tab, dstAt_s, dstAt_0, ybv_some, boolOf_b, ↓g_guard_t, ↓g_fieldAddrT, a3, fadr43_0, ↓g_load, ↓g_len, Tryd.underlying41, ↓g_pick, ev_const, of_bool, pick_b, if_true, ↓ops_nil, ↓w_cond, ↓w_skip, ↓w_block, ↓g_indexAddr, ↓g_alloc, zero123, Option.map_some, ↓g_store, alK_some, List.all_cons, one_int, List.all_nil, Bool.and_self, wr_def, tyOk123, cells123, hap_0, List.getElem?_cons_zero, wr_c, Nat.reduceAdd, Nat.le_refl, true_and, hset_0, List.set_cons_zero, rd_def, agg123, onS_ite, tyOk41, agg41, cells41, b0, hxe, kl, rd_onec, adr_sl, k2, k3, and_self, Int.toNat_natCast, hr, rr, cells_agg, ovC, ovN, rd_aggc, List.drop_zero, List.take_succ_cons, List.take_zero, ↓w_exit, ↓g_assign, ↓w_ret, a4, retP_1, res_tmp, len_sl, b_lss, onB_true]
              refine call1 (by simp -implicitDefEqProofs only [List.map_cons, Nat.reduceLT, ev_tab, ne_eq, Nat.reduceEqDiff, not_false_eq_true, upd_ne, upd_eq, List.map_nil] <;> rfl) cn ?_
              simp -implicitDefEqProofs only [↓ops_cons, ↓g_unOp, h1, Nat.reduceLT, ev_tab, upd_eq, u_not, Bool.not_true, Option.map_some, ↓g_move, onS_some, yielded_tab, dstAt_s, dstAt_0, ybv_some, boolOf_b, ↓g_guard_t, ne_eq, Nat.reduceEqDiff, not_false_eq_true, upd_ne, a5, ↓g_binOp, ev_const, of_int, b_gtr, kz, decide_true, a4, b_sub, j1, ↓g_indexAddr, Tryd.underlying65, ↓g_load, ↓g_pick, of_bool, pick_b, if_true, Bool.false_eq_true, if_false, ↓ops_nil, ↓w_cond, ↓w_seq, ↓w_region, ↓g_buildSlice, List.map_cons, List.map_nil, bs3_1, ↓g_append, apS65, ↓g_assign, ↓w_exit, b_add, reduceCtorEq, ↓w_ret, retP_1, res_tmp, alK_some, ints_one, List.append_assoc, List.cons_append, List.nil_append, List.length_append, List.length_cons, List.length_nil, Nat.zero_add, src_sl, hap_k, List.getElem?_cons_succ, List.getElem?_cons_zero, at_ints, Nat.le_refl, List.drop_zero, List.take_succ_cons, List.take_zero, true_and, ↓w_skip, ↓g_fieldAddrT, fadr123_0, fadr123_2, rd_def, tyOk3, agg3, cells3, hap_0, rd_onec, adr_sl, and_self, and_true, Nat.mul_one, onS_ite, gq', rd_ints, ul, m1, decide_false, onB_false, b_neq, j0, j2, Int.toNat_natCast, j3, b_eql, jz]
              try simp -implicitDefEqProofs only [gq2, ap_ints, ul, Nat.le_refl, List.length_cons, List.length_nil, Nat.zero_add, hk2, hk1, and_self, List.length_append, Nat.reduceAdd, ut, if_true, e2, onS_some]
              refine ⟨i + 1, by omega, _, _, G.length + 2, _, rfl, ((eG.add _).kill hq).add _, ?_, at_kill G _ q _, by rw [List.length_append, ul]; rfl, by omega, ?_, ?_, ?_, ?_, ?_⟩
              · exact Nat.le_trans h9 (Nat.le_add_right _ _)
              · exact hI
              all_goals (simp -implicitDefEqProofs only [ne_eq, Nat.reduceEqDiff, not_false_eq_true, upd_ne, a2, a3, upd_eq] <;> rfl)
            have hA0 : 0 ≤ p.int 2 := by omega
            have hA1 : p.int 2 < (i : Int) := by omega
            have hA2 : (p.int 2).toNat < i := by omega
            have pa := pos (p.int 2).toNat hA2
            rw [← pre _ hA2] at pa
            have e3 : IntKind.i64.wrap (1 + u.getD (p.int 2).toNat 0) = 1 + u.getD (p.int 2).toNat 0 := w64 (by omega) (by omega)
            by_cases h2 : hasB (p.int 0)
            · have hB0 : 0 ≤ p.int 3 := by unfold hasB at h2; omega
              have hB1 : p.int 3 < (i : Int) := by unfold hasB at h2; omega
              have hB2 : (p.int 3).toNat < i := by omega
              have pb := pos (p.int 3).toNat hB2
              rw [← pre _ hB2] at pb
              have e4 : IntKind.i64.wrap (1 + u.getD (p.int 2).toNat 0 + u.getD (p.int 3).toNat 0) = 1 + u.getD (p.int 2).toNat 0 + u.getD (p.int 3).toNat 0 := w64 (by omega) (by omega)
              rw [decide_eq_false (show ¬ (p.int 0 = 3 ∨ p.int 0 = 6) by unfold hasB at h2; omega)] at co
              have hV : szStep u p = min 100000 (1 + u.getD (p.int 2).toNat 0 + u.getD (p.int 3).toNat 0) := by rw [szStep, if_neg h1, if_pos h2]
              by_cases mm : (100000 : Int) < 1 + u.getD (p.int 2).toNat 0 + u.getD (p.int 3).toNat 0
              · rw [show szStep u p = 100000 by omega] at hI
                simp -implicitDefEqProofs only [↓w_seq, ↓w_region, List.length_append, List.length_cons, List.length_nil, Nat.zero_add, ↓ops_cons, ↓g_move, ↓g_binOp, Nat.reduceLT, ev_tab, a5, ne_eq, Nat.reduceEqDiff, not_false_eq_true, upd_ne, a2, upd_eq, b_leq, k1, decide_true, onS_some, yielded_tab, dstAt_s, dstAt_0, ybv_some, boolOf_b, ↓g_guard_t, ↓g_fieldAddrT, a3, fadr43_0, ↓g_load, ↓g_len, Tryd.underlying41, ↓g_pick, ev_const, of_bool, pick_b, if_true, ↓ops_nil, ↓w_cond, ↓w_skip, ↓w_block, ↓g_indexAddr, ↓g_alloc, zero123, Option.map_some, ↓g_store, alK_some, List.all_cons, one_int, List.all_nil, Bool.and_self, wr_def, tyOk123, cells123, hap_0, List.getElem?_cons_zero, wr_c, Nat.reduceAdd, Nat.le_refl, true_and, hset_0, List.set_cons_zero, rd_def, agg123, onS_ite, tyOk41, agg41, cells41, b0, hxe, kl, rd_onec, adr_sl, k2, k3, and_self, Int.toNat_natCast, hr, rr, cells_agg, ovC, ovN, rd_aggc, List.drop_zero, List.take_succ_cons, List.take_zero, ↓w_exit, ↓g_assign, ↓w_ret, a4, retP_1, res_tmp, len_sl, b_lss, onB_true]
                refine call1 (by simp -implicitDefEqProofs only [List.map_cons, Nat.reduceLT, ev_tab, ne_eq, Nat.reduceEqDiff, not_false_eq_true, upd_ne, upd_eq, List.map_nil] <;> rfl) cn ?_
                simp -implicitDefEqProofs only [↓ops_cons, ↓g_unOp, Nat.reduceLT, ev_tab, upd_eq, u_not, Bool.not_true, Option.map_some, ↓g_move, onS_some, yielded_tab, dstAt_s, dstAt_0, ybv_some, boolOf_b, ↓g_guard_t, ne_eq, Nat.reduceEqDiff, not_false_eq_true, upd_ne, a5, ↓g_binOp, ev_const, of_int, b_gtr, kz, decide_true, a4, b_sub, j1, ↓g_indexAddr, Tryd.underlying65, ↓g_load, ↓g_pick, of_bool, pick_b, if_true, Bool.false_eq_true, if_false, ↓ops_nil, ↓w_cond, ↓w_seq, ↓w_region, ↓g_buildSlice, List.map_cons, List.map_nil, bs3_1, ↓g_append, apS65, ↓g_assign, ↓w_exit, b_add, reduceCtorEq, ↓w_ret, retP_1, res_tmp, alK_some, ints_one, List.append_assoc, List.cons_append, List.nil_append, List.length_append, List.length_cons, List.length_nil, Nat.zero_add, src_sl, hap_k, List.getElem?_cons_succ, List.getElem?_cons_zero, at_ints, Nat.le_refl, List.drop_zero, List.take_succ_cons, List.take_zero, true_and, ↓w_skip, ↓g_fieldAddrT, fadr123_0, fadr123_2, rd_def, tyOk3, agg3, cells3, hap_0, rd_onec, adr_sl, hA0, hA1, and_self, Nat.mul_one, gq', rd_ints, ul, hA2, e3, Int.reduceLT, decide_false, onB_false, b_neq, h1, Bool.not_false, onB_true, j0, j2, Int.toNat_natCast, j3, b_eql, jz]
                refine call1 (by simp -implicitDefEqProofs only [List.map_cons, Nat.reduceLT, ev_tab, upd_eq, List.map_nil] <;> rfl) co ?_
                simp -implicitDefEqProofs only [↓ops_cons, ↓g_unOp, Nat.reduceLT, ev_tab, upd_eq, u_not, Bool.not_false, Option.map_some, ↓ops_nil, ↓w_cond, ↓w_region, ↓g_move, ↓g_fieldAddrT, ne_eq, Nat.reduceEqDiff, not_false_eq_true, upd_ne, a4, fadr123_3, Nat.zero_add, ↓g_load, ↓g_indexAddr, Tryd.underlying65, ↓g_binOp, ↓g_assign, ↓w_seq, ev_const, of_int, ↓g_buildSlice, List.map_cons, List.map_nil, bs3_1, ↓g_append, apS65, a5, b_add, e2, onS_some, alK_some, ints_one, List.append_assoc, List.cons_append, List.nil_append, gq2, List.length_append, List.length_cons, List.length_nil, src_sl, hap_k, List.getElem?_cons_succ, List.getElem?_cons_zero, at_ints, Nat.le_refl, List.drop_zero, List.take_succ_cons, List.take_zero, if_true, ap_ints, ul, hk2, hk1, and_self, Nat.reduceAdd, ut, true_and, ↓w_skip, rd_def, tyOk3, agg3, cells3, hap_0, rd_onec, adr_sl, hB0, hB1, Nat.mul_one, gq', rd_ints, hB2, e4, b_gtr, mm, decide_true, onB_true, onB_dec]
                refine ⟨i + 1, by omega, _, _, G.length + 2, _, rfl, ((eG.add _).kill hq).add _, ?_, at_kill G _ q _, by rw [List.length_append, ul]; rfl, by omega, ?_, ?_, ?_, ?_, ?_⟩
                · exact Nat.le_trans h9 (Nat.le_add_right _ _)
                · exact hI
                all_goals (simp -implicitDefEqProofs only [ne_eq, Nat.reduceEqDiff, not_false_eq_true, upd_ne, a2, a3, upd_eq] <;> rfl)
              · rw [show szStep u p = 1 + u.getD (p.int 2).toNat 0 + u.getD (p.int 3).toNat 0 by omega] at hI
                simp -implicitDefEqProofs only [↓w_seq, ↓w_region, List.length_append, List.length_cons, List.length_nil, Nat.zero_add, ↓ops_cons, ↓g_move, ↓g_binOp, Nat.reduceLT, ev_tab, a5, ne_eq, Nat.reduceEqDiff, not_false_eq_true, upd_ne, a2, upd_eq, b_leq, k1, decide_true, onS_some, yielded_tab, dstAt_s, dstAt_0, ybv_some, boolOf_b, ↓g_guard_t, ↓g_fieldAddrT, a3, fadr43_0, ↓g_load, ↓g_len, Tryd.underlying41, ↓g_pick, ev_const, of_bool, pick_b, if_true, ↓ops_nil, ↓w_cond, ↓w_skip, ↓w_block, ↓g_indexAddr, ↓g_alloc, zero123, Option.map_some, ↓g_store, alK_some, List.all_cons, one_int, List.all_nil, Bool.and_self, wr_def, tyOk123, cells123, hap_0, List.getElem?_cons_zero, wr_c, Nat.reduceAdd, Nat.le_refl, true_and, hset_0, List.set_cons_zero, rd_def, agg123, onS_ite, tyOk41, agg41, cells41, b0, hxe, kl, rd_onec, adr_sl, k2, k3, and_self, Int.toNat_natCast, hr, rr, cells_agg, ovC, ovN, rd_aggc, List.drop_zero, List.take_succ_cons, List.take_zero, ↓w_exit, ↓g_assign, ↓w_ret, a4, retP_1, res_tmp, len_sl, b_lss, onB_true]
                refine call1 (by simp -implicitDefEqProofs only [List.map_cons, Nat.reduceLT, ev_tab, ne_eq, Nat.reduceEqDiff, not_false_eq_true, upd_ne, upd_eq, List.map_nil] <;> rfl) cn ?_
                simp -implicitDefEqProofs only [↓ops_cons, ↓g_unOp, Nat.reduceLT, ev_tab, upd_eq, u_not, Bool.not_true, Option.map_some, ↓g_move, onS_some, yielded_tab, dstAt_s, dstAt_0, ybv_some, boolOf_b, ↓g_guard_t, ne_eq, Nat.reduceEqDiff, not_false_eq_true, upd_ne, a5, ↓g_binOp, ev_const, of_int, b_gtr, kz, decide_true, a4, b_sub, j1, ↓g_indexAddr, Tryd.underlying65, ↓g_load, ↓g_pick, of_bool, pick_b, if_true, Bool.false_eq_true, if_false, ↓ops_nil, ↓w_cond, ↓w_seq, ↓w_region, ↓g_buildSlice, List.map_cons, List.map_nil, bs3_1, ↓g_append, apS65, ↓g_assign, ↓w_exit, b_add, reduceCtorEq, ↓w_ret, retP_1, res_tmp, alK_some, ints_one, List.append_assoc, List.cons_append, List.nil_append, List.length_append, List.length_cons, List.length_nil, Nat.zero_add, src_sl, hap_k, List.getElem?_cons_succ, List.getElem?_cons_zero, at_ints, Nat.le_refl, List.drop_zero, List.take_succ_cons, List.take_zero, true_and, ↓w_skip, ↓g_fieldAddrT, fadr123_0, fadr123_2, rd_def, tyOk3, agg3, cells3, hap_0, rd_onec, adr_sl, hA0, hA1, and_self, Nat.mul_one, gq', rd_ints, ul, hA2, e3, Int.reduceLT, decide_false, onB_false, b_neq, h1, Bool.not_false, onB_true, j0, j2, Int.toNat_natCast, j3, b_eql, jz]
                refine call1 (by simp -implicitDefEqProofs only [List.map_cons, Nat.reduceLT, ev_tab, upd_eq, List.map_nil] <;> rfl) co ?_
                simp -implicitDefEqProofs only [↓ops_cons, ↓g_unOp, Nat.reduceLT, ev_tab, upd_eq, u_not, Bool.not_false, Option.map_some, ↓ops_nil, ↓w_cond, ↓w_region, ↓g_move, ↓g_fieldAddrT, ne_eq, Nat.reduceEqDiff, not_false_eq_true, upd_ne, a4, fadr123_3, Nat.zero_add, ↓g_load, ↓g_indexAddr, Tryd.underlying65, ↓g_binOp, ↓g_assign, ↓w_seq, ev_const, of_int, ↓g_buildSlice, List.map_cons, List.map_nil, bs3_1, ↓g_append, apS65, a5, b_add, e2, onS_some, alK_some, ints_one, List.append_assoc, List.cons_append, List.nil_append, gq2, List.length_append, List.length_cons, List.length_nil, src_sl, hap_k, List.getElem?_cons_succ, List.getElem?_cons_zero, at_ints, Nat.le_refl, List.drop_zero, List.take_succ_cons, List.take_zero, if_true, ap_ints, ul, hk2, hk1, and_self, Nat.reduceAdd, ut, true_and, ↓w_skip, rd_def, tyOk3, agg3, cells3, hap_0, rd_onec, adr_sl, hB0, hB1, Nat.mul_one, gq', rd_ints, hB2, e4, b_gtr, mm, decide_false, onB_false, onB_dec, onB_true]
                refine ⟨i + 1, by omega, _, _, G.length + 2, _, rfl, ((eG.add _).kill hq).add _, ?_, at_kill G _ q _, by rw [List.length_append, ul]; rfl, by omega, ?_, ?_, ?_, ?_, ?_⟩
                · exact Nat.le_trans h9 (Nat.le_add_right _ _)
                · exact hI
                all_goals (simp -implicitDefEqProofs only [ne_eq, Nat.reduceEqDiff, not_false_eq_true, upd_ne, a2, a3, upd_eq] <;> rfl)
            · rw [decide_eq_true (show (p.int 0 = 3 ∨ p.int 0 = 6) by unfold hasB at h2; omega)] at co
              have hV : szStep u p = min 100000 (1 + u.getD (p.int 2).toNat 0) := by rw [szStep, if_neg h1, if_neg h2, Int.add_zero]
              by_cases mm : (100000 : Int) < 1 + u.getD (p.int 2).toNat 0
              · rw [show szStep u p = 100000 by omega] at hI
                simp -implicitDefEqProofs only [↓w_seq, ↓w_region, List.length_append, List.length_cons, List.length_nil, Nat.zero_add, ↓ops_cons, ↓g_move, ↓g_binOp, Nat.reduceLT, ev_tab, a5, ne_eq, Nat.reduceEqDiff, not_false_eq_true, upd_ne, a2, upd_eq, b_leq, k1, decide_true, onS_some, yielded_tab, dstAt_s, dstAt_0, ybv_some, boolOf_b, ↓g_guard_t, ↓g_fieldAddrT, a3, fadr43_0, ↓g_load, ↓g_len, Tryd.underlying41, ↓g_pick, ev_const, of_bool, pick_b, if_true, ↓ops_nil, ↓w_cond, ↓w_skip, ↓w_block, ↓g_indexAddr, ↓g_alloc, zero123, Option.map_some, ↓g_store, alK_some, List.all_cons, one_int, List.all_nil, Bool.and_self, wr_def, tyOk123, cells123, hap_0, List.getElem?_cons_zero, wr_c, Nat.reduceAdd, Nat.le_refl, true_and, hset_0, List.set_cons_zero, rd_def, agg123, onS_ite, tyOk41, agg41, cells41, b0, hxe, kl, rd_onec, adr_sl, k2, k3, and_self, Int.toNat_natCast, hr, rr, cells_agg, ovC, ovN, rd_aggc, List.drop_zero, List.take_succ_cons, List.take_zero, ↓w_exit, ↓g_assign, ↓w_ret, a4, retP_1, res_tmp, len_sl, b_lss, onB_true]
                refine call1 (by simp -implicitDefEqProofs only [List.map_cons, Nat.reduceLT, ev_tab, ne_eq, Nat.reduceEqDiff, not_false_eq_true, upd_ne, upd_eq, List.map_nil] <;> rfl) cn ?_
                simp -implicitDefEqProofs only [↓ops_cons, ↓g_unOp, Nat.reduceLT, ev_tab, upd_eq, u_not, Bool.not_true, Option.map_some, ↓g_move, onS_some, yielded_tab, dstAt_s, dstAt_0, ybv_some, boolOf_b, ↓g_guard_t, ne_eq, Nat.reduceEqDiff, not_false_eq_true, upd_ne, a5, ↓g_binOp, ev_const, of_int, b_gtr, kz, decide_true, a4, b_sub, j1, ↓g_indexAddr, Tryd.underlying65, ↓g_load, ↓g_pick, of_bool, pick_b, if_true, Bool.false_eq_true, if_false, ↓ops_nil, ↓w_cond, ↓w_seq, ↓w_region, ↓g_buildSlice, List.map_cons, List.map_nil, bs3_1, ↓g_append, apS65, ↓g_assign, ↓w_exit, b_add, reduceCtorEq, ↓w_ret, retP_1, res_tmp, alK_some, ints_one, List.append_assoc, List.cons_append, List.nil_append, List.length_append, List.length_cons, List.length_nil, Nat.zero_add, src_sl, hap_k, List.getElem?_cons_succ, List.getElem?_cons_zero, at_ints, Nat.le_refl, List.drop_zero, List.take_succ_cons, List.take_zero, true_and, ↓w_skip, ↓g_fieldAddrT, fadr123_0, fadr123_2, rd_def, tyOk3, agg3, cells3, hap_0, rd_onec, adr_sl, hA0, hA1, and_self, Nat.mul_one, gq', rd_ints, ul, hA2, e3, Int.reduceLT, decide_false, onB_false, b_neq, h1, Bool.not_false, onB_true, j0, j2, Int.toNat_natCast, j3, b_eql, jz]
                refine call1 (by simp -implicitDefEqProofs only [List.map_cons, Nat.reduceLT, ev_tab, upd_eq, List.map_nil] <;> rfl) co ?_
                simp -implicitDefEqProofs only [↓ops_cons, ↓g_unOp, Nat.reduceLT, ev_tab, upd_eq, u_not, Bool.not_true, Option.map_some, ↓ops_nil, ↓w_cond, ↓w_region, ↓g_move, ↓g_fieldAddrT, ne_eq, Nat.reduceEqDiff, not_false_eq_true, upd_ne, a4, fadr123_3, Nat.zero_add, ↓g_load, ↓g_indexAddr, Tryd.underlying65, ↓g_binOp, ↓g_assign, ↓w_seq, ev_const, of_int, ↓g_buildSlice, List.map_cons, List.map_nil, bs3_1, ↓g_append, apS65, a5, b_add, e2, onS_some, alK_some, ints_one, List.append_assoc, List.cons_append, List.nil_append, gq2, List.length_append, List.length_cons, List.length_nil, src_sl, hap_k, List.getElem?_cons_succ, List.getElem?_cons_zero, at_ints, Nat.le_refl, List.drop_zero, List.take_succ_cons, List.take_zero, if_true, ap_ints, ul, hk2, hk1, and_self, Nat.reduceAdd, ut, true_and, ↓w_skip, rd_def, tyOk3, agg3, cells3, hap_0, rd_onec, adr_sl, and_true, Nat.mul_one, onS_ite, gq', rd_ints, b_gtr, onB_dec, mm, decide_true, onB_true, onB_false]
                refine ⟨i + 1, by omega, _, _, G.length + 2, _, rfl, ((eG.add _).kill hq).add _, ?_, at_kill G _ q _, by rw [List.length_append, ul]; rfl, by omega, ?_, ?_, ?_, ?_, ?_⟩
                · exact Nat.le_trans h9 (Nat.le_add_right _ _)
                · exact hI
                all_goals (simp -implicitDefEqProofs only [ne_eq, Nat.reduceEqDiff, not_false_eq_true, upd_ne, a2, a3, upd_eq] <;> rfl)
              · rw [show szStep u p = 1 + u.getD (p.int 2).toNat 0 by omega] at hI
                simp -implicitDefEqProofs only [↓w_seq, ↓w_region, List.length_append, List.length_cons, List.length_nil, Nat.zero_add, ↓ops_cons, ↓g_move, ↓g_binOp, Nat.reduceLT, ev_tab, a5, ne_eq, Nat.reduceEqDiff, not_false_eq_true, upd_ne, a2, upd_eq, b_leq, k1, decide_true, onS_some, yielded_tab, dstAt_s, dstAt_0, ybv_some, boolOf_b, ↓g_guard_t, ↓g_fieldAddrT, a3, fadr43_0, ↓g_load, ↓g_len, Tryd.underlying41, ↓g_pick, ev_const, of_bool, pick_b, if_true, ↓ops_nil, ↓w_cond, ↓w_skip, ↓w_block, ↓g_indexAddr, ↓g_alloc, zero123, Option.map_some, ↓g_store, alK_some, List.all_cons, one_int, List.all_nil, Bool.and_self, wr_def, tyOk123, cells123, hap_0, List.getElem?_cons_zero, wr_c, Nat.reduceAdd, Nat.le_refl, true_and, hset_0, List.set_cons_zero, rd_def, agg123, onS_ite, tyOk41, agg41, cells41, b0, hxe, kl, rd_onec, adr_sl, k2, k3, and_self, Int.toNat_natCast, hr, rr, cells_agg, ovC, ovN, rd_aggc, List.drop_zero, List.take_succ_cons, List.take_zero, ↓w_exit, ↓g_assign, ↓w_ret, a4, retP_1, res_tmp, len_sl, b_lss, onB_true]
                refine call1 (by simp -implicitDefEqProofs only [List.map_cons, Nat.reduceLT, ev_tab, ne_eq, Nat.reduceEqDiff, not_false_eq_true, upd_ne, upd_eq, List.map_nil] <;> rfl) cn ?_
                simp -implicitDefEqProofs only [↓ops_cons, ↓g_unOp, Nat.reduceLT, ev_tab, upd_eq, u_not, Bool.not_true, Option.map_some, ↓g_move, onS_some, yielded_tab, dstAt_s, dstAt_0, ybv_some, boolOf_b, ↓g_guard_t, ne_eq, Nat.reduceEqDiff, not_false_eq_true, upd_ne, a5, ↓g_binOp, ev_const, of_int, b_gtr, kz, decide_true, a4, b_sub, j1, ↓g_indexAddr, Tryd.underlying65, ↓g_load, ↓g_pick, of_bool, pick_b, if_true, Bool.false_eq_true, if_false, ↓ops_nil, ↓w_cond, ↓w_seq, ↓w_region, ↓g_buildSlice, List.map_cons, List.map_nil, bs3_1, ↓g_append, apS65, ↓g_assign, ↓w_exit, b_add, reduceCtorEq, ↓w_ret, retP_1, res_tmp, alK_some, ints_one, List.append_assoc, List.cons_append, List.nil_append, List.length_append, List.length_cons, List.length_nil, Nat.zero_add, src_sl, hap_k, List.getElem?_cons_succ, List.getElem?_cons_zero, at_ints, Nat.le_refl, List.drop_zero, List.take_succ_cons, List.take_zero, true_and, ↓w_skip, ↓g_fieldAddrT, fadr123_0, fadr123_2, rd_def, tyOk3, agg3, cells3, hap_0, rd_onec, adr_sl, hA0, hA1, and_self, Nat.mul_one, gq', rd_ints, ul, hA2, e3, Int.reduceLT, decide_false, onB_false, b_neq, h1, Bool.not_false, onB_true, j0, j2, Int.toNat_natCast, j3, b_eql, jz]
                refine call1 (by simp -implicitDefEqProofs only [List.map_cons, Nat.reduceLT, ev_tab, upd_eq, List.map_nil] <;> rfl) co ?_
                simp -implicitDefEqProofs only [↓ops_cons, ↓g_unOp, Nat.reduceLT, ev_tab, upd_eq, u_not, Bool.not_true, Option.map_some, ↓ops_nil, ↓w_cond, ↓w_region, ↓g_move, ↓g_fieldAddrT, ne_eq, Nat.reduceEqDiff, not_false_eq_true, upd_ne, a4, fadr123_3, Nat.zero_add, ↓g_load, ↓g_indexAddr, Tryd.underlying65, ↓g_binOp, ↓g_assign, ↓w_seq, ev_const, of_int, ↓g_buildSlice, List.map_cons, List.map_nil, bs3_1, ↓g_append, apS65, a5, b_add, e2, onS_some, alK_some, ints_one, List.append_assoc, List.cons_append, List.nil_append, gq2, List.length_append, List.length_cons, List.length_nil, src_sl, hap_k, List.getElem?_cons_succ, List.getElem?_cons_zero, at_ints, Nat.le_refl, List.drop_zero, List.take_succ_cons, List.take_zero, if_true, ap_ints, ul, hk2, hk1, and_self, Nat.reduceAdd, ut, true_and, ↓w_skip, rd_def, tyOk3, agg3, cells3, hap_0, rd_onec, adr_sl, and_true, Nat.mul_one, onS_ite, gq', rd_ints, b_gtr, onB_dec, mm, decide_false, onB_false]
                refine ⟨i + 1, by omega, _, _, G.length + 2, _, rfl, ((eG.add _).kill hq).add _, ?_, at_kill G _ q _, by rw [List.length_append, ul]; rfl, by omega, ?_, ?_, ?_, ?_, ?_⟩
                · exact Nat.le_trans h9 (Nat.le_add_right _ _)
                · exact hI
                all_goals (simp -implicitDefEqProofs only [ne_eq, Nat.reduceEqDiff, not_false_eq_true, upd_ne, a2, a3, upd_eq] <;> rfl)
        · have kz : (0 : Int) < i := by omega
          have j1 : IntKind.i64.wrap ((i : Int) - 1) = ((i - 1 : Nat) : Int) := by rw [w64 (by omega) (by omega)]; omega
          have j0 : (0 : Int) ≤ ((i - 1 : Nat) : Int) := by omega
          have j2 : ((i - 1 : Nat) : Int) < i := by omega
          have j3 : i - 1 < i := by omega
          have hI : UpTo l (i + 1) (u ++ [0]) := .inr ⟨fun h => ao (fun j q hj hq => h j q (by omega) hq), by omega, getD_last u i 0 ul⟩
          simp -implicitDefEqProofs only [↓w_seq, ↓w_region, List.length_append, List.length_cons, List.length_nil, Nat.zero_add, ↓ops_cons, ↓g_move, ↓g_binOp, Nat.reduceLT, ev_tab, a5, ne_eq, Nat.reduceEqDiff, not_false_eq_true, upd_ne, a2, upd_eq, b_leq, k1, decide_true, onS_some, yielded_tab, dstAt_s, dstAt_0, ybv_some, boolOf_b, ↓g_guard_t, ↓g_fieldAddrT, a3, fadr43_0, ↓g_load, ↓g_len, Tryd.underlying41, ↓g_pick, ev_const, of_bool, pick_b, if_true, ↓ops_nil, ↓w_cond, ↓w_skip, ↓w_block, ↓g_indexAddr, ↓g_alloc, zero123, Option.map_some, ↓g_store, alK_some, List.all_cons, one_int, List.all_nil, Bool.and_self, wr_def, tyOk123, cells123, hap_0, List.getElem?_cons_zero, wr_c, Nat.reduceAdd, Nat.le_refl, true_and, hset_0, List.set_cons_zero, rd_def, agg123, onS_ite, tyOk41, agg41, cells41, b0, hxe, kl, rd_onec, adr_sl, k2, k3, and_self, Int.toNat_natCast, hr, rr, cells_agg, ovC, ovN, rd_aggc, List.drop_zero, List.take_succ_cons, List.take_zero, ↓w_exit, ↓g_assign, ↓w_ret, a4, retP_1, res_tmp, len_sl, b_lss, onB_true]
          refine call1 (by simp -implicitDefEqProofs only [List.map_cons, Nat.reduceLT, ev_tab, ne_eq, Nat.reduceEqDiff, not_false_eq_true, upd_ne, upd_eq, List.map_nil] <;> rfl) cn ?_
          simp -implicitDefEqProofs only [↓ops_cons, ↓g_unOp, Nat.reduceLT, ev_tab, upd_eq, u_not, Bool.not_true, Option.map_some, ↓g_move, onS_some, yielded_tab, dstAt_s, dstAt_0, ybv_some, boolOf_b, ↓g_guard_t, ne_eq, Nat.reduceEqDiff, not_false_eq_true, upd_ne, a5, ↓g_binOp, ev_const, of_int, b_gtr, kz, decide_true, a4, b_sub, j1, ↓g_indexAddr, Tryd.underlying65, ↓g_load, ↓g_pick, of_bool, pick_b, if_true, Bool.false_eq_true, if_false, ↓ops_nil, ↓w_cond, ↓w_seq, ↓w_region, ↓g_buildSlice, List.map_cons, List.map_nil, bs3_1, ↓g_append, apS65, ↓g_assign, ↓w_exit, b_add, reduceCtorEq, ↓w_ret, retP_1, res_tmp, alK_some, ints_one, List.append_assoc, List.cons_append, List.nil_append, List.length_append, List.length_cons, List.length_nil, Nat.zero_add, src_sl, hap_k, List.getElem?_cons_succ, List.getElem?_cons_zero, at_ints, Nat.le_refl, List.drop_zero, List.take_succ_cons, List.take_zero, true_and, ↓w_skip, ↓g_fieldAddrT, fadr123_0, fadr123_2, rd_def, tyOk3, agg3, cells3, hap_0, rd_onec, adr_sl, and_self, and_true, Nat.mul_one, onS_ite, gq', rd_ints, ul, Int.reduceLT, decide_false, onB_false, b_neq, onB_not, onB_dec, j0, j2, Int.toNat_natCast, j3, hz, b_eql, onB_true]
          try simp -implicitDefEqProofs only [gq2, ap_ints, ul, Nat.le_refl, List.length_cons, List.length_nil, Nat.zero_add, hk2, hk1, and_self, List.length_append, Nat.reduceAdd, ut, if_true, e2, onS_some]
          refine ⟨i + 1, by omega, _, _, G.length + 2, _, rfl, ((eG.add _).kill hq).add _, ?_, at_kill G _ q _, by rw [List.length_append, ul]; rfl, by omega, ?_, ?_, ?_, ?_, ?_⟩
          · exact Nat.le_trans h9 (Nat.le_add_right _ _)
          · exact hI
          all_goals (simp -implicitDefEqProofs only [ne_eq, Nat.reduceEqDiff, not_false_eq_true, upd_ne, a2, a3, upd_eq] <;> rfl)
      · rw [decide_eq_false (show ¬ okN (p.int 0) (p.int 1) (p.int 2) (p.int 3) i from ok)] at cn
        have no := allTo_n (m := i + 1) (by omega) hp ok
        have hI : UpTo l (i + 1) (u ++ [0]) := .inr ⟨no, by omega, getD_last u i 0 ul⟩
        simp -implicitDefEqProofs only [↓w_seq, ↓w_region, List.length_append, List.length_cons, List.length_nil, Nat.zero_add, ↓ops_cons, ↓g_move, ↓g_binOp, Nat.reduceLT, ev_tab, a5, ne_eq, Nat.reduceEqDiff, not_false_eq_true, upd_ne, a2, upd_eq, b_leq, k1, decide_true, onS_some, yielded_tab, dstAt_s, dstAt_0, ybv_some, boolOf_b, ↓g_guard_t, ↓g_fieldAddrT, a3, fadr43_0, ↓g_load, ↓g_len, Tryd.underlying41, ↓g_pick, ev_const, of_bool, pick_b, if_true, ↓ops_nil, ↓w_cond, ↓w_skip, ↓w_block, ↓g_indexAddr, ↓g_alloc, zero123, Option.map_some, ↓g_store, alK_some, List.all_cons, one_int, List.all_nil, Bool.and_self, wr_def, tyOk123, cells123, hap_0, List.getElem?_cons_zero, wr_c, Nat.reduceAdd, Nat.le_refl, true_and, hset_0, List.set_cons_zero, rd_def, agg123, onS_ite, tyOk41, agg41, cells41, b0, hxe, kl, rd_onec, adr_sl, k2, k3, and_self, Int.toNat_natCast, hr, rr, cells_agg, ovC, ovN, rd_aggc, List.drop_zero, List.take_succ_cons, List.take_zero, ↓w_exit, ↓g_assign, ↓w_ret, a4, retP_1, res_tmp, len_sl, b_lss, onB_true]
        refine call1 (by simp -implicitDefEqProofs only [List.map_cons, Nat.reduceLT, ev_tab, ne_eq, Nat.reduceEqDiff, not_false_eq_true, upd_ne, upd_eq, List.map_nil] <;> rfl) cn ?_
        simp -implicitDefEqProofs only [↓ops_cons, ↓g_unOp, Nat.reduceLT, ev_tab, upd_eq, u_not, Bool.not_false, Option.map_some, ↓g_move, onS_some, yielded_tab, dstAt_s, dstAt_0, ybv_some, boolOf_b, ↓g_guard_f, ne_eq, Nat.reduceEqDiff, not_false_eq_true, upd_ne, bo_v, ↓g_guard_v, ↓g_pick, ev_const, of_bool, pick_b, if_true, ↓ops_nil, ↓w_cond, ↓w_seq, ↓w_region, ↓g_buildSlice, Tryd.underlying65, a4, List.map_cons, of_int, List.map_nil, bs3_1, ↓g_append, apS65, ↓g_assign, ↓w_exit, ↓g_binOp, a5, b_add, reduceCtorEq, ↓w_ret, retP_1, res_tmp, if_false, alK_some, ints_one, List.append_assoc, List.cons_append, List.nil_append, List.length_append, List.length_cons, List.length_nil, Nat.zero_add, src_sl, hap_k, List.getElem?_cons_succ, List.getElem?_cons_zero, at_ints, Nat.le_refl, List.drop_zero, List.take_succ_cons, List.take_zero, true_and, ↓w_skip, ↓g_fieldAddrT, fadr123_0, ↓g_load, fadr123_2, ↓g_indexAddr, rd_def, tyOk3, agg3, cells3, hap_0, rd_onec, adr_sl, and_self, and_true, Nat.mul_one, onS_ite, gq', rd_ints, ul, b_gtr, Int.reduceLT, decide_false, onB_false, b_neq, onB_not, onB_dec, onB_true]
        try simp -implicitDefEqProofs only [gq2, ap_ints, ul, Nat.le_refl, List.length_cons, List.length_nil, Nat.zero_add, hk2, hk1, and_self, List.length_append, Nat.reduceAdd, ut, if_true, e2, onS_some]
        refine ⟨i + 1, by omega, _, _, G.length + 2, _, rfl, ((eG.add _).kill hq).add _, ?_, at_kill G _ q _, by rw [List.length_append, ul]; rfl, by omega, ?_, ?_, ?_, ?_, ?_⟩
        · exact Nat.le_trans h9 (Nat.le_add_right _ _)
        · exact hI
        all_goals (simp -implicitDefEqProofs only [ne_eq, Nat.reduceEqDiff, not_false_eq_true, upd_ne, a2, a3, upd_eq] <;> rfl)
    · have hi : i = n + 1 := by omega
      subst hi
      have k1 : ¬ (((n + 1 : Nat) : Int) ≤ (n : Int)) := by omega
      simp -implicitDefEqProofs only [↓w_seq, ↓w_region, List.length_append, List.length_cons, List.length_nil, Nat.zero_add, ↓ops_cons, ↓g_move, ↓g_binOp, Nat.reduceLT, ev_tab, a5, ne_eq, Nat.reduceEqDiff, not_false_eq_true, upd_ne, a2, upd_eq, b_leq, k1, decide_false, onS_some, yielded_tab, dstAt_s, dstAt_0, ybv_some, boolOf_b, Bool.not_true, ↓g_guard_f, ↓g_pick, ev_const, of_bool, pick_b, Bool.false_eq_true, if_false, ↓ops_nil, ↓w_cond, ↓w_skip, ↓w_block, ↓g_fieldAddrT, a3, fadr43_0, ↓g_load, ↓g_indexAddr, Tryd.underlying41, ↓g_alloc, zero123, Option.map_some, ↓g_store, alK_some, List.all_cons, one_int, List.all_nil, Bool.and_self, wr_def, tyOk123, cells123, at_end, wr_c, Nat.reduceAdd, Nat.le_refl, true_and, rd_def, agg123, onS_ite, tyOk41, agg41, cells41, ↓w_exit, ↓g_assign, ↓w_ret, a4, retP_1, res_tmp, if_true, onB_false]
      exact ⟨_, _, rfl, e0.trans eG, gq, ul, up⟩
  · refine ⟨_, _, _, _, rfl, Ext.more _ _, Nat.le_refl _, hap_0 _ _, rfl, by omega, .inl ⟨fun i p h => absurd h (by omega), rfl⟩, ?_, ?_, ?_, ?_⟩ <;> simp -implicitDefEqProofs only [ne_eq, Nat.reduceEqDiff, not_false_eq_true, upd_ne, par1, upd_eq, List.length_append, List.length_cons, List.length_nil, Nat.zero_add, Int.cast_ofNat_Int] <;> rfl
theorem sizeS {H : AHeap} {x : AV} {l : List (Rw kNode)} (hx : IsR H x l) (hl : l.length ≤ 1048576) (k v : Int) (hv : SizeIs l k v) : ∃ Z, Sound Tryd.prog 31 [.agg [x], .sc (.int .i64 k)] H (.sc (.int .i64 v)) Z ∧ Ext H Z := by
  suffices h : ∃ w Z, Sound Tryd.prog 31 [.agg [x], .sc (.int .i64 k)] H w Z ∧ w = .sc (.int .i64 v) ∧ Ext H Z by
    obtain ⟨w, Z, h1, rfl, h2⟩ := h
    exact ⟨Z, h1, h2⟩
  refine Sound.runP (args := [.agg [x], .sc (.int .i64 k)]) 18 [.tmp 4] Tryd.func31 rfl rfl rfl rfl (by simp) (fun w Z => w = .sc (.int .i64 v) ∧ Ext H Z) ?_
  have o := hx.one
  have lx := fun e => hx.len e
  have e1 : IntKind.i64.wrap ((l.length : Int) - 1) = l.length - 1 := w64 (by omega) (by omega)
  obtain ⟨A, hA⟩ : ∃ A : Reg, A = ⟨[x], true, true⟩ := ⟨_, rfl⟩
  have e0 := Ext.more H [A]
  have b0 : (H ++ [A])[H.length]? = some ⟨[x], true, true⟩ := by rw [← hA]; exact hap_0 H [A]
  have c1 := inS k 0 (l.length - 1)
  simp -implicitDefEqProofs only [↓w_seq, ↓w_region, ↓ops_cons, ↓g_box, Nat.reduceLT, ev_tab, par0, cells_agg, ↓g_assign, ↓ops_nil, ev_const, of_int, ↓g_move, ↓g_fieldAddrT, ne_eq, Nat.reduceEqDiff, not_false_eq_true, upd_ne, par1, upd_eq, ↓g_load, ↓g_len, Tryd.underlying41, ↓g_binOp, alK_some, List.all_cons, o, List.all_nil, Bool.and_self, fadr43_0, Nat.zero_add, onS_some, rd_def, tyOk41, agg41, cells41, hap_0, List.getElem?_cons_zero, rd_onec, lx, b_sub, e1, true_and]
  rw [← hA]
  refine call1 (by simp -implicitDefEqProofs only [List.map_cons, Nat.reduceLT, ev_tab, ne_eq, Nat.reduceEqDiff, not_false_eq_true, upd_ne, upd_eq, ev_const, of_int, List.map_nil] <;> rfl) c1 ?_
  rcases hv with ⟨hk, rfl⟩ | ⟨hk, hv⟩
  · rw [decide_eq_false hk]
    simp -implicitDefEqProofs only [↓ops_cons, ↓g_unOp, Nat.reduceLT, ev_tab, upd_eq, u_not, Bool.not_false, Option.map_some, ↓ops_nil, ↓w_cond, ↓w_seq, ↓w_region, ↓g_assign, ↓w_ret, ev_const, of_int, retP_1, res_tmp, onS_some, true_and, ↓w_skip, ↓g_load, ne_eq, Nat.reduceEqDiff, not_false_eq_true, upd_ne, rd_def, tyOk43, agg43, cells43, at_end, ↓g_move, par1, onB_true]
    exact e0
  · rw [decide_eq_true hk]
    obtain ⟨n, rfl⟩ : ∃ n : Nat, k = n := ⟨k.toNat, by omega⟩
    simp only [Int.toNat_natCast] at hv
    have hn : n < l.length := by omega
    obtain ⟨q, Z, u, s1, s2, s3, s4, s5⟩ := sizesS (e0.isR hx) hl n hn
    have hv0 : v = u.getD n 0 := by
      have pv := fl_pre szStep l (n + 1) n 0 (by omega) (by omega)
      rw [← szs_fl, ← szs_fl] at pv
      rcases s5 with ⟨p1, p2⟩ | ⟨p1, p2, p3⟩
      · rcases hv with hv | hv
        · rw [hv.2, p2, pv]
        · exact absurd p1 hv.1
      · rcases hv with hv | hv
        · exact absurd hv.1 p1
        · rw [hv.2]
          exact p3.symm
    rw [hv0]
    have k2 : (0 : Int) ≤ n := by omega
    have k3 : (n : Int) < ((n + 1 : Nat) : Int) := by omega
    have k4 : n < n + 1 := by omega
    simp -implicitDefEqProofs only [↓ops_cons, ↓g_unOp, Nat.reduceLT, ev_tab, upd_eq, u_not, Bool.not_true, Option.map_some, ↓ops_nil, ↓w_cond, ↓w_seq, ↓w_region, ↓g_assign, ↓w_ret, ev_const, of_int, retP_1, res_tmp, onS_some, ↓w_skip, ↓g_load, ne_eq, Nat.reduceEqDiff, not_false_eq_true, upd_ne, rd_def, tyOk43, agg43, cells43, b0, rd_aggc, Nat.zero_add, List.length_cons, List.length_nil, Nat.le_refl, List.drop_zero, List.take_succ_cons, List.take_zero, if_true, ↓g_move, par1, onB_false]
    refine call1S (by simp -implicitDefEqProofs only [List.map_cons, Nat.reduceLT, ev_tab, ne_eq, Nat.reduceEqDiff, not_false_eq_true, upd_ne, upd_eq, List.map_nil] <;> rfl) s1 ?_
    simp -implicitDefEqProofs only [↓ops_cons, ↓g_move, ↓g_indexAddr, Tryd.underlying65, Nat.reduceLT, ev_tab, ne_eq, Nat.reduceEqDiff, not_false_eq_true, upd_ne, par1, upd_eq, adr_sl, k2, k3, cells3, tyOk3, and_self, Int.toNat_natCast, Nat.mul_one, Nat.zero_add, if_true, ↓g_load, ↓g_assign, ↓ops_nil, ↓w_ret, retP_1, res_tmp, onS_some, rd_def, agg3, s3, rd_ints, s4, k4, true_and]
    exact e0.trans s2
end Go.Proofs.YtfgmmklljibbiaaDoor.Sim

