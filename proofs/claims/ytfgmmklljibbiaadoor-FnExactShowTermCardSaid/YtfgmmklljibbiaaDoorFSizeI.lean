/- The sizes of terms: the program. -/
import Derived.Test.YtfgmmklljibbiaaDoorFNodeR
namespace Go.Proofs.YtfgmmklljibbiaaDoor.Sim
open Go
set_option maxRecDepth 100000
set_option maxHeartbeats 40000000
set_option linter.unusedSimpArgs false
set_option linter.unusedVariables false
def allTo (l : List (Rw kNode)) (n : Nat) : Prop := ∀ (i : Nat) p, i < n → l[i]? = some p → okR p i
def SizeIs (l : List (Rw kNode)) (k v : Int) : Prop := (¬ (0 ≤ k ∧ k ≤ (l.length : Int) - 1) ∧ v = 0) ∨ ((0 ≤ k ∧ k ≤ (l.length : Int) - 1) ∧ ((allTo l (k.toNat + 1) ∧ v = (szs l).getD k.toNat 0) ∨ (¬ allTo l (k.toNat + 1) ∧ v = 0)))
theorem szs_len (l : List (Rw kNode)) : (szs l).length = l.length := fl_len szStep l
theorem allTo_s {l : List (Rw kNode)} {n : Nat} {p : Rw kNode} (h : allTo l n) (hp : l[n]? = some p) (ok : okR p n) : allTo l (n + 1) := by
  intro i q hi hq
  rcases Nat.lt_or_ge i n with h1 | h1
  · exact h i q h1 hq
  · have : i = n := by omega
    subst this
    rw [hp] at hq
    cases hq
    exact ok
theorem allTo_n {l : List (Rw kNode)} {n m : Nat} {p : Rw kNode} (hn : n < m) (hp : l[n]? = some p) (ok : ¬ okR p n) : ¬ allTo l m := fun h => ok (h n p hn hp)
theorem at_kill (G Y : AHeap) (q : Nat) (g : Reg) : (killReg (G ++ Y) q ++ [g])[G.length + Y.length]? = some g := by
  have h : (killReg (G ++ Y) q).length = G.length + Y.length := by rw [kill_len, List.length_append]
  rw [← h]
  exact at_end _ _
theorem min_i (k q : IntKind) (x y : Int) : minI [.sc (.int k x), .sc (.int q y)] = some (.int k (if y < x then y else x)) := rfl
theorem sizeI {H : AHeap} {x : AV} {l : List (Rw kNode)} (hx : IsR H x l) (hl : l.length ≤ 1048576) (k v : Int) (hv : SizeIs l k v) : ∃ Z, Sound Tryd.prog 34 [.agg [x], .sc (.int .i64 k)] H (.sc (.int .i64 v)) Z ∧ Ext H Z := by
  suffices h : ∃ w Z, Sound Tryd.prog 34 [.agg [x], .sc (.int .i64 k)] H w Z ∧ w = .sc (.int .i64 v) ∧ Ext H Z by
    obtain ⟨w, Z, h1, rfl, h2⟩ := h
    exact ⟨Z, h1, h2⟩
  refine Sound.runP (args := [.agg [x], .sc (.int .i64 k)]) 59 [.tmp 4] Tryd.func34 rfl rfl rfl rfl (by simp) (fun w Z => w = .sc (.int .i64 v) ∧ Ext H Z) ?_
  have o := hx.one
  obtain ⟨A, hA⟩ : ∃ A : Reg, A = ⟨[x], true, true⟩ := ⟨_, rfl⟩
  have e0 := Ext.more H [A]
  have b0 : (H ++ [A])[H.length]? = some ⟨[x], true, true⟩ := by rw [← hA]; exact hap_0 H [A]
  obtain ⟨Z1, c1, x1⟩ := hasNodeI (e0.isR hx) hl k
  have b1 := x1.at b0
  simp -implicitDefEqProofs only [↓w_seq, ↓w_region, ↓ops_cons, ↓g_box, Nat.reduceLT, ev_tab, par0, cells_agg, ↓g_assign, ↓ops_nil, ev_const, of_int, ↓g_load, ne_eq, Nat.reduceEqDiff, not_false_eq_true, upd_ne, upd_eq, ↓g_move, par1, alK_some, List.all_cons, o, List.all_nil, Bool.and_self, rd_def, tyOk43, agg43, cells43, hap_0, List.getElem?_cons_zero, rd_aggc, Nat.zero_add, List.length_cons, List.length_nil, Nat.le_refl, List.drop_zero, List.take_succ_cons, List.take_zero, if_true, onS_some, true_and]
  rw [← hA]
  refine call1S (by simp -implicitDefEqProofs only [List.map_cons, Nat.reduceLT, ev_tab, ne_eq, Nat.reduceEqDiff, not_false_eq_true, upd_ne, upd_eq, List.map_nil] <;> rfl) c1 ?_
  rcases hv with ⟨hk, rfl⟩ | ⟨hk, hv⟩
  · rw [decide_eq_false hk]
    simp -implicitDefEqProofs only [↓ops_cons, ↓g_unOp, Nat.reduceLT, ev_tab, upd_eq, u_not, Bool.not_false, Option.map_some, ↓ops_nil, ↓w_cond, ↓w_seq, ↓w_region, ↓g_assign, ↓w_ret, ev_const, of_int, retP_1, res_tmp, onS_some, true_and, ↓w_skip, ↓g_buildSlice, Tryd.underlying65, List.map_nil, bs3_0, ↓g_fieldAddrT, ne_eq, Nat.reduceEqDiff, not_false_eq_true, upd_ne, fadr43_0, Nat.zero_add, ↓g_load, ↓g_move, ↓g_binOp, par1, b_add, ↓g_slice, Tryd.underlying41, Option.map_none, ↓g_len, ↓w_block, rd_def, tyOk41, agg41, cells41, alK_some, ints_one, onB_true]
    exact e0.trans x1
  · rw [decide_eq_true hk]
    have E1 := e0.trans x1
    obtain ⟨n, rfl⟩ : ∃ n : Nat, k = n := ⟨k.toNat, by omega⟩
    simp only [Int.toNat_natCast] at hv
    have hn : n < l.length := by omega
    have e1 : IntKind.i64.wrap ((n : Int) + 1) = ((n + 1 : Nat) : Int) := by rw [w64 (by omega) (by omega)]; omega
    obtain ⟨r, ow, hxe, hr⟩ := (E1.isR hx).get hn
    have kl : kNode.length = 4 := rfl
    have b2 := fun g => at_more Z1 [g] H.length (at_lt b1)
    rw [b1] at b2
    have n0 : (0 : Int) ≤ ((n + 1 : Nat) : Int) := by omega
    have n1 : ((n + 1 : Nat) : Int) ≤ l.length := by omega
    have n2 : n + 1 ≤ l.length := by omega
    simp -implicitDefEqProofs only [↓ops_cons, ↓g_unOp, hxe, kl, Nat.reduceLT, ev_tab, upd_eq, u_not, Bool.not_true, Option.map_some, ↓ops_nil, ↓w_cond, ↓w_seq, ↓w_region, ↓g_assign, ↓w_ret, ev_const, of_int, retP_1, res_tmp, onS_some, ↓w_skip, ↓g_buildSlice, Tryd.underlying65, List.map_nil, bs3_0, ↓g_fieldAddrT, ne_eq, Nat.reduceEqDiff, not_false_eq_true, upd_ne, fadr43_0, Nat.zero_add, ↓g_load, ↓g_move, ↓g_binOp, par1, b_add, e1, ↓g_slice, Tryd.underlying41, Option.map_none, ↓g_len, ↓w_block, rd_def, tyOk41, agg41, cells41, alK_some, ints_one, b2, rd_onec, List.getElem?_cons_zero, cut_sl, bnd_none, bnd_int, n0, Int.toNat_natCast, if_true, cutL_some, Nat.reduceLeDiff, n2, cells123, tyOk123, and_self, Nat.reduceMul, Nat.sub_zero, len_sl, true_and, onB_false]
    refine w_loop (ι := Nat) (fun i s => ∃ (T : Nat → AV) (G : AHeap) (q : Nat), s = ⟨tab 59 T, G⟩ ∧ Ext Z1 G ∧ Z1.length ≤ q ∧ G[q]? = some ⟨ints .i64 (szs (l.take i)), true, true⟩ ∧ i ≤ n + 1 ∧ allTo l i ∧ T 1 = .sc (.int .i64 n) ∧ T 5 = .sl q 0 i 1 ∧ T 18 = .sl r 0 (n + 1) 4 ∧ T 19 = .sc (.int .i64 ((n + 1 : Nat) : Int)) ∧ T 20 = .sc (.int .i64 i)) (fun i => n + 1 - i) ?_ (i := 0) ?_
    · rintro i s ⟨T, G, q, rfl, eG, hq, gq, a1, ao, a2, a3, a4, a5, a6⟩
      have ul : (szs (l.take i)).length = i := by rw [szs_len, List.length_take]; omega
      by_cases h : i < n + 1
      · have k1 : (i : Int) < ((n + 1 : Nat) : Int) := by omega
        have k2 : (0 : Int) ≤ i := by omega
        have k3 : (i : Int) < l.length := by omega
        have e2 : IntKind.i64.wrap ((i : Int) + 1) = ((i + 1 : Nat) : Int) := by rw [w64 (by omega) (by omega)]; omega
        have hr := eG.at hr
        have hp : l[i]? = some l[i] := List.getElem?_eq_getElem (by omega)
        generalize l[i] = p at hp
        have rr := fun (o : Bool) => rd_row encNode hp o
        rw [csNode p] at rr
        have cn := nodeI (p.int 0) (p.int 1) (p.int 2) (p.int 3) i (by omega)
        have gq' := fun g => at_more G [g] q (at_lt gq)
        rw [gq] at gq'
        by_cases ok : okR p i
        · rw [decide_eq_true (show okN (p.int 0) (p.int 1) (p.int 2) (p.int 3) i from ok)] at cn
          have ao' := allTo_s ao hp ok
          have us := fl_s szStep l i p hp
          rw [← szs_fl, ← szs_fl] at us
          have ok' := ok
          unfold okR okN at ok'
          have pos := fun j (hj : j < i) => szs_pos l i (by omega) ao j hj
          have pre := fun j (hj : j < i) => fl_pre szStep l i j 0 hj (by omega)
          simp only [← szs_fl] at pre
          generalize hu : szs (l.take i) = u at *
          have gq2 := fun g g' => at_more G [g, g'] q (at_lt gq)
          rw [gq] at gq2
          have hk1 : (i + 1 : Nat) ≤ 140737488355328 := by omega
          have hk2 : (i + 1) * 8 ≤ 140737488355328 := by omega
          have hk3 : i + 1 ≤ 140737488355328 := by omega
          have ut : u.take i = u := List.take_of_length_le (by omega)
          by_cases h1 : p.int 0 = 1
          · have hV : szStep u p = 1 := by
              have : ¬ hasB (p.int 0) := by unfold hasB; omega
              rw [szStep, if_pos h1, if_neg this]
              omega
            rw [hV] at us
            have hb := hasBI (p.int 0)
            rw [decide_eq_false (show ¬ hasB (p.int 0) by unfold hasB; omega)] at hb
            simp -implicitDefEqProofs only [↓w_seq, ↓w_region, ↓ops_cons, ↓g_binOp, Nat.reduceLT, ev_tab, a6, a5, b_lss, k1, decide_true, ↓ops_nil, ↓w_cond, upd_eq, ↓w_skip, ↓w_block, ↓g_move, ↓g_indexAddr, Tryd.underlying41, ne_eq, Nat.reduceEqDiff, not_false_eq_true, upd_ne, a4, adr_sl, k2, cells123, tyOk123, and_self, Int.toNat_natCast, Nat.zero_add, if_true, ↓g_load, ↓g_alloc, zero123, Option.map_some, ↓g_assign, ↓g_store, alK_some, List.all_cons, one_int, List.all_nil, Bool.and_self, wr_def, hap_0, List.getElem?_cons_zero, wr_c, List.length_cons, List.length_nil, Nat.reduceAdd, Nat.le_refl, true_and, hset_0, List.set_cons_zero, rd_def, agg123, onS_ite, onS_some, hr, rr, cells_agg, ovC, ovN, rd_aggc, List.drop_zero, List.take_succ_cons, List.take_zero, ↓w_exit, Tryd.underlying65, a3, a2, cells3, tyOk3, and_true, Nat.mul_one, ↓w_ret, retP_1, res_tmp, agg3, onB_true]
            refine call1 (by simp -implicitDefEqProofs only [List.map_cons, Nat.reduceLT, ev_tab, ne_eq, Nat.reduceEqDiff, not_false_eq_true, upd_ne, upd_eq, List.map_nil] <;> rfl) cn ?_
            simp -implicitDefEqProofs only [↓ops_cons, ↓g_unOp, h1, Nat.reduceLT, ev_tab, upd_eq, u_not, Bool.not_true, Option.map_some, ↓ops_nil, ↓w_cond, ↓w_seq, ↓w_region, ↓g_assign, ↓w_ret, ev_const, of_int, retP_1, res_tmp, onS_some, ↓w_skip, ↓g_fieldAddrT, ne_eq, Nat.reduceEqDiff, not_false_eq_true, upd_ne, fadr123_0, Nat.zero_add, ↓g_load, ↓g_binOp, ↓g_move, a3, fadr123_2, ↓g_indexAddr, Tryd.underlying65, rd_def, tyOk3, agg3, cells3, hap_0, List.getElem?_cons_zero, rd_onec, List.getElem?_cons_succ, adr_sl, and_self, and_true, Nat.mul_one, onS_ite, b_neq, decide_true, onB_false]
            refine call1 (by simp -implicitDefEqProofs only [List.map_cons, Nat.reduceLT, ev_tab, upd_eq, List.map_nil, h1] <;> rfl) hb ?_
            have m1 : ¬ ((100000 : Int) < 1) := by omega
            simp -implicitDefEqProofs only [↓ops_nil, ↓w_cond, Nat.reduceLT, ev_tab, upd_eq, ↓w_region, ↓ops_cons, ↓g_move, ↓g_fieldAddrT, ne_eq, Nat.reduceEqDiff, not_false_eq_true, upd_ne, a3, fadr123_3, Nat.zero_add, ↓g_load, ↓g_indexAddr, Tryd.underlying65, ↓g_binOp, ↓g_assign, ↓g_min, List.map_cons, ev_const, of_int, List.map_nil, ↓g_buildSlice, ↓g_append, apS65, a6, b_add, e2, onS_some, rd_def, tyOk3, agg3, cells3, hap_0, List.getElem?_cons_zero, rd_onec, List.getElem?_cons_succ, adr_sl, and_self, and_true, Nat.mul_one, onS_ite, gq', rd_ints, ul, min_i, Option.map_some, bs3_1, alK_some, ints_one, List.append_assoc, List.cons_append, List.nil_append, gq2, List.length_append, List.length_cons, List.length_nil, src_sl, hap_k, at_ints, Nat.le_refl, List.drop_zero, List.take_succ_cons, List.take_zero, if_true, ap_ints, hk2, hk1, Nat.reduceAdd, ut, true_and, ↓w_skip, m1, if_false, onB_false]
            refine ⟨i + 1, by omega, _, _, G.length + 2, rfl, ((eG.add _).kill hq).add _, ?_, ?_, by omega, ao', ?_, ?_, ?_, ?_, ?_⟩
            · have := eG.1; omega
            · rw [us]
              exact at_kill G _ q _
            all_goals (simp -implicitDefEqProofs only [ne_eq, Nat.reduceEqDiff, not_false_eq_true, upd_ne, a2, upd_eq, a4, a5] <;> rfl)
          have hA0 : 0 ≤ p.int 2 := by omega
          have hA1 : p.int 2 < (i : Int) := by omega
          have hA2 : (p.int 2).toNat < i := by omega
          have pa := pos (p.int 2).toNat hA2
          rw [← pre _ hA2] at pa
          have e3 : IntKind.i64.wrap (1 + u.getD (p.int 2).toNat 0) = 1 + u.getD (p.int 2).toNat 0 := w64 (by omega) (by omega)
          by_cases h2 : hasB (p.int 0)
          · have hB0 : 0 ≤ p.int 3 := by unfold hasB at h2; omega
            have hB1 : p.int 3 < (i : Int) := by unfold hasB at h2; omega
            have hB2 : (p.int 3).toNat < i := by omega
            have pb := pos (p.int 3).toNat hB2
            rw [← pre _ hB2] at pb
            have e4 : IntKind.i64.wrap (1 + u.getD (p.int 2).toNat 0 + u.getD (p.int 3).toNat 0) = 1 + u.getD (p.int 2).toNat 0 + u.getD (p.int 3).toNat 0 := w64 (by omega) (by omega)
            have mm : (if (100000 : Int) < 1 + u.getD (p.int 2).toNat 0 + u.getD (p.int 3).toNat 0 then 100000 else 1 + u.getD (p.int 2).toNat 0 + u.getD (p.int 3).toNat 0) = szStep u p := by
              rw [szStep, if_neg h1, if_pos h2]
              split <;> omega
            have hb := hasBI (p.int 0)
            rw [decide_eq_true h2] at hb
            simp -implicitDefEqProofs only [↓w_seq, ↓w_region, ↓ops_cons, ↓g_binOp, Nat.reduceLT, ev_tab, a6, a5, b_lss, k1, decide_true, ↓ops_nil, ↓w_cond, upd_eq, ↓w_skip, ↓w_block, ↓g_move, ↓g_indexAddr, Tryd.underlying41, ne_eq, Nat.reduceEqDiff, not_false_eq_true, upd_ne, a4, adr_sl, k2, cells123, tyOk123, and_self, Int.toNat_natCast, Nat.zero_add, if_true, ↓g_load, ↓g_alloc, zero123, Option.map_some, ↓g_assign, ↓g_store, alK_some, List.all_cons, one_int, List.all_nil, Bool.and_self, wr_def, hap_0, List.getElem?_cons_zero, wr_c, List.length_cons, List.length_nil, Nat.reduceAdd, Nat.le_refl, true_and, hset_0, List.set_cons_zero, rd_def, agg123, onS_ite, onS_some, hr, rr, cells_agg, ovC, ovN, rd_aggc, List.drop_zero, List.take_succ_cons, List.take_zero, ↓w_exit, Tryd.underlying65, a3, a2, cells3, tyOk3, and_true, Nat.mul_one, ↓w_ret, retP_1, res_tmp, agg3, onB_true]
            refine call1 (by simp -implicitDefEqProofs only [List.map_cons, Nat.reduceLT, ev_tab, ne_eq, Nat.reduceEqDiff, not_false_eq_true, upd_ne, upd_eq, List.map_nil] <;> rfl) cn ?_
            simp -implicitDefEqProofs only [↓ops_cons, ↓g_unOp, Nat.reduceLT, ev_tab, upd_eq, u_not, Bool.not_true, Option.map_some, ↓ops_nil, ↓w_cond, ↓w_seq, ↓w_region, ↓g_assign, ↓w_ret, ev_const, of_int, retP_1, res_tmp, onS_some, ↓w_skip, ↓g_fieldAddrT, ne_eq, Nat.reduceEqDiff, not_false_eq_true, upd_ne, fadr123_0, Nat.zero_add, ↓g_load, ↓g_binOp, ↓g_move, a3, fadr123_2, ↓g_indexAddr, Tryd.underlying65, rd_def, tyOk3, agg3, cells3, hap_0, List.getElem?_cons_zero, rd_onec, List.getElem?_cons_succ, adr_sl, hA0, hA1, and_self, Nat.mul_one, if_true, gq', rd_ints, ul, hA2, b_add, e3, b_neq, h1, decide_false, Bool.not_false, onB_true, onB_false]
            refine call1 (by simp -implicitDefEqProofs only [List.map_cons, Nat.reduceLT, ev_tab, upd_eq, List.map_nil] <;> rfl) hb ?_
            simp -implicitDefEqProofs only [↓ops_nil, ↓w_cond, Nat.reduceLT, ev_tab, upd_eq, ↓w_region, ↓ops_cons, ↓g_move, ↓g_fieldAddrT, ne_eq, Nat.reduceEqDiff, not_false_eq_true, upd_ne, a3, fadr123_3, Nat.zero_add, ↓g_load, ↓g_indexAddr, Tryd.underlying65, ↓g_binOp, ↓g_assign, ↓g_min, List.map_cons, ev_const, of_int, List.map_nil, ↓g_buildSlice, ↓g_append, apS65, a6, b_add, e2, onS_some, rd_def, tyOk3, agg3, cells3, hap_0, List.getElem?_cons_zero, rd_onec, List.getElem?_cons_succ, adr_sl, hB0, hB1, and_self, Nat.mul_one, if_true, gq', rd_ints, ul, hB2, e4, min_i, mm, Option.map_some, bs3_1, alK_some, ints_one, List.append_assoc, List.cons_append, List.nil_append, gq2, List.length_append, List.length_cons, List.length_nil, src_sl, hap_k, at_ints, Nat.le_refl, List.drop_zero, List.take_succ_cons, List.take_zero, ap_ints, hk2, hk1, Nat.reduceAdd, ut, true_and, ↓w_skip, onB_true]
            refine ⟨i + 1, by omega, _, _, G.length + 2, rfl, ((eG.add _).kill hq).add _, ?_, ?_, by omega, ao', ?_, ?_, ?_, ?_, ?_⟩
            · have := eG.1; omega
            · rw [us]
              exact at_kill G _ q _
            all_goals (simp -implicitDefEqProofs only [ne_eq, Nat.reduceEqDiff, not_false_eq_true, upd_ne, a2, upd_eq, a4, a5] <;> rfl)
          · have mm : (if (100000 : Int) < 1 + u.getD (p.int 2).toNat 0 then 100000 else 1 + u.getD (p.int 2).toNat 0) = szStep u p := by
              rw [szStep, if_neg h1, if_neg h2]
              split <;> omega
            have hb := hasBI (p.int 0)
            rw [decide_eq_false h2] at hb
            simp -implicitDefEqProofs only [↓w_seq, ↓w_region, ↓ops_cons, ↓g_binOp, Nat.reduceLT, ev_tab, a6, a5, b_lss, k1, decide_true, ↓ops_nil, ↓w_cond, upd_eq, ↓w_skip, ↓w_block, ↓g_move, ↓g_indexAddr, Tryd.underlying41, ne_eq, Nat.reduceEqDiff, not_false_eq_true, upd_ne, a4, adr_sl, k2, cells123, tyOk123, and_self, Int.toNat_natCast, Nat.zero_add, if_true, ↓g_load, ↓g_alloc, zero123, Option.map_some, ↓g_assign, ↓g_store, alK_some, List.all_cons, one_int, List.all_nil, Bool.and_self, wr_def, hap_0, List.getElem?_cons_zero, wr_c, List.length_cons, List.length_nil, Nat.reduceAdd, Nat.le_refl, true_and, hset_0, List.set_cons_zero, rd_def, agg123, onS_ite, onS_some, hr, rr, cells_agg, ovC, ovN, rd_aggc, List.drop_zero, List.take_succ_cons, List.take_zero, ↓w_exit, Tryd.underlying65, a3, a2, cells3, tyOk3, and_true, Nat.mul_one, ↓w_ret, retP_1, res_tmp, agg3, onB_true]
            refine call1 (by simp -implicitDefEqProofs only [List.map_cons, Nat.reduceLT, ev_tab, ne_eq, Nat.reduceEqDiff, not_false_eq_true, upd_ne, upd_eq, List.map_nil] <;> rfl) cn ?_
            simp -implicitDefEqProofs only [↓ops_cons, ↓g_unOp, Nat.reduceLT, ev_tab, upd_eq, u_not, Bool.not_true, Option.map_some, ↓ops_nil, ↓w_cond, ↓w_seq, ↓w_region, ↓g_assign, ↓w_ret, ev_const, of_int, retP_1, res_tmp, onS_some, ↓w_skip, ↓g_fieldAddrT, ne_eq, Nat.reduceEqDiff, not_false_eq_true, upd_ne, fadr123_0, Nat.zero_add, ↓g_load, ↓g_binOp, ↓g_move, a3, fadr123_2, ↓g_indexAddr, Tryd.underlying65, rd_def, tyOk3, agg3, cells3, hap_0, List.getElem?_cons_zero, rd_onec, List.getElem?_cons_succ, adr_sl, hA0, hA1, and_self, Nat.mul_one, if_true, gq', rd_ints, ul, hA2, b_add, e3, b_neq, h1, decide_false, Bool.not_false, onB_true, onB_false]
            refine call1 (by simp -implicitDefEqProofs only [List.map_cons, Nat.reduceLT, ev_tab, upd_eq, List.map_nil] <;> rfl) hb ?_
            simp -implicitDefEqProofs only [↓ops_nil, ↓w_cond, Nat.reduceLT, ev_tab, upd_eq, ↓w_region, ↓ops_cons, ↓g_move, ↓g_fieldAddrT, ne_eq, Nat.reduceEqDiff, not_false_eq_true, upd_ne, a3, fadr123_3, Nat.zero_add, ↓g_load, ↓g_indexAddr, Tryd.underlying65, ↓g_binOp, ↓g_assign, ↓g_min, List.map_cons, ev_const, of_int, List.map_nil, ↓g_buildSlice, ↓g_append, apS65, a6, b_add, e2, onS_some, rd_def, tyOk3, agg3, cells3, hap_0, List.getElem?_cons_zero, rd_onec, List.getElem?_cons_succ, adr_sl, and_self, and_true, Nat.mul_one, onS_ite, gq', rd_ints, ul, min_i, Option.map_some, bs3_1, alK_some, ints_one, List.append_assoc, List.cons_append, List.nil_append, gq2, List.length_append, List.length_cons, List.length_nil, src_sl, hap_k, at_ints, Nat.le_refl, List.drop_zero, List.take_succ_cons, List.take_zero, if_true, ap_ints, hk2, hk1, Nat.reduceAdd, ut, true_and, ↓w_skip, mm, onB_false]
            refine ⟨i + 1, by omega, _, _, G.length + 2, rfl, ((eG.add _).kill hq).add _, ?_, ?_, by omega, ao', ?_, ?_, ?_, ?_, ?_⟩
            · have := eG.1; omega
            · rw [us]
              exact at_kill G _ q _
            all_goals (simp -implicitDefEqProofs only [ne_eq, Nat.reduceEqDiff, not_false_eq_true, upd_ne, a2, upd_eq, a4, a5] <;> rfl)
        · rw [decide_eq_false (show ¬ okN (p.int 0) (p.int 1) (p.int 2) (p.int 3) i from ok)] at cn
          have no := allTo_n h hp ok
          have hv0 : v = 0 := by
            rcases hv with hv | hv
            · exact absurd hv.1 no
            · exact hv.2
          subst hv0
          simp -implicitDefEqProofs only [↓w_seq, ↓w_region, ↓ops_cons, ↓g_binOp, Nat.reduceLT, ev_tab, a6, a5, b_lss, k1, decide_true, ↓ops_nil, ↓w_cond, upd_eq, ↓w_skip, ↓w_block, ↓g_move, ↓g_indexAddr, Tryd.underlying41, ne_eq, Nat.reduceEqDiff, not_false_eq_true, upd_ne, a4, adr_sl, k2, cells123, tyOk123, and_self, Int.toNat_natCast, Nat.zero_add, if_true, ↓g_load, ↓g_alloc, zero123, Option.map_some, ↓g_assign, ↓g_store, alK_some, List.all_cons, one_int, List.all_nil, Bool.and_self, wr_def, hap_0, List.getElem?_cons_zero, wr_c, List.length_cons, List.length_nil, Nat.reduceAdd, Nat.le_refl, true_and, hset_0, List.set_cons_zero, rd_def, agg123, onS_ite, onS_some, hr, rr, cells_agg, ovC, ovN, rd_aggc, List.drop_zero, List.take_succ_cons, List.take_zero, ↓w_exit, Tryd.underlying65, a3, a2, cells3, tyOk3, and_true, Nat.mul_one, ↓w_ret, retP_1, res_tmp, agg3, onB_true]
          refine call1 (by simp -implicitDefEqProofs only [List.map_cons, Nat.reduceLT, ev_tab, ne_eq, Nat.reduceEqDiff, not_false_eq_true, upd_ne, upd_eq, List.map_nil] <;> rfl) cn ?_
          simp -implicitDefEqProofs only [↓ops_cons, ↓g_unOp, Nat.reduceLT, ev_tab, upd_eq, u_not, Bool.not_false, Option.map_some, ↓ops_nil, ↓w_cond, ↓w_seq, ↓w_region, ↓g_assign, ↓w_ret, ev_const, of_int, retP_1, res_tmp, onS_some, true_and, ↓w_skip, ↓g_fieldAddrT, ne_eq, Nat.reduceEqDiff, not_false_eq_true, upd_ne, fadr123_0, Nat.zero_add, ↓g_load, ↓g_binOp, ↓g_move, fadr123_2, ↓g_indexAddr, Tryd.underlying65, rd_def, tyOk3, agg3, cells3, at_end, rd_onec, List.getElem?_cons_zero, List.getElem?_cons_succ, b_neq, onB_not, onB_dec, onB_true]
          exact (E1.trans eG).add _
      · have hi : i = n + 1 := by omega
        subst hi
        have k1 : ¬ (((n + 1 : Nat) : Int) < ((n + 1 : Nat) : Int)) := by omega
        have k2 : (0 : Int) ≤ n := by omega
        have k3 : (n : Int) < ((n + 1 : Nat) : Int) := by omega
        have k4 : n < n + 1 := by omega
        have pv := fl_pre szStep l (n + 1) n 0 (by omega) (by omega)
        rw [← szs_fl, ← szs_fl] at pv
        have hv0 : v = (szs l).getD n 0 := by
          rcases hv with hv | hv
          · exact hv.2
          · exact absurd ao hv.1
        rw [hv0, ← pv]
        simp -implicitDefEqProofs only [↓w_seq, ↓w_region, ↓ops_cons, ↓g_binOp, Nat.reduceLT, ev_tab, a6, a5, b_lss, k1, decide_false, ↓ops_nil, ↓w_cond, upd_eq, ↓w_skip, ↓w_block, ↓g_move, ↓g_indexAddr, Tryd.underlying41, ne_eq, Nat.reduceEqDiff, not_false_eq_true, upd_ne, a4, adr_sl, cells123, tyOk123, and_self, and_true, and_false, Int.toNat_natCast, Nat.zero_add, if_false, ↓g_load, ↓g_alloc, zero123, Option.map_some, ↓g_assign, ↓g_store, alK_some, List.all_cons, one_int, List.all_nil, Bool.and_self, wr_def, at_end, wr_c, List.length_cons, List.length_nil, Nat.reduceAdd, Nat.le_refl, true_and, rd_def, agg123, onS_ite, ↓w_exit, Tryd.underlying65, a3, a2, k2, k3, cells3, tyOk3, Nat.mul_one, if_true, ↓w_ret, retP_1, res_tmp, onS_some, agg3, gq, rd_ints, ul, k4, onB_false]
        exact E1.trans eG
    · refine ⟨_, _, _, rfl, Ext.more _ _, Nat.le_refl _, hap_0 _ _, by omega, fun i p h => absurd h (by omega), ?_, ?_, ?_, ?_, ?_⟩ <;> simp -implicitDefEqProofs only [ne_eq, Nat.reduceEqDiff, not_false_eq_true, upd_ne, par1, upd_eq, Int.cast_ofNat_Int] <;> rfl
end Go.Proofs.YtfgmmklljibbiaaDoor.Sim

