/- What is shown of a term: the reference. -/
import Derived.Test.YtfgmmklljibbiaaDoorFSizeI
namespace Go.Proofs.YtfgmmklljibbiaaDoor.Sim
open Go
set_option maxRecDepth 100000
set_option maxHeartbeats 40000000
set_option linter.unusedSimpArgs false
set_option linter.unusedVariables false
theorem letS (k : Int) (h : 2 ≤ k ∧ k ≤ 9) : ([ByteArray.empty, ByteArray.empty, (⟨#[112]⟩ : ByteArray), (⟨#[104]⟩ : ByteArray), (⟨#[107]⟩ : ByteArray), (⟨#[115]⟩ : ByteArray), (⟨#[117]⟩ : ByteArray), (⟨#[100]⟩ : ByteArray), (⟨#[103]⟩ : ByteArray), (⟨#[109]⟩ : ByteArray)] : List ByteArray).getD k.toNat ByteArray.empty = letT k := by
  have : ∀ j < 10, 2 ≤ j → ([ByteArray.empty, ByteArray.empty, (⟨#[112]⟩ : ByteArray), (⟨#[104]⟩ : ByteArray), (⟨#[107]⟩ : ByteArray), (⟨#[115]⟩ : ByteArray), (⟨#[117]⟩ : ByteArray), (⟨#[100]⟩ : ByteArray), (⟨#[103]⟩ : ByteArray), (⟨#[109]⟩ : ByteArray)] : List ByteArray).getD j ByteArray.empty = [ByteArray.empty, (⟨#[97]⟩ : ByteArray), (⟨#[112]⟩ : ByteArray), (⟨#[104]⟩ : ByteArray), (⟨#[107]⟩ : ByteArray), (⟨#[115]⟩ : ByteArray), (⟨#[117]⟩ : ByteArray), (⟨#[100]⟩ : ByteArray), (⟨#[103]⟩ : ByteArray), (⟨#[109]⟩ : ByteArray)].getD j ByteArray.empty := by decide
  exact this k.toNat (by omega) (by omega)
theorem emp_is : (⟨#[]⟩ : ByteArray) = ByteArray.empty := rfl
theorem termS {x : AV} {l : List (Rw kNode)} (hl : l.length ≤ 1048576) (m : Nat) (hm : m ≤ l.length) (al : allTo l m) : ∀ n, n < m → (szs l).getD n 0 ≤ 2000 → ∀ {H : AHeap}, IsR H x l →
    ∃ Z, Sound Tryd.prog 32 [.agg [x], .sc (.int .i64 n)] H (.sc (.string ((txs l).getD n ByteArray.empty))) Z ∧ Ext H Z := by
  intro n
  induction n using Nat.strongRecOn with
  | _ n ih =>
  intro hn hs H hx
  suffices h : ∃ w Z, Sound Tryd.prog 32 [.agg [x], .sc (.int .i64 n)] H w Z ∧ w = .sc (.string ((txs l).getD n ByteArray.empty)) ∧ Ext H Z by
    obtain ⟨w, Z, h1, rfl, h2⟩ := h
    exact ⟨Z, h1, h2⟩
  refine Sound.runP (args := [.agg [x], .sc (.int .i64 n)]) 45 [.tmp 4] Tryd.func32 rfl rfl rfl rfl (by simp) (fun w Z => w = .sc (.string ((txs l).getD n ByteArray.empty)) ∧ Ext H Z) ?_
  have o := hx.one
  have hp : l[n]? = some l[n] := List.getElem?_eq_getElem (by omega)
  generalize l[n] = p at hp
  have ok := al n p hn hp
  have et := txs_at l n p hp ok
  have kl : kNode.length = 4 := rfl
  have rr := fun (o : Bool) => rd_row encNode hp o
  rw [csNode p] at rr
  obtain ⟨A, hA⟩ : ∃ A : Reg, A = ⟨[x], true, true⟩ := ⟨_, rfl⟩
  obtain ⟨B, hB⟩ : ∃ B : Reg, B = ⟨[.sc (.int .i64 (p.int 0)), .sc (.int .i64 (p.int 1)), .sc (.int .i64 (p.int 2)), .sc (.int .i64 (p.int 3))], true, true⟩ := ⟨_, rfl⟩
  have e0 := Ext.more H [A]
  have b0 : (H ++ [A])[H.length]? = some ⟨[x], true, true⟩ := by rw [← hA]; exact hap_0 H [A]
  have e1 := Ext.more H [A, B]
  have b1 : (H ++ [A, B])[H.length]? = some ⟨[x], true, true⟩ := by rw [← hA]; exact hap_0 H [A, B]
  have b2 : (H ++ [A, B])[H.length + 1]? = some ⟨[.sc (.int .i64 (p.int 0)), .sc (.int .i64 (p.int 1)), .sc (.int .i64 (p.int 2)), .sc (.int .i64 (p.int 3))], true, true⟩ := by rw [← hB]; exact hap_k H [A, B] 1
  obtain ⟨r, ow, hxe, hr⟩ := (e0.isR hx).get (i := n) (by omega)
  have hxe : x = .sl r 0 l.length 4 := hxe
  subst hxe
  have k2 : (0 : Int) ≤ n := by omega
  have k3 : (n : Int) < l.length := by omega
  have k4 : n < l.length := by omega
  have hr' := fun g => at_more (H ++ [A]) [g] r (at_lt hr)
  rw [hr] at hr'
  have hq : (H ++ [A])[r]? = some ⟨rows Rw.cs l, ow, true⟩ := hr
  have ok' := ok
  unfold okR okN at ok'
  by_cases h1 : p.int 0 = 1
  · rw [if_pos h1] at et
    rw [et]
    have cd := decS (p.int 1).toNat (by omega)
    rw [show (((p.int 1).toNat : Nat) : Int) = p.int 1 by omega] at cd
    have sd := decT_size (p.int 1).toNat (by omega)
    simp -implicitDefEqProofs only [↓w_seq, ↓w_region, ↓ops_cons, ↓g_box, Nat.reduceLT, ev_tab, par0, cells_agg, ↓g_assign, ↓ops_nil, ev_const, of_str, ↓g_fieldAddrT, ne_eq, Nat.reduceEqDiff, not_false_eq_true, upd_ne, upd_eq, ↓g_load, ↓g_move, ↓g_indexAddr, Tryd.underlying41, par1, ↓g_alloc, zero123, Option.map_some, ↓g_store, ↓g_binOp, of_int, ↓w_cond, ↓w_skip, ↓g_buildSlice, Tryd.underlying80, List.map_cons, List.map_nil, bs9_10, alK_some, strs_one, true_and, List.all_cons, one_int, List.all_nil, Bool.and_self, wr_def, tyOk123, cells123, at_end, wr_c, Nat.zero_add, List.length_cons, List.length_nil, Nat.reduceAdd, Nat.le_refl, fadr123_0, fadr123_1, onS_some, rd_def, tyOk3, agg3, cells3, onS_ite, List.length_set, List.length_append, one_sl, fadr43_0, tyOk41, agg41, cells41, rd_onec, List.getElem?_cons_zero, adr_sl, and_self, and_true, agg123]
    rw [← hA]
    simp -implicitDefEqProofs only [k2, k3, and_self, hq, Int.toNat_natCast, rr, h1, List.append_assoc, List.cons_append, List.nil_append, hset_k, List.set_cons_succ, List.set_cons_zero, hap_k, List.getElem?_cons_succ, List.getElem?_cons_zero, Nat.add_assoc, Nat.reduceAdd, onS_some, cells_agg, List.length_cons, List.length_nil, Nat.zero_add, List.all_cons, one_int, List.all_nil, Bool.and_self, ovC, ovN, rd_onec, b_eql, decide_true, onB_true, true_and]
    refine call1 (by simp -implicitDefEqProofs only [List.map_cons, Nat.reduceLT, ev_tab, upd_eq, List.map_nil] <;> rfl) cd ?_
    simp -implicitDefEqProofs only [↓ops_cons, ↓g_binOp, ev_const, of_str, Nat.reduceLT, ev_tab, upd_eq, t_add, ↓g_assign, ↓ops_nil, ↓w_ret, retP_1, res_tmp, onS_some, onS_ite, true_and]
    refine ⟨by ((try simp only [ByteArray.size_append, zt1, zt2, zt3, zt4]); omega), ?_⟩
    exact Ext.more _ _
  · rw [if_neg h1] at et
    have sm := small_a l n p hp m hm hn al hs h1
    have P2 := szs_pos l m hm al (p.int 2).toNat (by omega)
    have hA2 : (p.int 2).toNat < n := by omega
    have cA := fun (G : AHeap) (g : IsR G (.sl r 0 l.length 4) l) (hs' : (szs l).getD (p.int 2).toNat 0 ≤ 2000) => ih (p.int 2).toNat hA2 (by omega) hs' g
    rw [show (((p.int 2).toNat : Nat) : Int) = p.int 2 by omega] at cA
    obtain ⟨C, hC⟩ : ∃ C : Reg, C = ⟨strs [ByteArray.empty, ByteArray.empty, (⟨#[112]⟩ : ByteArray), (⟨#[104]⟩ : ByteArray), (⟨#[107]⟩ : ByteArray), (⟨#[115]⟩ : ByteArray), (⟨#[117]⟩ : ByteArray), (⟨#[100]⟩ : ByteArray), (⟨#[103]⟩ : ByteArray), (⟨#[109]⟩ : ByteArray)], true, true⟩ := ⟨_, rfl⟩
    have e2 := Ext.more H [A, B, C]
    have f1 : (H ++ [A, B, C])[H.length]? = some ⟨[.sl r 0 l.length 4], true, true⟩ := by rw [← hA]; exact hap_0 H [A, B, C]
    have f2 : (H ++ [A, B, C])[H.length + 1]? = some ⟨[.sc (.int .i64 (p.int 0)), .sc (.int .i64 (p.int 1)), .sc (.int .i64 (p.int 2)), .sc (.int .i64 (p.int 3))], true, true⟩ := by rw [← hB]; exact hap_k H [A, B, C] 1
    have f3 : (H ++ [A, B, C])[H.length + 2]? = some ⟨strs [ByteArray.empty, ByteArray.empty, (⟨#[112]⟩ : ByteArray), (⟨#[104]⟩ : ByteArray), (⟨#[107]⟩ : ByteArray), (⟨#[115]⟩ : ByteArray), (⟨#[117]⟩ : ByteArray), (⟨#[100]⟩ : ByteArray), (⟨#[103]⟩ : ByteArray), (⟨#[109]⟩ : ByteArray)], true, true⟩ := by rw [← hC]; exact hap_k H [A, B, C] 2
    have nm := letS (p.int 0) (by omega)
    have j0 : 0 ≤ p.int 0 := by omega
    have j1 : p.int 0 < 10 := by omega
    have j2 : (p.int 0).toNat < 10 := by omega
    have co := oneS (p.int 0)
    have L := letT_size (p.int 0) (by omega)
    have hsA : (szs l).getD (p.int 2).toNat 0 ≤ 2000 := by split at sm <;> (try unfold hasB at *) <;> first | omega | (have := szs_pos l m hm al (p.int 3).toNat (by omega); omega)
    have tA := txs_size l m hm al (p.int 2).toNat (by omega) hsA
    obtain ⟨Z, z1, z2⟩ := cA (H ++ [A, B, C]) (e2.isR hx) hsA
    have g1 := z2.at f1
    have g2 := z2.at f2
    have g3 := z2.at f3
    have E := e2.trans z2
    generalize hta : (txs l).getD (p.int 2).toNat ByteArray.empty = ta at *
    by_cases h2 : hasB (p.int 0)
    · rw [if_pos h2] at sm et
      have h2' := h2
      unfold hasB at h2'
      have P3 := szs_pos l m hm al (p.int 3).toNat (by omega)
      have hB2 : (p.int 3).toNat < n := by omega
      have hsB : (szs l).getD (p.int 3).toNat 0 ≤ 2000 := by omega
      have tB := txs_size l m hm al (p.int 3).toNat (by omega) hsB
      obtain ⟨Y, y1, y2⟩ := ih (p.int 3).toNat hB2 (by omega) hsB (E.isR hx)
      rw [show (((p.int 3).toNat : Nat) : Int) = p.int 3 by omega] at y1
      generalize htb : (txs l).getD (p.int 3).toNat ByteArray.empty = tb at *
      rw [decide_eq_false (show ¬ (p.int 0 = 3 ∨ p.int 0 = 6) by omega)] at co
      have fin : letT (p.int 0) ++ (⟨#[40]⟩ : ByteArray) ++ ta ++ (⟨#[44]⟩ : ByteArray) ++ tb ++ (⟨#[41]⟩ : ByteArray) = (txs l).getD n ByteArray.empty := by
        rw [et]
        simp only [ByteArray.append_assoc]
      simp -implicitDefEqProofs only [↓w_seq, ↓w_region, ↓ops_cons, ↓g_box, Nat.reduceLT, ev_tab, par0, cells_agg, ↓g_assign, ↓ops_nil, ev_const, of_str, ↓g_fieldAddrT, ne_eq, Nat.reduceEqDiff, not_false_eq_true, upd_ne, upd_eq, ↓g_load, ↓g_move, ↓g_indexAddr, Tryd.underlying41, par1, ↓g_alloc, zero123, Option.map_some, ↓g_store, ↓g_binOp, of_int, ↓w_cond, ↓w_skip, ↓g_buildSlice, Tryd.underlying80, List.map_cons, List.map_nil, bs9_10, alK_some, strs_one, true_and, List.all_cons, one_int, List.all_nil, Bool.and_self, wr_def, tyOk123, cells123, at_end, wr_c, Nat.zero_add, List.length_cons, List.length_nil, Nat.reduceAdd, Nat.le_refl, fadr123_0, fadr123_1, onS_some, rd_def, tyOk3, agg3, cells3, onS_ite, List.length_set, List.length_append, one_sl, fadr43_0, tyOk41, agg41, cells41, rd_onec, List.getElem?_cons_zero, adr_sl, and_self, and_true, agg123]
      rw [← hA]
      simp -implicitDefEqProofs only [k2, k3, and_self, hq, Int.toNat_natCast, rr, List.append_assoc, List.cons_append, List.nil_append, hset_k, List.set_cons_succ, List.set_cons_zero, hap_k, List.getElem?_cons_succ, List.getElem?_cons_zero, emp_is, Nat.add_assoc, Nat.reduceAdd, onS_some, cells_agg, List.length_cons, List.length_nil, Nat.zero_add, List.all_cons, one_int, List.all_nil, Bool.and_self, ovC, ovN, rd_onec, b_eql, h1, decide_false, onB_false, true_and]
      try rw [← hB]
      try rw [← hC]
      refine drawn [(2, 0), (2, 10), (4, 0), (4, 10), (6, 0), (8, 0)] follows (by kernel_rfl) (by kernel_rfl) ?_
      simp -implicitDefEqProofs only [↓dops_cons, ↓g_move, ↓g_fieldAddrT, Nat.reduceLT, ev_tab, upd_eq, ne_eq, Nat.reduceEqDiff, not_false_eq_true, upd_ne, fadr123_0, Nat.zero_add, ↓g_load, ↓g_indexAddr, Tryd.underlying80, ↓g_binOp, ev_const, of_str, rd_def, tyOk43, agg43, cells43, f1, rd_aggc, List.length_cons, List.length_nil, Nat.le_refl, List.drop_zero, List.take_succ_cons, List.take_zero, if_true, fadr123_2, onS_some, tyOk3, agg3, cells3, f2, rd_onec, List.getElem?_cons_succ, List.getElem?_cons_zero, adr_sl, j0, Int.cast_ofNat_Int, j1, cells9, tyOk9, and_self, Nat.mul_one, agg9, f3, rd_strs, Nat.reduceAdd, j2, nm, t_add, onS_ite]
      refine ⟨by ((try simp only [ByteArray.size_append, zt1, zt2, zt3, zt4]); omega), ?_⟩
      try simp -implicitDefEqProofs only []
      refine call1S (by simp -implicitDefEqProofs only [List.map_cons, Nat.reduceLT, ev_tab, ne_eq, Nat.reduceEqDiff, not_false_eq_true, upd_ne, upd_eq, List.map_nil] <;> rfl) z1 ?_
      try simp -implicitDefEqProofs only [↓dops_cons, ↓g_binOp, Nat.reduceLT, ev_tab, ne_eq, Nat.reduceEqDiff, not_false_eq_true, upd_ne, upd_eq, t_add, ↓g_assign, ↓dops_p, ↓w_seq, ↓w_region, ↓ops_cons, ↓g_fieldAddrT, fadr123_0, Nat.zero_add, ↓g_load, onS_some, rd_def, tyOk3, agg3, cells3, g2, rd_onec, List.getElem?_cons_zero, onS_ite]
      refine ⟨by ((try simp only [ByteArray.size_append, zt1, zt2, zt3, zt4]); omega), ?_⟩
      try simp -implicitDefEqProofs only []
      refine ⟨pairs_cons (same_calm (by kernel_rfl)) (pairs_cons (same_ld _ _ (H.length + 1) 0 rfl rfl (g2.trans f2.symm)) (pairs_cons (same_calm (by kernel_rfl)) (pairs_cons (same_ld _ _ (H.length + 2) _ rfl rfl (g3.trans f3.symm)) (pairs_cons (same_calm (by kernel_rfl)) (pairs_cons (same_calm (by kernel_rfl)) pairs_nil))))), ?_⟩
      try simp -implicitDefEqProofs only []
      refine call1 (by simp -implicitDefEqProofs only [List.map_cons, Nat.reduceLT, ev_tab, upd_eq, List.map_nil] <;> rfl) co ?_
      simp -implicitDefEqProofs only [↓ops_cons, ↓g_unOp, Nat.reduceLT, ev_tab, upd_eq, u_not, Bool.not_false, Option.map_some, ↓ops_nil, ↓w_cond, ↓w_region, ↓g_move, ↓g_binOp, ne_eq, Nat.reduceEqDiff, not_false_eq_true, upd_ne, ev_const, of_str, t_add, ↓g_load, rd_def, tyOk43, agg43, cells43, g1, rd_aggc, Nat.zero_add, List.length_cons, List.length_nil, Nat.le_refl, List.drop_zero, List.take_succ_cons, List.take_zero, if_true, ↓g_fieldAddrT, fadr123_3, onS_some, tyOk3, agg3, cells3, g2, rd_onec, List.getElem?_cons_succ, List.getElem?_cons_zero, onS_ite, ↓w_skip, ↓w_seq, ↓g_assign, ↓w_ret, retP_1, res_tmp, onB_true]
      refine ⟨by ((try simp only [ByteArray.size_append, zt1, zt2, zt3, zt4]); omega), ?_⟩
      try simp -implicitDefEqProofs only []
      refine call1S (by simp -implicitDefEqProofs only [List.map_cons, Nat.reduceLT, ev_tab, ne_eq, Nat.reduceEqDiff, not_false_eq_true, upd_ne, upd_eq, List.map_nil] <;> rfl) y1 ?_
      try simp -implicitDefEqProofs only [↓ops_cons, ↓g_binOp, Nat.reduceLT, ev_tab, ne_eq, Nat.reduceEqDiff, not_false_eq_true, upd_ne, upd_eq, t_add, ↓g_assign, ↓ops_nil, ↓w_seq, ↓w_region, ↓g_move, ev_const, of_str, ↓w_ret, retP_1, res_tmp, onS_some, onS_ite]
      refine ⟨by ((try simp only [ByteArray.size_append, zt1, zt2, zt3, zt4]); omega), by ((try simp only [ByteArray.size_append, zt1, zt2, zt3, zt4]); omega), ?_⟩
      try simp -implicitDefEqProofs only []
      exact ⟨congrArg (fun z => AV.sc (Value.string z)) fin, E.trans y2⟩
    · rw [if_neg h2] at sm et
      have h2' := h2
      unfold hasB at h2'
      rw [decide_eq_true (show (p.int 0 = 3 ∨ p.int 0 = 6) by omega)] at co
      have fin : letT (p.int 0) ++ (⟨#[40]⟩ : ByteArray) ++ ta ++ (⟨#[41]⟩ : ByteArray) = (txs l).getD n ByteArray.empty := by
        rw [et]
        simp only [ByteArray.append_assoc, ByteArray.append_empty, ByteArray.empty_append]
      simp -implicitDefEqProofs only [↓w_seq, ↓w_region, ↓ops_cons, ↓g_box, Nat.reduceLT, ev_tab, par0, cells_agg, ↓g_assign, ↓ops_nil, ev_const, of_str, ↓g_fieldAddrT, ne_eq, Nat.reduceEqDiff, not_false_eq_true, upd_ne, upd_eq, ↓g_load, ↓g_move, ↓g_indexAddr, Tryd.underlying41, par1, ↓g_alloc, zero123, Option.map_some, ↓g_store, ↓g_binOp, of_int, ↓w_cond, ↓w_skip, ↓g_buildSlice, Tryd.underlying80, List.map_cons, List.map_nil, bs9_10, alK_some, strs_one, true_and, List.all_cons, one_int, List.all_nil, Bool.and_self, wr_def, tyOk123, cells123, at_end, wr_c, Nat.zero_add, List.length_cons, List.length_nil, Nat.reduceAdd, Nat.le_refl, fadr123_0, fadr123_1, onS_some, rd_def, tyOk3, agg3, cells3, onS_ite, List.length_set, List.length_append, one_sl, fadr43_0, tyOk41, agg41, cells41, rd_onec, List.getElem?_cons_zero, adr_sl, and_self, and_true, agg123]
      rw [← hA]
      simp -implicitDefEqProofs only [k2, k3, and_self, hq, Int.toNat_natCast, rr, List.append_assoc, List.cons_append, List.nil_append, hset_k, List.set_cons_succ, List.set_cons_zero, hap_k, List.getElem?_cons_succ, List.getElem?_cons_zero, emp_is, Nat.add_assoc, Nat.reduceAdd, onS_some, cells_agg, List.length_cons, List.length_nil, Nat.zero_add, List.all_cons, one_int, List.all_nil, Bool.and_self, ovC, ovN, rd_onec, b_eql, h1, decide_false, onB_false, true_and]
      try rw [← hB]
      try rw [← hC]
      refine drawn [(2, 0), (2, 10), (4, 0), (4, 10), (6, 0), (8, 0)] follows (by kernel_rfl) (by kernel_rfl) ?_
      simp -implicitDefEqProofs only [↓dops_cons, ↓g_move, ↓g_fieldAddrT, Nat.reduceLT, ev_tab, upd_eq, ne_eq, Nat.reduceEqDiff, not_false_eq_true, upd_ne, fadr123_0, Nat.zero_add, ↓g_load, ↓g_indexAddr, Tryd.underlying80, ↓g_binOp, ev_const, of_str, rd_def, tyOk43, agg43, cells43, f1, rd_aggc, List.length_cons, List.length_nil, Nat.le_refl, List.drop_zero, List.take_succ_cons, List.take_zero, if_true, fadr123_2, onS_some, tyOk3, agg3, cells3, f2, rd_onec, List.getElem?_cons_succ, List.getElem?_cons_zero, adr_sl, j0, Int.cast_ofNat_Int, j1, cells9, tyOk9, and_self, Nat.mul_one, agg9, f3, rd_strs, Nat.reduceAdd, j2, nm, t_add, onS_ite]
      refine ⟨by ((try simp only [ByteArray.size_append, zt1, zt2, zt3, zt4]); omega), ?_⟩
      try simp -implicitDefEqProofs only []
      refine call1S (by simp -implicitDefEqProofs only [List.map_cons, Nat.reduceLT, ev_tab, ne_eq, Nat.reduceEqDiff, not_false_eq_true, upd_ne, upd_eq, List.map_nil] <;> rfl) z1 ?_
      try simp -implicitDefEqProofs only [↓dops_cons, ↓g_binOp, Nat.reduceLT, ev_tab, ne_eq, Nat.reduceEqDiff, not_false_eq_true, upd_ne, upd_eq, t_add, ↓g_assign, ↓dops_p, ↓w_seq, ↓w_region, ↓ops_cons, ↓g_fieldAddrT, fadr123_0, Nat.zero_add, ↓g_load, onS_some, rd_def, tyOk3, agg3, cells3, g2, rd_onec, List.getElem?_cons_zero, onS_ite]
      refine ⟨by ((try simp only [ByteArray.size_append, zt1, zt2, zt3, zt4]); omega), ?_⟩
      refine ⟨pairs_cons (same_calm (by kernel_rfl)) (pairs_cons (same_ld _ _ (H.length + 1) 0 rfl rfl (g2.trans f2.symm)) (pairs_cons (same_calm (by kernel_rfl)) (pairs_cons (same_ld _ _ (H.length + 2) _ rfl rfl (g3.trans f3.symm)) (pairs_cons (same_calm (by kernel_rfl)) (pairs_cons (same_calm (by kernel_rfl)) pairs_nil))))), ?_⟩
      try simp -implicitDefEqProofs only []
      refine call1 (by simp -implicitDefEqProofs only [List.map_cons, Nat.reduceLT, ev_tab, upd_eq, List.map_nil] <;> rfl) co ?_
      simp -implicitDefEqProofs only [↓ops_cons, ↓g_unOp, Nat.reduceLT, ev_tab, upd_eq, u_not, Bool.not_true, Option.map_some, ↓ops_nil, ↓w_cond, ↓w_region, ↓g_move, ↓g_binOp, ne_eq, Nat.reduceEqDiff, not_false_eq_true, upd_ne, ev_const, of_str, t_add, ↓g_load, rd_def, tyOk43, agg43, cells43, g1, rd_aggc, Nat.zero_add, List.length_cons, List.length_nil, Nat.le_refl, List.drop_zero, List.take_succ_cons, List.take_zero, if_true, ↓g_fieldAddrT, fadr123_3, onS_some, tyOk3, agg3, cells3, g2, rd_onec, List.getElem?_cons_succ, List.getElem?_cons_zero, onS_ite, ↓w_skip, ↓w_seq, ↓g_assign, ↓w_ret, retP_1, res_tmp, onB_false]
      refine ⟨by ((try simp only [ByteArray.size_append, zt1, zt2, zt3, zt4]); omega), ?_⟩
      try simp -implicitDefEqProofs only []
      exact ⟨congrArg (fun z => AV.sc (Value.string z)) fin, E⟩
end Go.Proofs.YtfgmmklljibbiaaDoor.Sim

