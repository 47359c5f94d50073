/- What is shown of a gate: the program. -/
import Derived.Test.YtfgmmklljibbiaaDoorFShG
namespace Go.Proofs.YtfgmmklljibbiaaDoor.Sim
open Go
set_option maxRecDepth 100000
set_option maxHeartbeats 40000000
set_option linter.unusedSimpArgs false
set_option linter.unusedVariables false
theorem showGateI {H : AHeap} {x1 x2 x3 x4 : AV} {l1 : List (Rw kSess)} {l4 : List (Rw kOut)} (n nx dr : Int) (h1 : IsR H x1 l1) (o2 : x2.cells = [x2] ∧ x2.one = true) (o3 : x3.cells = [x3] ∧ x3.one = true) (h4 : IsR H x4 l4)
    (b1 : l1.length ≤ 1048576) (b4 : l4.length ≤ 1048576) (hd : dr ≤ 9223372036854775807) :
    ∃ (Z : AHeap), Sound Tryd.prog 18 [.agg [.sc (.int .i64 n), .sc (.int .i64 nx), x1, x2, x3, x4, .sc (.int .i64 dr)]] H (.sc (.string (outsT (gateH l1 dr) l4))) Z ∧ Ext H Z := by
  suffices h : ∃ v Z, Sound Tryd.prog 18 [.agg [.sc (.int .i64 n), .sc (.int .i64 nx), x1, x2, x3, x4, .sc (.int .i64 dr)]] H v Z ∧ v = .sc (.string (outsT (gateH l1 dr) l4)) ∧ Ext H Z by
    obtain ⟨v, Z, h1, rfl, h2⟩ := h
    exact ⟨Z, h1, h2⟩
  refine Sound.runP (args := [.agg [.sc (.int .i64 n), .sc (.int .i64 nx), x1, x2, x3, x4, .sc (.int .i64 dr)]]) 71 [.tmp 2] Tryd.func18 rfl rfl rfl rfl (by simp) (fun v Z => v = .sc (.string (outsT (gateH l1 dr) l4)) ∧ Ext H Z) ?_
  have o1 := h1.one
  have o4 := h4.one
  have l1' := fun e => h1.len e
  have l4' := fun e => h4.len e
  obtain ⟨A, hA⟩ : ∃ A : Reg, A = ⟨[.sc (.int .i64 n), .sc (.int .i64 nx), x1, x2, x3, x4, .sc (.int .i64 dr)], true, true⟩ := ⟨_, rfl⟩
  have e0 := Ext.more H [A]
  have b0 : (H ++ [A])[H.length]? = some ⟨[.sc (.int .i64 n), .sc (.int .i64 nx), x1, x2, x3, x4, .sc (.int .i64 dr)], true, true⟩ := by rw [← hA]; exact hap_0 H [A]
  have m1 := e0.isR h1
  have m4 := e0.isR h4
  have hop := openN_le l1
  simp -implicitDefEqProofs only [↓w_seq, ↓w_region, ↓ops_cons, ↓g_box, Nat.reduceLT, ev_tab, par0, cells_agg, ↓g_assign, ↓ops_nil, ev_const, of_str, of_int, ↓g_fieldAddrT, ne_eq, Nat.reduceEqDiff, not_false_eq_true, upd_ne, upd_eq, ↓g_load, ↓g_len, Tryd.underlying55, ↓g_move, ↓w_block, alK_some, List.all_cons, one_int, o1, o2, o3, o4, List.all_nil, Bool.and_self, fadr60_2, Nat.zero_add, onS_some, rd_def, tyOk55, agg55, cells55, at_end, rd_onec, List.getElem?_cons_succ, List.getElem?_cons_zero, l1', true_and]
  rw [← hA]
  refine w_loop (ι := Nat) (fun i s => ∃ (T : Nat → AV) (G : AHeap), s = ⟨tab 71 T, G⟩ ∧ Ext (H ++ [A]) G ∧ i ≤ l1.length ∧ T 1 = .ptr H.length 0 ∧ T 3 = .sc (.int .i64 (openN (l1.take i))) ∧ T 11 = x1 ∧ T 12 = .sc (.int .i64 l1.length) ∧ T 13 = .sc (.int .i64 i)) (fun i => l1.length - i) ?_ (i := 0) ?_
  · rintro i s ⟨T, G, rfl, eG, a1, a2, a3, a5, a6, a4⟩
    have b0 := eG.at b0
    have m1 := eG.isR m1
    by_cases h : i < l1.length
    · have k1 : (i : Int) < l1.length := by omega
      have k2 : (0 : Int) ≤ i := by omega
      have e1 : IntKind.i64.wrap ((i : Int) + 1) = i + 1 := w64 (by omega) (by omega)
      have hot := openN_le (l1.take i)
      rw [List.length_take] at hot
      have e2 : IntKind.i64.wrap ((openN (l1.take i) : Int) + 1) = ((openN (l1.take i) + 1 : Nat) : Int) := by rw [w64 (by omega) (by omega)]; omega
      obtain ⟨r, o, hx, hr⟩ := m1.get h
      have ha : l1[i]? = some l1[i] := List.getElem?_eq_getElem h
      generalize l1[i] = p at ha
      have on := openN_s l1 i p ha
      have rr := fun (o : Bool) => rd_row encSess ha o
      rw [csSess p] at rr
      have kl : kSess.length = 20 := rfl
      by_cases hp : p.int 2 = 2
      · rw [if_pos hp] at on
        simp -implicitDefEqProofs only [↓w_seq, ↓w_region, hx, kl, ↓ops_cons, ↓g_binOp, Nat.reduceLT, ev_tab, a4, a6, b_lss, k1, decide_true, ↓ops_nil, ↓w_cond, upd_eq, ↓w_skip, ↓w_block, ↓g_indexAddr, Tryd.underlying55, ne_eq, Nat.reduceEqDiff, not_false_eq_true, upd_ne, a5, adr_sl, k2, cells95, tyOk95, and_self, Int.toNat_natCast, Nat.zero_add, if_true, ↓g_load, ↓g_alloc, zero95, Option.map_some, ↓g_store, ↓g_fieldAddrT, ev_const, of_int, ↓g_move, a3, b_add, e2, ↓g_assign, e1, onS_some, alK_some, List.all_cons, one_int, List.all_nil, Bool.and_self, wr_def, hap_0, List.getElem?_cons_zero, wr_c, List.length_cons, List.length_nil, Nat.reduceAdd, Nat.le_refl, true_and, hset_0, List.set_cons_zero, fadr95_2, rd_def, tyOk3, agg3, cells3, onS_ite, agg95, hr, rr, hp, cells_agg, ovC, ovN, rd_onec, List.getElem?_cons_succ, b_eql, onB_true, ↓w_exit]
        refine ⟨i + 1, by omega, _, _, rfl, eG.add _, by omega, ?_, ?_, ?_, ?_, ?_⟩ <;> simp -implicitDefEqProofs only [ne_eq, Nat.reduceEqDiff, not_false_eq_true, upd_ne, a2, upd_eq, on, a5, hx, kl, a6] <;> rfl
      · rw [if_neg hp] at on
        simp -implicitDefEqProofs only [↓w_seq, ↓w_region, hx, kl, ↓ops_cons, ↓g_binOp, Nat.reduceLT, ev_tab, a4, a6, b_lss, k1, decide_true, ↓ops_nil, ↓w_cond, upd_eq, ↓w_skip, ↓w_block, ↓g_indexAddr, Tryd.underlying55, ne_eq, Nat.reduceEqDiff, not_false_eq_true, upd_ne, a5, adr_sl, k2, cells95, tyOk95, and_self, Int.toNat_natCast, Nat.zero_add, if_true, ↓g_load, ↓g_alloc, zero95, Option.map_some, ↓g_store, ↓g_fieldAddrT, ev_const, of_int, ↓g_move, a3, b_add, e2, ↓g_assign, e1, onS_some, alK_some, List.all_cons, one_int, List.all_nil, Bool.and_self, wr_def, hap_0, List.getElem?_cons_zero, wr_c, List.length_cons, List.length_nil, Nat.reduceAdd, Nat.le_refl, true_and, hset_0, List.set_cons_zero, fadr95_2, rd_def, tyOk3, agg3, cells3, onS_ite, agg95, hr, rr, cells_agg, ovC, ovN, rd_onec, List.getElem?_cons_succ, b_eql, hp, decide_false, onB_false, ↓w_exit, onB_true]
        refine ⟨i + 1, by omega, _, _, rfl, eG.add _, by omega, ?_, ?_, ?_, ?_, ?_⟩ <;> simp -implicitDefEqProofs only [ne_eq, Nat.reduceEqDiff, not_false_eq_true, upd_ne, a2, a3, on, a5, hx, kl, a6, upd_eq] <;> rfl
    · have k1 : ¬ (i : Int) < l1.length := by omega
      have hi : i = l1.length := by omega
      rw [hi, List.take_length] at a3
      have c1 := toldI l1.length (by omega)
      have c2 := toldI (openN l1) (by omega)
      have c3 := toldI dr hd
      simp only [Int.toNat_natCast] at c1 c2
      have s1 := decT_size l1.length (by omega)
      have s2 := decT_size (openN l1) (by omega)
      have s3 := decT_size dr.toNat (by omega)
      simp -implicitDefEqProofs only [↓w_seq, ↓w_region, ↓ops_cons, ↓g_binOp, Nat.reduceLT, ev_tab, a4, a6, b_lss, k1, decide_false, ↓ops_nil, ↓w_cond, upd_eq, ↓w_skip, ↓w_block, ↓g_indexAddr, Tryd.underlying55, ne_eq, Nat.reduceEqDiff, not_false_eq_true, upd_ne, a5, ↓g_load, ↓g_alloc, zero95, Option.map_some, ↓g_store, ↓g_fieldAddrT, ev_const, of_int, ↓g_move, a3, b_add, ↓g_assign, onS_some, alK_some, List.all_cons, one_int, List.all_nil, Bool.and_self, wr_def, tyOk95, cells95, at_end, wr_c, Nat.zero_add, List.length_cons, List.length_nil, Nat.reduceAdd, Nat.le_refl, true_and, fadr95_2, rd_def, tyOk3, agg3, cells3, onS_ite, ↓w_exit, if_true, onB_false]
      refine drawn [(1, 0), (11, 0), (11, 4), (11, 8)] follows (by kernel_rfl) (by kernel_rfl) ?_
      simp -implicitDefEqProofs only [↓dops_cons, ↓g_fieldAddrT, Nat.reduceLT, ev_tab, ne_eq, Nat.reduceEqDiff, not_false_eq_true, upd_ne, a2, fadr60_2, Nat.zero_add, ↓g_load, upd_eq, ↓g_len, Tryd.underlying55, onS_some, rd_def, tyOk55, agg55, cells55, b0, rd_onec, List.getElem?_cons_succ, List.getElem?_cons_zero, l1']
      refine call1 (by simp -implicitDefEqProofs only [List.map_cons, Nat.reduceLT, ev_tab, upd_eq, List.map_nil] <;> rfl) c1 ?_
      simp -implicitDefEqProofs only [↓dops_cons, ↓g_binOp, ev_const, of_str, Nat.reduceLT, ev_tab, upd_eq, t_add, ↓g_move, ne_eq, Nat.reduceEqDiff, not_false_eq_true, upd_ne, a3, onS_ite]
      refine ⟨by (simp only [ByteArray.size_append, y4, y1, yn, yg, yo, yd]; omega), by (simp only [ByteArray.size_append, y4, y1, yn, yg, yo, yd]; omega), ?_⟩
      refine call1 (by simp -implicitDefEqProofs only [List.map_cons, Nat.reduceLT, ev_tab, upd_eq, List.map_nil] <;> rfl) c2 ?_
      simp -implicitDefEqProofs only [↓dops_cons, ↓g_binOp, Nat.reduceLT, ev_tab, ne_eq, Nat.reduceEqDiff, not_false_eq_true, upd_ne, upd_eq, t_add, ev_const, of_str, ↓g_fieldAddrT, a2, fadr60_6, Nat.zero_add, ↓g_load, onS_some, rd_def, tyOk3, agg3, cells3, b0, rd_onec, List.getElem?_cons_succ, List.getElem?_cons_zero, onS_ite]
      refine ⟨by (simp only [ByteArray.size_append, y4, y1, yn, yg, yo, yd]; omega), by (simp only [ByteArray.size_append, y4, y1, yn, yg, yo, yd]; omega), ?_⟩
      refine call1 (by simp -implicitDefEqProofs only [List.map_cons, Nat.reduceLT, ev_tab, upd_eq, List.map_nil] <;> rfl) c3 ?_
      simp -implicitDefEqProofs only [↓dops_cons, ↓g_binOp, Nat.reduceLT, ev_tab, ne_eq, Nat.reduceEqDiff, not_false_eq_true, upd_ne, upd_eq, t_add, ev_const, of_str, ↓g_assign, ↓dops_p, ↓w_seq, ↓w_region, ↓ops_cons, ↓g_fieldAddrT, a2, fadr60_5, Nat.zero_add, ↓g_load, ↓g_len, Tryd.underlying58, ↓g_move, ↓ops_nil, ↓w_block, of_int, onS_some, rd_def, tyOk58, agg58, cells58, b0, rd_onec, List.getElem?_cons_succ, List.getElem?_cons_zero, onS_ite]
      refine ⟨by (simp only [ByteArray.size_append, y4, y1, yn, yg, yo, yd]; omega), by (simp only [ByteArray.size_append, y4, y1, yn, yg, yo, yd]; omega), ?_⟩
      refine ⟨pairs_cons (same_H rfl) (pairs_cons (same_H rfl) (pairs_cons (same_H rfl) (pairs_cons (same_H rfl) (pairs_nil)))), ?_⟩
      have hG : gateH l1 dr = (⟨#[103, 97, 116, 101, 32]⟩ : ByteArray) ++ decT l1.length ++ (⟨#[32, 111, 112, 101, 110, 32]⟩ : ByteArray) ++ decT (openN l1) ++ (⟨#[32, 100, 114, 111, 112, 115, 32]⟩ : ByteArray) ++ decT dr.toNat ++ (⟨#[10]⟩ : ByteArray) := rfl
      rw [← hG]
      have gs := gateH_size l1 dr b1 hd
      generalize gateH l1 dr = P at gs
      clear hG
      try simp -implicitDefEqProofs only [l4', onS_some]
      refine w_loop (ι := Nat) (fun i s => ∃ (T : Nat → AV) (G : AHeap), s = ⟨tab 71 T, G⟩ ∧ Ext (H ++ [A]) G ∧ i ≤ l4.length ∧ T 6 = .sc (.string (outsT P (l4.take i))) ∧ T 39 = x4 ∧ T 40 = .sc (.int .i64 l4.length) ∧ T 41 = .sc (.int .i64 i)) (fun i => l4.length - i) ?_ (i := 0) ?_
      · rintro i s ⟨T, G, rfl, eG, a1, a3, a5, a6, a4⟩
        have m4 := eG.isR m4
        by_cases h : i < l4.length
        · have k1 : (i : Int) < l4.length := by omega
          have k2 : (0 : Int) ≤ i := by omega
          have e1 : IntKind.i64.wrap ((i : Int) + 1) = i + 1 := w64 (by omega) (by omega)
          obtain ⟨r, o, hx, hr⟩ := m4.get h
          have ha : l4[i]? = some l4[i] := List.getElem?_eq_getElem h
          generalize l4[i] = p at ha
          have on := outsT_s P l4 i p ha
          have rr := fun (o : Bool) => rd_row encOut ha o
          rw [csOut p] at rr
          have kl : kOut.length = 5 := rfl
          have c0 := toldI (p.int 0) (num_ok p 0 rfl)
          have c1 := toldI (p.int 1) (num_ok p 1 rfl)
          have c2 := toldI (p.int 2) (num_ok p 2 rfl)
          have c4 := toldI (p.int 4) (num_ok p 4 rfl)
          have s0 := decT_size (p.int 0).toNat (by have := num_ok p 0 rfl; omega)
          have s1 := decT_size (p.int 1).toNat (by have := num_ok p 1 rfl; omega)
          have s2 := decT_size (p.int 2).toNat (by have := num_ok p 2 rfl; omega)
          have s4 := decT_size (p.int 4).toNat (by have := num_ok p 4 rfl; omega)
          have so := outsT_size P (l4.take i)
          rw [List.length_take] at so
          have ot := outT_size p
          simp -implicitDefEqProofs only [↓w_seq, ↓w_region, hx, kl, ↓ops_cons, ↓g_binOp, Nat.reduceLT, ev_tab, a4, a6, b_lss, k1, decide_true, ↓ops_nil, ↓w_cond, upd_eq, ↓w_skip, ↓w_block, ↓g_indexAddr, Tryd.underlying58, ne_eq, Nat.reduceEqDiff, not_false_eq_true, upd_ne, a5, adr_sl, k2, cells99, tyOk99, and_self, Int.toNat_natCast, Nat.zero_add, if_true, ↓g_load, ↓g_alloc, zero99, Option.map_some, ↓g_store, ↓g_fieldAddrT, zero97, alK_some, List.all_cons, one_int, List.all_nil, Bool.and_self, wr_def, tyOk97, cells97, hap_0, List.getElem?_cons_zero, wr_c, List.length_cons, List.length_nil, Nat.reduceAdd, Nat.le_refl, true_and, hset_0, List.set_cons_zero, onS_ite, fadr99_1, onS_some, rd_def, agg97, List.length_append, List.append_assoc, List.cons_append, List.nil_append, agg99, hr, rr, cells_agg, ovC, ovN, rd_aggc, List.drop_succ_cons, List.drop_zero, List.take_succ_cons, List.take_zero, ↓w_exit, ↓g_move, ↓g_assign, ↓w_ret, a3, retP_1, res_tmp, onB_true]
          refine drawn [(2, 0), (7, 0), (7, 4), (12, 0), (12, 4), (12, 9), (17, 0), (17, 4), (17, 9), (17, 14)] follows (by kernel_rfl) (by kernel_rfl) ?_
          simp -implicitDefEqProofs only [↓dops_cons, ↓g_move, ↓g_fieldAddrT, Nat.reduceLT, ev_tab, ne_eq, Nat.reduceEqDiff, not_false_eq_true, upd_ne, a3, upd_eq, fadr99_0, Nat.zero_add, ↓g_load, onS_some, rd_def, tyOk3, agg3, cells3, hap_0, List.getElem?_cons_zero, rd_onec]
          refine call1 (by simp -implicitDefEqProofs only [List.map_cons, Nat.reduceLT, ev_tab, upd_eq, List.map_nil] <;> rfl) c0 ?_
          simp -implicitDefEqProofs only [↓dops_cons, ↓g_binOp, ev_const, of_str, Nat.reduceLT, ev_tab, upd_eq, t_add, ↓g_fieldAddrT, ne_eq, Nat.reduceEqDiff, not_false_eq_true, upd_ne, fadr97_0, Nat.zero_add, ↓g_load, onS_some, rd_def, tyOk3, agg3, cells3, hap_k, List.getElem?_cons_succ, List.getElem?_cons_zero, rd_onec, onS_ite]
          refine ⟨by (simp only [ByteArray.size_append, y4, y1, yn, yg, yo, yd]; omega), by (simp only [ByteArray.size_append, y4, y1, yn, yg, yo, yd]; omega), ?_⟩
          try simp -implicitDefEqProofs only []
          refine call1 (by simp -implicitDefEqProofs only [List.map_cons, Nat.reduceLT, ev_tab, upd_eq, List.map_nil] <;> rfl) c1 ?_
          simp -implicitDefEqProofs only [↓dops_cons, ↓g_binOp, Nat.reduceLT, ev_tab, ne_eq, Nat.reduceEqDiff, not_false_eq_true, upd_ne, upd_eq, t_add, ev_const, of_str, ↓g_fieldAddrT, fadr97_1, Nat.zero_add, ↓g_load, onS_some, rd_def, tyOk3, agg3, cells3, hap_k, List.getElem?_cons_succ, List.getElem?_cons_zero, rd_onec, onS_ite]
          refine ⟨by (simp only [ByteArray.size_append, y4, y1, yn, yg, yo, yd]; omega), by (simp only [ByteArray.size_append, y4, y1, yn, yg, yo, yd]; omega), ?_⟩
          try simp -implicitDefEqProofs only []
          refine call1 (by simp -implicitDefEqProofs only [List.map_cons, Nat.reduceLT, ev_tab, upd_eq, List.map_nil] <;> rfl) c2 ?_
          simp -implicitDefEqProofs only [↓dops_cons, ↓g_binOp, Nat.reduceLT, ev_tab, ne_eq, Nat.reduceEqDiff, not_false_eq_true, upd_ne, upd_eq, t_add, ev_const, of_str, ↓g_fieldAddrT, fadr97_3, Nat.zero_add, ↓g_load, onS_some, rd_def, tyOk3, agg3, cells3, hap_k, List.getElem?_cons_succ, List.getElem?_cons_zero, rd_onec, onS_ite]
          refine ⟨by (simp only [ByteArray.size_append, y4, y1, yn, yg, yo, yd]; omega), by (simp only [ByteArray.size_append, y4, y1, yn, yg, yo, yd]; omega), ?_⟩
          try simp -implicitDefEqProofs only []
          refine call1 (by simp -implicitDefEqProofs only [List.map_cons, Nat.reduceLT, ev_tab, upd_eq, List.map_nil] <;> rfl) c4 ?_
          simp -implicitDefEqProofs only [↓dops_cons, ↓g_binOp, Nat.reduceLT, ev_tab, ne_eq, Nat.reduceEqDiff, not_false_eq_true, upd_ne, upd_eq, t_add, ev_const, of_str, ↓g_assign, ↓dops_p, ↓w_region, ↓ops_cons, of_int, ↓g_move, ↓ops_nil, onS_ite]
          refine ⟨by (simp only [ByteArray.size_append, y4, y1, yn, yg, yo, yd]; omega), by (simp only [ByteArray.size_append, y4, y1, yn, yg, yo, yd]; omega), by (simp only [ByteArray.size_append, y4, y1, yn, yg, yo, yd]; omega), ?_⟩
          refine ⟨pairs_cons (same_H rfl) (pairs_cons (same_H rfl) (pairs_cons (same_H rfl) (pairs_cons (same_H rfl) (pairs_cons (same_H rfl) (pairs_cons (same_H rfl) (pairs_cons (same_H rfl) (pairs_cons (same_H rfl) (pairs_cons (same_H rfl) (pairs_cons (same_H rfl) (pairs_nil)))))))))), ?_⟩
          have on' : outsT P (l4.take i) ++ ((⟨#[111, 117, 116, 32]⟩ : ByteArray) ++ decT (p.int 0).toNat ++ (⟨#[32]⟩ : ByteArray) ++ decT (p.int 1).toNat ++ (⟨#[32]⟩ : ByteArray) ++ decT (p.int 2).toNat ++ (⟨#[32]⟩ : ByteArray) ++ decT (p.int 4).toNat ++ (⟨#[10]⟩ : ByteArray)) = outsT P (l4.take (i + 1)) := on.symm
          rw [on']
          simp -implicitDefEqProofs only [a4, b_add, e1, onS_some]
          refine ⟨i + 1, by omega, _, _, rfl, eG.add _, by omega, ?_, ?_, ?_, ?_⟩ <;> simp -implicitDefEqProofs only [ne_eq, Nat.reduceEqDiff, not_false_eq_true, upd_ne, upd_eq, a5, hx, kl, a6] <;> rfl
        · have k1 : ¬ (i : Int) < l4.length := by omega
          have hi : i = l4.length := by omega
          rw [hi, List.take_length] at a3
          simp -implicitDefEqProofs only [↓w_seq, ↓w_region, ↓ops_cons, ↓g_binOp, Nat.reduceLT, ev_tab, a4, a6, b_lss, k1, decide_false, ↓ops_nil, ↓w_cond, upd_eq, ↓w_skip, ↓w_block, ↓g_indexAddr, Tryd.underlying58, ne_eq, Nat.reduceEqDiff, not_false_eq_true, upd_ne, a5, ↓g_load, ↓g_alloc, zero99, Option.map_some, ↓g_store, ↓g_fieldAddrT, zero97, alK_some, List.all_cons, one_int, List.all_nil, Bool.and_self, wr_def, tyOk97, cells97, at_end, wr_c, Nat.zero_add, List.length_cons, List.length_nil, Nat.reduceAdd, Nat.le_refl, true_and, onS_ite, tyOk99, cells99, fadr99_1, onS_some, rd_def, agg97, List.length_set, List.length_append, ↓w_exit, ↓g_move, ↓g_assign, ↓w_ret, a3, retP_1, res_tmp, if_true, onB_false]
          exact e0.trans eG
      · refine ⟨_, _, rfl, eG, by omega, ?_, ?_, ?_, ?_⟩ <;> simp -implicitDefEqProofs only [ne_eq, Nat.reduceEqDiff, not_false_eq_true, upd_ne, upd_eq, List.take_zero, Int.cast_ofNat_Int] <;> rfl
  · refine ⟨_, _, rfl, .refl _, by omega, ?_, ?_, ?_, ?_, ?_⟩ <;> simp -implicitDefEqProofs only [ne_eq, Nat.reduceEqDiff, not_false_eq_true, upd_ne, upd_eq, List.take_zero, Int.cast_ofNat_Int] <;> rfl
end Go.Proofs.YtfgmmklljibbiaaDoor.Sim

