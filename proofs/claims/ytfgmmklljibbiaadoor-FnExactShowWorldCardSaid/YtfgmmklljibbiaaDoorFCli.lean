/- What is shown of a client. -/
import Derived.Test.YtfgmmklljibbiaaDoorFItoaC
import Derived.Test.YtfgmmklljibbiaaDoorFRws
namespace Go.Proofs.YtfgmmklljibbiaaDoor.Sim
open Go
set_option maxRecDepth 100000
set_option maxHeartbeats 4000000
set_option linter.unusedSimpArgs false
set_option linter.unusedVariables false
structure Cl where
  n : Int
  g : Int
  m : Int
  s : Int
  d : Int
  k : Bool
  h : Int
  sd : Int
  hd : Int
  la : Int
  le : Int
  c0 : Int
  c1 : Int
  c2 : Int
  c3 : Int
  c4 : Int
  c5 : Int
  c6 : Int
  c7 : Int
  c8 : Int
  du : Int
  w : Int
  t : Int
def ic (x : Int) : AV := .sc (.int .i64 x)
def Cl.cs (c : Cl) : List AV := [.sc (.int .i64 c.n), .sc (.int .i64 c.g), .sc (.int .i64 c.m), .sc (.int .i64 c.s), .sc (.int .i64 c.d), .sc (.bool c.k), .sc (.int .i64 c.h), .sc (.int .i64 c.sd), .sc (.int .i64 c.hd), .sc (.int .i64 c.la), .sc (.int .i64 c.le), .sc (.int .i64 c.c0), .sc (.int .i64 c.c1), .sc (.int .i64 c.c2), .sc (.int .i64 c.c3), .sc (.int .i64 c.c4), .sc (.int .i64 c.c5), .sc (.int .i64 c.c6), .sc (.int .i64 c.c7), .sc (.int .i64 c.c8), .sc (.int .i64 c.du), .sc (.int .i64 c.w), .sc (.int .i64 c.t)]
theorem Cl.flat (c : Cl) : Flat (.agg c.cs) := .agg fun a ha => by
  simp only [Cl.cs, List.mem_cons, List.not_mem_nil, or_false] at ha
  rcases ha with rfl | rfl | rfl | rfl | rfl | rfl | rfl | rfl | rfl | rfl | rfl | rfl | rfl | rfl | rfl | rfl | rfl | rfl | rfl | rfl | rfl | rfl | rfl <;> exact .sc _
theorem toWindowS (a b : Int) : Fn Tryd.prog 62 [.agg [.sc (.int .i64 a), .sc (.int .i64 b)]] (.agg [.sc (.int .i64 a), .sc (.int .i64 b)]) := by
  refine Fn.run 11 [.cell 2 29] Tryd.func62 rfl rfl rfl rfl (by simp) (flats_cons (.agg (flats_cons (.sc _) (flats_cons (.sc _) flats_nil))) flats_nil) (.agg (flats_cons (.sc _) (flats_cons (.sc _) flats_nil))) ?_
  simp -implicitDefEqProofs only [↓w_seq, ↓w_region, ↓ops_cons, ↓g_box, Nat.reduceLT, ev_tab, par0, cells_agg, ↓g_alloc, zero29, Option.map_some, ↓ops_nil, ↓g_fieldAddrT, ne_eq, Nat.reduceEqDiff, not_false_eq_true, upd_ne, upd_eq, ↓g_load, ↓g_store, ↓w_ret, ret_cell, alK_some, List.all_cons, one_int, List.all_nil, Bool.and_self, fadr29_0, Nat.zero_add, fadr29_1, rd_def, tyOk29, agg29, cells29, onS_some, wr_def, tyOk3, cells3, at_end, wr_c, List.length_cons, List.length_nil, Nat.reduceAdd, Nat.reduceLeDiff, true_and, onS_ite, List.length_append, fadr23_0, List.nil_append, List.cons_append, fadr23_1, List.set_cons_succ, List.set_cons_zero, List.getElem?_cons_succ, List.getElem?_cons_zero, agg3, rd_onec, cells_int, and_self, ovC, ovN, Nat.le_refl, over_s, if_true, rd_aggc, List.drop_zero, List.take_succ_cons, List.take_zero]
theorem toChanS (a b c d e f g h i : Int) : Fn Tryd.prog 27 [.agg [.sc (.int .i64 a), .sc (.int .i64 b), .sc (.int .i64 c), .sc (.int .i64 d), .sc (.int .i64 e), .sc (.int .i64 f), .sc (.int .i64 g), .sc (.int .i64 h), .sc (.int .i64 i)]] (.agg [.sc (.int .i64 a), .sc (.int .i64 b), .sc (.int .i64 c), .sc (.int .i64 d), .sc (.int .i64 e), .sc (.int .i64 f), .sc (.int .i64 g), .sc (.int .i64 h), .sc (.int .i64 i)]) := by
  have hf : Flat (.agg [.sc (.int .i64 a), .sc (.int .i64 b), .sc (.int .i64 c), .sc (.int .i64 d), .sc (.int .i64 e), .sc (.int .i64 f), .sc (.int .i64 g), .sc (.int .i64 h), .sc (.int .i64 i)]) := .agg (flats_cons (.sc _) (flats_cons (.sc _) (flats_cons (.sc _) (flats_cons (.sc _) (flats_cons (.sc _) (flats_cons (.sc _) (flats_cons (.sc _) (flats_cons (.sc _) (flats_cons (.sc _) flats_nil)))))))))
  refine Fn.run 28 [.cell 2 31] Tryd.func27 rfl rfl rfl rfl (by simp) (flats_cons hf flats_nil) hf ?_
  simp -implicitDefEqProofs only [↓w_seq, ↓w_region, ↓ops_cons, ↓g_box, Nat.reduceLT, ev_tab, par0, cells_agg, ↓g_alloc, zero31, Option.map_some, ↓ops_nil, ↓g_fieldAddrT, ne_eq, Nat.reduceEqDiff, not_false_eq_true, upd_ne, upd_eq, ↓g_load, ↓g_store, alK_some, List.all_cons, one_int, List.all_nil, Bool.and_self, fadr31_0, Nat.zero_add, fadr31_1, fadr31_2, fadr31_3, fadr31_4, onS_some, wr_def, tyOk3, cells3, at_end, wr_c, List.length_cons, List.length_nil, Nat.reduceAdd, Nat.reduceLeDiff, true_and, onS_ite, List.length_append, fadr25_0, List.nil_append, List.cons_append, fadr25_1, List.set_cons_succ, List.set_cons_zero, List.getElem?_cons_succ, List.getElem?_cons_zero, fadr25_2, fadr25_3, fadr25_4, fadr25_5, rd_def, tyOk23, agg23, cells23, agg3, rd_onec, cells_int, and_self, ovC, ovN, over_s, if_true, rd_aggc, List.drop_succ_cons, List.drop_zero, List.take_succ_cons, List.take_zero, and_true]
  refine call1 (by simp -implicitDefEqProofs only [List.map_cons, Nat.reduceLT, ev_tab, upd_eq, List.map_nil] <;> rfl) (toWindowS f g) ?_
  simp -implicitDefEqProofs only [↓ops_cons, ↓g_fieldAddrT, Nat.reduceLT, ev_tab, ne_eq, Nat.reduceEqDiff, not_false_eq_true, upd_ne, upd_eq, fadr31_5, Nat.zero_add, ↓g_store, ↓ops_nil, ↓w_seq, ↓w_region, fadr25_6, ↓g_load, onS_some, rd_def, tyOk23, agg23, cells23, wr_def, tyOk29, cells29, List.getElem?_cons_succ, List.getElem?_cons_zero, wr_c, cells_agg, List.length_cons, List.length_nil, Nat.reduceAdd, Nat.reduceLeDiff, List.all_cons, one_int, List.all_nil, Bool.and_self, and_self, over_s, ovC, ovN, List.set_cons_succ, List.set_cons_zero, if_true, rd_aggc, Nat.le_refl, List.drop_succ_cons, List.drop_zero, List.take_succ_cons, List.take_zero]
  refine call1 (by simp -implicitDefEqProofs only [List.map_cons, Nat.reduceLT, ev_tab, upd_eq, List.map_nil] <;> rfl) (toWindowS h i) ?_
  simp -implicitDefEqProofs only [↓ops_cons, ↓g_fieldAddrT, Nat.reduceLT, ev_tab, ne_eq, Nat.reduceEqDiff, not_false_eq_true, upd_ne, upd_eq, fadr31_6, Nat.zero_add, ↓g_store, ↓ops_nil, ↓w_seq, ↓w_region, ↓g_load, rd_def, tyOk31, agg31, cells31, wr_def, ↓w_ret, ret_cell, onS_some, tyOk29, cells29, List.getElem?_cons_succ, List.getElem?_cons_zero, wr_c, cells_agg, List.length_cons, List.length_nil, Nat.reduceAdd, Nat.le_refl, List.all_cons, one_int, List.all_nil, Bool.and_self, and_self, over_s, ovC, ovN, List.set_cons_succ, List.set_cons_zero, if_true, rd_aggc, List.drop_zero, List.take_succ_cons, List.take_zero, true_and, onS_ite]
theorem toClientS (c : Cl) : Fn Tryd.prog 8 [.agg c.cs] (.agg c.cs) := by
  refine Fn.run 51 [.cell 2 33] Tryd.func8 rfl rfl rfl rfl (by simp) (flats_cons c.flat flats_nil) c.flat ?_
  unfold Cl.cs
  simp -implicitDefEqProofs only [↓w_seq, ↓w_region, ↓ops_cons, ↓g_box, Nat.reduceLT, ev_tab, par0, cells_agg, ↓g_alloc, zero33, Option.map_some, ↓ops_nil, ↓g_fieldAddrT, ne_eq, Nat.reduceEqDiff, not_false_eq_true, upd_ne, upd_eq, ↓g_load, ↓g_store, alK_some, List.all_cons, one_int, one_bool, List.all_nil, Bool.and_self, fadr33_0, Nat.zero_add, fadr33_1, fadr33_2, fadr33_3, fadr33_4, fadr33_5, fadr33_6, fadr33_7, fadr33_8, fadr33_9, fadr33_10, onS_some, wr_def, tyOk3, cells3, tyOk4, cells4, at_end, wr_c, List.length_cons, List.length_nil, Nat.reduceAdd, Nat.reduceLeDiff, true_and, onS_ite, List.length_append, fadr27_0, List.nil_append, List.cons_append, fadr27_1, List.set_cons_succ, List.set_cons_zero, List.getElem?_cons_succ, List.getElem?_cons_zero, fadr27_2, fadr27_3, fadr27_4, fadr27_5, fadr27_6, fadr27_7, fadr27_8, fadr27_9, fadr27_10, fadr27_11, rd_def, tyOk25, agg25, cells25, agg3, agg4, rd_onec, cells_int, and_self, ovC, ovN, over_s, if_true, rd_aggc, List.drop_succ_cons, List.drop_zero, List.take_succ_cons, List.take_zero, and_true, cells_bool]
  refine call1 (by simp -implicitDefEqProofs only [List.map_cons, Nat.reduceLT, ev_tab, upd_eq, List.map_nil] <;> rfl) (toChanS c.c0 c.c1 c.c2 c.c3 c.c4 c.c5 c.c6 c.c7 c.c8) ?_
  simp -implicitDefEqProofs only [↓ops_cons, ↓g_fieldAddrT, Nat.reduceLT, ev_tab, ne_eq, Nat.reduceEqDiff, not_false_eq_true, upd_ne, upd_eq, fadr33_11, Nat.zero_add, ↓g_store, ↓ops_nil, ↓w_seq, ↓w_region, fadr27_12, ↓g_load, fadr33_12, fadr27_13, fadr33_13, fadr27_14, fadr33_14, rd_def, tyOk33, agg33, cells33, wr_def, ↓w_ret, ret_cell, onS_some, tyOk3, cells3, agg3, tyOk31, cells31, List.getElem?_cons_succ, List.getElem?_cons_zero, wr_c, cells_agg, List.length_cons, List.length_nil, Nat.reduceAdd, Nat.reduceLeDiff, List.all_cons, one_int, List.all_nil, Bool.and_self, and_self, over_s, ovC, ovN, List.set_cons_succ, List.set_cons_zero, if_true, rd_onec, true_and, onS_ite, rd_aggc, List.drop_zero, List.take_succ_cons, Nat.le_refl, one_bool, cells_int, and_true, List.take_zero]
def stT (s : Int) : ByteArray := if 0 ≤ s ∧ s ≤ 4 then [(⟨#[105, 100, 108, 101]⟩ : ByteArray), (⟨#[104, 101, 108, 108, 111]⟩ : ByteArray), (⟨#[119, 104, 111]⟩ : ByteArray), (⟨#[111, 112, 101, 110]⟩ : ByteArray), (⟨#[102, 97, 105, 108, 101, 100]⟩ : ByteArray)].getD s.toNat ByteArray.empty else (⟨#[63]⟩ : ByteArray)
theorem stT_size (s : Int) : (stT s).size ≤ 6 := by
  have h : ∀ j < 5, (([(⟨#[105, 100, 108, 101]⟩ : ByteArray), (⟨#[104, 101, 108, 108, 111]⟩ : ByteArray), (⟨#[119, 104, 111]⟩ : ByteArray), (⟨#[111, 112, 101, 110]⟩ : ByteArray), (⟨#[102, 97, 105, 108, 101, 100]⟩ : ByteArray)] : List ByteArray).getD j ByteArray.empty).size ≤ 6 := by decide
  unfold stT
  split
  · exact h _ (by omega)
  · decide
def cliT (c : Cl) : ByteArray := (⟨#[99, 108, 105, 101, 110, 116, 32]⟩ : ByteArray) ++ decT c.n.toNat ++ (⟨#[32]⟩ : ByteArray) ++ stT c.s ++ (⟨#[32]⟩ : ByteArray) ++ decT c.le.toNat ++ (⟨#[10]⟩ : ByteArray)
theorem cliT_size (c : Cl) (h1 : c.n ≤ 9223372036854775807) (h2 : c.le ≤ 9223372036854775807) : (cliT c).size ≤ 60 := by
  have := decT_size c.n.toNat (by omega)
  have := decT_size c.le.toNat (by omega)
  have := stT_size c.s
  unfold cliT
  simp only [ByteArray.size_append]
  have e1 : ((⟨#[99, 108, 105, 101, 110, 116, 32]⟩ : ByteArray)).size = 7 := rfl
  have e2 : ((⟨#[32]⟩ : ByteArray)).size = 1 := rfl
  have e3 : ((⟨#[10]⟩ : ByteArray)).size = 1 := rfl
  omega
theorem z7 : ((⟨#[99, 108, 105, 101, 110, 116, 32]⟩ : ByteArray)).size = 7 := rfl
theorem z1 : ((⟨#[32]⟩ : ByteArray)).size = 1 := rfl
theorem zn : ((⟨#[10]⟩ : ByteArray)).size = 1 := rfl
theorem zq : ((⟨#[63]⟩ : ByteArray)).size = 1 := rfl
theorem showCliI (c : Cl) (h1 : c.n ≤ 9223372036854775807) (h2 : c.le ≤ 9223372036854775807) : Fn Tryd.prog 9 [.agg c.cs] (.sc (.string (cliT c))) := by
  refine Fn.run 25 [.tmp 2] Tryd.func9 rfl rfl rfl rfl (by simp) (flats_cons c.flat flats_nil) (.sc _) ?_
  have hcs : c.cs = [.sc (.int .i64 c.n), .sc (.int .i64 c.g), .sc (.int .i64 c.m), .sc (.int .i64 c.s), .sc (.int .i64 c.d), .sc (.bool c.k), .sc (.int .i64 c.h), .sc (.int .i64 c.sd), .sc (.int .i64 c.hd), .sc (.int .i64 c.la), .sc (.int .i64 c.le), .sc (.int .i64 c.c0), .sc (.int .i64 c.c1), .sc (.int .i64 c.c2), .sc (.int .i64 c.c3), .sc (.int .i64 c.c4), .sc (.int .i64 c.c5), .sc (.int .i64 c.c6), .sc (.int .i64 c.c7), .sc (.int .i64 c.c8), .sc (.int .i64 c.du), .sc (.int .i64 c.w), .sc (.int .i64 c.t)] := rfl
  rw [hcs]
  have d1 := decT_size c.n.toNat (by omega)
  have d2 := decT_size c.le.toNat (by omega)
  have d3 := stT_size c.s
  have t1 := toldI c.n h1
  have t2 := toldI c.le h2
  simp -implicitDefEqProofs only [↓w_seq, ↓w_region, ↓ops_cons, ↓g_box, Nat.reduceLT, ev_tab, par0, cells_agg, ↓g_assign, ↓ops_nil, ev_const, of_str, ↓g_fieldAddrT, ne_eq, Nat.reduceEqDiff, not_false_eq_true, upd_ne, upd_eq, ↓g_load, alK_some, List.all_cons, one_int, one_bool, List.all_nil, Bool.and_self, List.length_nil, fadr33_3, Nat.zero_add, List.nil_append, onS_some, rd_def, tyOk3, agg3, cells3, List.getElem?_cons_zero, rd_onec, List.getElem?_cons_succ, true_and]
  refine call1 (by simp -implicitDefEqProofs only [List.map_cons, Nat.reduceLT, ev_tab, upd_eq, ev_const, of_int, List.map_nil] <;> rfl) (inI c.s 0 4) ?_
  by_cases h : 0 ≤ c.s ∧ c.s ≤ 4
  · have hd : decide (0 ≤ c.s ∧ c.s ≤ 4) = true := decide_eq_true h
    rw [hd]
    have k1 : 0 ≤ c.s := h.1
    have k2 : c.s < 5 := by omega
    have k3 : c.s.toNat < 5 := by omega
    have hst : stT c.s = [(⟨#[105, 100, 108, 101]⟩ : ByteArray), (⟨#[104, 101, 108, 108, 111]⟩ : ByteArray), (⟨#[119, 104, 111]⟩ : ByteArray), (⟨#[111, 112, 101, 110]⟩ : ByteArray), (⟨#[102, 97, 105, 108, 101, 100]⟩ : ByteArray)].getD c.s.toNat ByteArray.empty := by rw [stT, if_pos h]
    simp -implicitDefEqProofs only [↓ops_nil, ↓w_cond, Nat.reduceLT, ev_tab, upd_eq, ↓w_region, ↓ops_cons, ↓g_buildSlice, Tryd.underlying80, List.map_cons, ev_const, of_str, List.map_nil, bs9_5, ↓g_fieldAddrT, ne_eq, Nat.reduceEqDiff, not_false_eq_true, upd_ne, fadr33_3, Nat.zero_add, ↓g_load, ↓g_indexAddr, ↓g_assign, ↓w_seq, onS_some, rd_def, tyOk3, agg3, cells3, alK_some, strs_one, List.cons_append, List.nil_append, List.getElem?_cons_zero, rd_onec, List.getElem?_cons_succ, List.length_cons, List.length_nil, adr_sl, k1, Int.cast_ofNat_Int, k2, cells9, tyOk9, and_self, Nat.mul_one, if_true, agg9, rd_strs, Nat.reduceAdd, k3, true_and, ↓w_skip, onB_true]
    refine drawn [(1, 0), (9, 0), (9, 3)] follows (by kernel_rfl) (by kernel_rfl) ?_
    rw [← hst]
    simp -implicitDefEqProofs only [↓dops_cons, ↓g_fieldAddrT, Nat.reduceLT, ev_tab, ne_eq, Nat.reduceEqDiff, not_false_eq_true, upd_ne, upd_eq, fadr33_0, Nat.zero_add, ↓g_load, onS_some, rd_def, tyOk3, agg3, cells3, List.getElem?_cons_zero, rd_onec]
    refine call1 (by simp -implicitDefEqProofs only [List.map_cons, Nat.reduceLT, ev_tab, upd_eq, List.map_nil] <;> rfl) t1 ?_
    simp -implicitDefEqProofs only [↓dops_cons, ↓g_binOp, ev_const, of_str, Nat.reduceLT, ev_tab, upd_eq, t_add, ↓g_move, ne_eq, Nat.reduceEqDiff, not_false_eq_true, upd_ne, ↓g_fieldAddrT, fadr33_10, Nat.zero_add, ↓g_load, onS_some, rd_def, tyOk3, agg3, cells3, List.getElem?_cons_zero, rd_onec, List.getElem?_cons_succ, onS_ite]
    refine ⟨by (simp only [ByteArray.size_append, z7, z1, zn, zq]; omega), by (simp only [ByteArray.size_append, z7, z1, zn, zq]; omega), by (simp only [ByteArray.size_append, z7, z1, zn, zq]; omega), by (simp only [ByteArray.size_append, z7, z1, zn, zq]; omega), ?_⟩
    refine call1 (by simp -implicitDefEqProofs only [List.map_cons, Nat.reduceLT, ev_tab, upd_eq, List.map_nil] <;> rfl) t2 ?_
    simp -implicitDefEqProofs only [↓dops_cons, ↓g_binOp, Nat.reduceLT, ev_tab, ne_eq, Nat.reduceEqDiff, not_false_eq_true, upd_ne, upd_eq, t_add, ev_const, of_str, ↓g_assign, ↓dops_p, ↓w_ret, ret_one, onS_ite]
    refine ⟨by (simp only [ByteArray.size_append, z7, z1, zn, zq]; omega), by (simp only [ByteArray.size_append, z7, z1, zn, zq]; omega), ?_⟩
    try simp -implicitDefEqProofs only []
    exact ⟨pairs_cons (same_H rfl) (pairs_cons (same_H rfl) (pairs_cons (same_H rfl) pairs_nil)), rfl⟩
  · have hd : decide (0 ≤ c.s ∧ c.s ≤ 4) = false := decide_eq_false h
    rw [hd]
    have hst : stT c.s = (⟨#[63]⟩ : ByteArray) := by rw [stT, if_neg h]
    simp -implicitDefEqProofs only [↓ops_nil, ↓w_cond, Nat.reduceLT, ev_tab, upd_eq, ↓w_region, ↓ops_cons, ↓g_buildSlice, Tryd.underlying80, List.map_cons, ev_const, of_str, List.map_nil, bs9_5, ↓g_fieldAddrT, ne_eq, Nat.reduceEqDiff, not_false_eq_true, upd_ne, fadr33_3, Nat.zero_add, ↓g_load, ↓g_indexAddr, ↓g_assign, ↓w_seq, onS_some, rd_def, tyOk3, agg3, cells3, alK_some, strs_one, List.cons_append, List.nil_append, List.getElem?_cons_zero, rd_onec, List.getElem?_cons_succ, List.length_cons, List.length_nil, adr_sl, Int.cast_ofNat_Int, cells9, tyOk9, and_self, and_true, Nat.mul_one, onS_ite, agg9, rd_strs, Nat.reduceAdd, true_and, ↓w_skip, onB_false]
    refine drawn [(1, 0), (9, 0), (9, 3)] follows (by kernel_rfl) (by kernel_rfl) ?_
    rw [← hst]
    simp -implicitDefEqProofs only [↓dops_cons, ↓g_fieldAddrT, Nat.reduceLT, ev_tab, ne_eq, Nat.reduceEqDiff, not_false_eq_true, upd_ne, upd_eq, fadr33_0, Nat.zero_add, ↓g_load, onS_some, rd_def, tyOk3, agg3, cells3, List.getElem?_cons_zero, rd_onec]
    refine call1 (by simp -implicitDefEqProofs only [List.map_cons, Nat.reduceLT, ev_tab, upd_eq, List.map_nil] <;> rfl) t1 ?_
    simp -implicitDefEqProofs only [↓dops_cons, ↓g_binOp, ev_const, of_str, Nat.reduceLT, ev_tab, upd_eq, t_add, ↓g_move, ne_eq, Nat.reduceEqDiff, not_false_eq_true, upd_ne, ↓g_fieldAddrT, fadr33_10, Nat.zero_add, ↓g_load, onS_some, rd_def, tyOk3, agg3, cells3, List.getElem?_cons_zero, rd_onec, List.getElem?_cons_succ, onS_ite]
    refine ⟨by (simp only [ByteArray.size_append, z7, z1, zn, zq]; omega), by (simp only [ByteArray.size_append, z7, z1, zn, zq]; omega), by (simp only [ByteArray.size_append, z7, z1, zn, zq]; omega), by (simp only [ByteArray.size_append, z7, z1, zn, zq]; omega), ?_⟩
    refine call1 (by simp -implicitDefEqProofs only [List.map_cons, Nat.reduceLT, ev_tab, upd_eq, List.map_nil] <;> rfl) t2 ?_
    simp -implicitDefEqProofs only [↓dops_cons, ↓g_binOp, Nat.reduceLT, ev_tab, ne_eq, Nat.reduceEqDiff, not_false_eq_true, upd_ne, upd_eq, t_add, ev_const, of_str, ↓g_assign, ↓dops_p, ↓w_ret, ret_one, onS_ite]
    refine ⟨by (simp only [ByteArray.size_append, z7, z1, zn, zq]; omega), by (simp only [ByteArray.size_append, z7, z1, zn, zq]; omega), ?_⟩
    try simp -implicitDefEqProofs only []
    exact ⟨pairs_cons (same_H rfl) (pairs_cons (same_H rfl) (pairs_cons (same_H rfl) pairs_nil)), rfl⟩
theorem showCliS (c : Cl) (h1 : c.n ≤ 9223372036854775807) (h2 : c.le ≤ 9223372036854775807) : Fn Tryd.prog 7 [.agg c.cs] (.sc (.string (cliT c))) := by
  refine Fn.run 27 [.tmp 2] Tryd.func7 rfl rfl rfl rfl (by simp) (flats_cons c.flat flats_nil) (.sc _) ?_
  have hcs : c.cs = [.sc (.int .i64 c.n), .sc (.int .i64 c.g), .sc (.int .i64 c.m), .sc (.int .i64 c.s), .sc (.int .i64 c.d), .sc (.bool c.k), .sc (.int .i64 c.h), .sc (.int .i64 c.sd), .sc (.int .i64 c.hd), .sc (.int .i64 c.la), .sc (.int .i64 c.le), .sc (.int .i64 c.c0), .sc (.int .i64 c.c1), .sc (.int .i64 c.c2), .sc (.int .i64 c.c3), .sc (.int .i64 c.c4), .sc (.int .i64 c.c5), .sc (.int .i64 c.c6), .sc (.int .i64 c.c7), .sc (.int .i64 c.c8), .sc (.int .i64 c.du), .sc (.int .i64 c.w), .sc (.int .i64 c.t)] := rfl
  rw [hcs]
  have d1 := decT_size c.n.toNat (by omega)
  have d2 := decT_size c.le.toNat (by omega)
  have d3 := stT_size c.s
  have t1 := numS c.n h1
  have t2 := numS c.le h2
  simp -implicitDefEqProofs only [↓w_seq, ↓w_region, ↓ops_cons, ↓g_box, Nat.reduceLT, ev_tab, par0, cells_agg, ↓g_assign, ↓ops_nil, ev_const, of_str, ↓g_buildSlice, Tryd.underlying80, List.map_cons, List.map_nil, bs9_5, upd_eq, ↓g_fieldAddrT, ne_eq, Nat.reduceEqDiff, not_false_eq_true, upd_ne, ↓g_load, alK_some, strs_one, true_and, List.all_cons, one_int, one_bool, List.all_nil, Bool.and_self, List.length_nil, fadr33_3, Nat.zero_add, List.nil_append, List.cons_append, List.length_cons, onS_some, rd_def, tyOk3, agg3, cells3, List.getElem?_cons_zero, rd_onec, List.getElem?_cons_succ]
  refine call1 (by simp -implicitDefEqProofs only [List.map_cons, Nat.reduceLT, ev_tab, upd_eq, ev_const, of_int, List.map_nil] <;> rfl) (inS c.s 0 4) ?_
  by_cases h : 0 ≤ c.s ∧ c.s ≤ 4
  · have hd : decide (0 ≤ c.s ∧ c.s ≤ 4) = true := decide_eq_true h
    rw [hd]
    have k1 : 0 ≤ c.s := h.1
    have k2 : c.s < 5 := by omega
    have k3 : c.s.toNat < 5 := by omega
    have hst : stT c.s = [(⟨#[105, 100, 108, 101]⟩ : ByteArray), (⟨#[104, 101, 108, 108, 111]⟩ : ByteArray), (⟨#[119, 104, 111]⟩ : ByteArray), (⟨#[111, 112, 101, 110]⟩ : ByteArray), (⟨#[102, 97, 105, 108, 101, 100]⟩ : ByteArray)].getD c.s.toNat ByteArray.empty := by rw [stT, if_pos h]
    simp -implicitDefEqProofs only [↓ops_nil, ↓w_cond, Nat.reduceLT, ev_tab, upd_eq, ↓w_region, ↓ops_cons, ↓g_move, ↓g_fieldAddrT, ne_eq, Nat.reduceEqDiff, not_false_eq_true, upd_ne, fadr33_3, Nat.zero_add, ↓g_load, ↓g_indexAddr, Tryd.underlying80, ↓g_assign, ↓w_seq, onS_some, rd_def, tyOk3, agg3, cells3, List.getElem?_cons_zero, rd_onec, List.getElem?_cons_succ, adr_sl, k1, Int.cast_ofNat_Int, k2, cells9, tyOk9, and_self, Nat.mul_one, if_true, agg9, rd_strs, List.length_cons, List.length_nil, Nat.reduceAdd, k3, ↓w_skip, onB_true]
    refine drawn [(1, 0), (9, 0), (9, 3)] follows (by kernel_rfl) (by kernel_rfl) ?_
    rw [← hst]
    simp -implicitDefEqProofs only [↓dops_cons, ↓g_fieldAddrT, Nat.reduceLT, ev_tab, ne_eq, Nat.reduceEqDiff, not_false_eq_true, upd_ne, upd_eq, fadr33_0, Nat.zero_add, ↓g_load, onS_some, rd_def, tyOk3, agg3, cells3, List.getElem?_cons_zero, rd_onec]
    refine call1 (by simp -implicitDefEqProofs only [List.map_cons, Nat.reduceLT, ev_tab, upd_eq, List.map_nil] <;> rfl) t1 ?_
    simp -implicitDefEqProofs only [↓dops_cons, ↓g_binOp, ev_const, of_str, Nat.reduceLT, ev_tab, upd_eq, t_add, ↓g_move, ne_eq, Nat.reduceEqDiff, not_false_eq_true, upd_ne, ↓g_fieldAddrT, fadr33_10, Nat.zero_add, ↓g_load, onS_some, rd_def, tyOk3, agg3, cells3, List.getElem?_cons_zero, rd_onec, List.getElem?_cons_succ, onS_ite]
    refine ⟨by (simp only [ByteArray.size_append, z7, z1, zn, zq]; omega), by (simp only [ByteArray.size_append, z7, z1, zn, zq]; omega), by (simp only [ByteArray.size_append, z7, z1, zn, zq]; omega), by (simp only [ByteArray.size_append, z7, z1, zn, zq]; omega), ?_⟩
    refine call1 (by simp -implicitDefEqProofs only [List.map_cons, Nat.reduceLT, ev_tab, upd_eq, List.map_nil] <;> rfl) t2 ?_
    simp -implicitDefEqProofs only [↓dops_cons, ↓g_binOp, Nat.reduceLT, ev_tab, ne_eq, Nat.reduceEqDiff, not_false_eq_true, upd_ne, upd_eq, t_add, ev_const, of_str, ↓g_assign, ↓dops_p, ↓w_ret, ret_one, onS_ite]
    refine ⟨by (simp only [ByteArray.size_append, z7, z1, zn, zq]; omega), by (simp only [ByteArray.size_append, z7, z1, zn, zq]; omega), ?_⟩
    try simp -implicitDefEqProofs only []
    exact ⟨pairs_cons (same_H rfl) (pairs_cons (same_H rfl) (pairs_cons (same_H rfl) pairs_nil)), rfl⟩
  · have hd : decide (0 ≤ c.s ∧ c.s ≤ 4) = false := decide_eq_false h
    rw [hd]
    have hst : stT c.s = (⟨#[63]⟩ : ByteArray) := by rw [stT, if_neg h]
    simp -implicitDefEqProofs only [↓ops_nil, ↓w_cond, Nat.reduceLT, ev_tab, upd_eq, ↓w_region, ↓ops_cons, ↓g_move, ↓g_fieldAddrT, ne_eq, Nat.reduceEqDiff, not_false_eq_true, upd_ne, fadr33_3, Nat.zero_add, ↓g_load, ↓g_indexAddr, Tryd.underlying80, ↓g_assign, ↓w_seq, onS_some, rd_def, tyOk3, agg3, cells3, List.getElem?_cons_zero, rd_onec, List.getElem?_cons_succ, adr_sl, Int.cast_ofNat_Int, cells9, tyOk9, and_self, and_true, Nat.mul_one, onS_ite, agg9, rd_strs, List.length_cons, List.length_nil, Nat.reduceAdd, ↓w_skip, onB_false]
    refine drawn [(1, 0), (9, 0), (9, 3)] follows (by kernel_rfl) (by kernel_rfl) ?_
    rw [← hst]
    simp -implicitDefEqProofs only [↓dops_cons, ↓g_fieldAddrT, Nat.reduceLT, ev_tab, ne_eq, Nat.reduceEqDiff, not_false_eq_true, upd_ne, upd_eq, fadr33_0, Nat.zero_add, ↓g_load, onS_some, rd_def, tyOk3, agg3, cells3, List.getElem?_cons_zero, rd_onec]
    refine call1 (by simp -implicitDefEqProofs only [List.map_cons, Nat.reduceLT, ev_tab, upd_eq, List.map_nil] <;> rfl) t1 ?_
    simp -implicitDefEqProofs only [↓dops_cons, ↓g_binOp, ev_const, of_str, Nat.reduceLT, ev_tab, upd_eq, t_add, ↓g_move, ne_eq, Nat.reduceEqDiff, not_false_eq_true, upd_ne, ↓g_fieldAddrT, fadr33_10, Nat.zero_add, ↓g_load, onS_some, rd_def, tyOk3, agg3, cells3, List.getElem?_cons_zero, rd_onec, List.getElem?_cons_succ, onS_ite]
    refine ⟨by (simp only [ByteArray.size_append, z7, z1, zn, zq]; omega), by (simp only [ByteArray.size_append, z7, z1, zn, zq]; omega), by (simp only [ByteArray.size_append, z7, z1, zn, zq]; omega), by (simp only [ByteArray.size_append, z7, z1, zn, zq]; omega), ?_⟩
    refine call1 (by simp -implicitDefEqProofs only [List.map_cons, Nat.reduceLT, ev_tab, upd_eq, List.map_nil] <;> rfl) t2 ?_
    simp -implicitDefEqProofs only [↓dops_cons, ↓g_binOp, Nat.reduceLT, ev_tab, ne_eq, Nat.reduceEqDiff, not_false_eq_true, upd_ne, upd_eq, t_add, ev_const, of_str, ↓g_assign, ↓dops_p, ↓w_ret, ret_one, onS_ite]
    refine ⟨by (simp only [ByteArray.size_append, z7, z1, zn, zq]; omega), by (simp only [ByteArray.size_append, z7, z1, zn, zq]; omega), ?_⟩
    try simp -implicitDefEqProofs only []
    exact ⟨pairs_cons (same_H rfl) (pairs_cons (same_H rfl) (pairs_cons (same_H rfl) pairs_nil)), rfl⟩
end Go.Proofs.YtfgmmklljibbiaaDoor.Sim

