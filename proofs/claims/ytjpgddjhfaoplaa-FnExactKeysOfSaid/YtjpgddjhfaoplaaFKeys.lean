/- The three keys of a secret. -/
import Derived.Test.YtjpgddjhfaoplaaFXLabel
namespace Go.Proofs.Ytjpgddjhfaoplaa.Sim
open Go
set_option maxRecDepth 100000
set_option maxHeartbeats 4000000
set_option linter.unusedSimpArgs false
set_option linter.unusedVariables false
def bKey : ByteArray := ⟨#[107, 101, 121]⟩
def bIv : ByteArray := ⟨#[105, 118]⟩
def bSn : ByteArray := ⟨#[115, 110]⟩
def bNo : ByteArray := ⟨#[]⟩
theorem ret_ct' {P : Program} {n : Nat} {T : Nat → AV} {H : AHeap} {a u : Tmp} {t : TypeId} {v : AV} (h : a < n) (k : u < n) : retIs P [.cell a t, .tmp u] v ⟨tab n T, H⟩ = onS (rdV P t (T a) H) fun x => .tup [x, T u] = v := by
  have e : evRead P (tab n T) (.load t (.tmp a)) H = rdV P t (T a) H := by
    rw [← ev_tab n T a h]
    rfl
  have e2 : (tab n T).getD u und = T u := ev_tab n T u k
  simp only [retIs, ressA, resA, e2, e]
  cases rdV P t (T a) H <;> rfl
theorem over_m (a : AV) (cs : List AV) (y : AV) (ys : List AV) : overA (a :: cs) 0 (y :: ys) = y :: overA cs 0 ys := by simp [overA]
theorem over_n (cs : List AV) : overA cs 0 [] = cs := by simp [overA]
theorem flat3 (a b c : Value) (d : Bool) : Flat (.tup [.agg [.sc a, .sc b, .sc c], .sc (.bool d)]) := .tup (flats_cons (.agg (flats_cons (.sc _) (flats_cons (.sc _) (flats_cons (.sc _) flats_nil)))) (flats_cons (.sc _) flats_nil))
section
variable (z z1 z2 z3 : ByteArray) (c1 c2 c3 : Bool) (h1 : xlbV z bKey bNo 32 = .tup [.sc (.string z1), .sc (.bool c1)]) (h2 : xlbV z bIv bNo 12 = .tup [.sc (.string z2), .sc (.bool c2)]) (h3 : xlbV z bSn bNo 32 = .tup [.sc (.string z3), .sc (.bool c3)]) (hz : z.size = 32)
include h1 h2 h3 hz
theorem keysOfI : Fn Try.prog 22 [.sc (.string z)] (.tup [.agg [.sc (.string z1), .sc (.string z2), .sc (.string z3)], .sc (.bool true)]) := by
  refine Fn.run 29 [.cell 2 39, .tmp 3] Try.func22 rfl rfl rfl rfl (by simp) (flats_cons (.sc _) flats_nil) (flat3 _ _ _ _) ?_
  have k1 := xlbI z bKey bNo 32 (by omega)
  have k2 := xlbI z bIv bNo 12 (by omega)
  have k3 := xlbI z bSn bNo 32 (by omega)
  rw [h1] at k1
  rw [h2] at k2
  rw [h3] at k3
  have e1 : (⟨#[107, 101, 121]⟩ : ByteArray) = bKey := rfl
  have e2 : (⟨#[105, 118]⟩ : ByteArray) = bIv := rfl
  have e3 : (⟨#[115, 110]⟩ : ByteArray) = bSn := rfl
  have e0 : (⟨#[]⟩ : ByteArray) = bNo := rfl
  simp -implicitDefEqProofs only [↓w_seq, ↓w_region, ↓ops_cons, ↓g_alloc, zero39, Option.map_some, ↓g_assign, ↓ops_nil, ev_const, of_bool, ↓g_move, ↓g_len, Try.underlying9, Nat.reduceLT, ev_tab, ne_eq, reduceCtorEq, not_false_eq_true, upd_ne, par0, upd_eq, len_str, hz, Int.cast_ofNat_Int, ↓g_binOp, of_int, ↓w_cond, ↓g_buildV, List.map_nil, bz39, ↓g_store, Nat.reduceEqDiff, ↓w_ret, ret_ct', onS_some, ↓w_skip, alK_some, List.all_cons, one_str, List.all_nil, Bool.and_self, wr_def, tyOk39, cells39, at_end, wr_c, Nat.zero_add, List.length_cons, List.length_nil, Nat.reduceAdd, Nat.le_refl, true_and, onS_ite, cells_agg, and_self, over_m, over_n, b_neq, decide_true, Bool.not_true, onB_false, List.nil_append, List.cons_append, List.set_cons_succ, List.set_cons_zero]
  refine call1 (by simp -implicitDefEqProofs only [List.map_cons, Nat.reduceLT, ev_tab, upd_eq, ev_const, of_str, of_int, List.map_nil] <;> rfl) k1 ?_
  simp -implicitDefEqProofs only [↓ops_cons, ↓g_move, ↓g_extract, Nat.reduceLT, ev_tab, upd_eq, ext_0, ne_eq, Nat.reduceEqDiff, not_false_eq_true, upd_ne, ext_1, ↓g_fieldAddrT, fadr39_0, Nat.zero_add, ↓g_store, ↓ops_nil, ↓w_seq, ↓w_region, reduceCtorEq, par0, onS_some, wr_def, tyOk9, cells9, List.getElem?_cons_succ, List.getElem?_cons_zero, wr_c, List.length_cons, List.length_nil, Nat.reduceAdd, Nat.reduceLeDiff, true_and, List.set_cons_succ, List.set_cons_zero, onS_ite, cells_str, List.all_cons, one_str, List.all_nil, Bool.and_self, and_self, over_m, over_n]
  refine call1 (by simp -implicitDefEqProofs only [List.map_cons, Nat.reduceLT, ev_tab, upd_eq, ev_const, of_str, of_int, List.map_nil] <;> rfl) k2 ?_
  simp -implicitDefEqProofs only [↓ops_cons, ↓g_move, ↓g_extract, Nat.reduceLT, ev_tab, upd_eq, ext_0, ne_eq, Nat.reduceEqDiff, not_false_eq_true, upd_ne, ext_1, ↓g_fieldAddrT, fadr39_1, Nat.zero_add, ↓g_store, ↓ops_nil, ↓w_seq, ↓w_region, reduceCtorEq, par0, onS_some, wr_def, tyOk9, cells9, List.getElem?_cons_succ, List.getElem?_cons_zero, wr_c, Nat.reduceAdd, List.length_cons, List.length_nil, Nat.reduceLeDiff, true_and, over_s, List.set_cons_succ, List.set_cons_zero, onS_ite, cells_str, List.all_cons, one_str, List.all_nil, Bool.and_self, and_self, over_m, over_n]
  refine call1 (by simp -implicitDefEqProofs only [List.map_cons, Nat.reduceLT, ev_tab, upd_eq, ev_const, of_str, of_int, List.map_nil] <;> rfl) k3 ?_
  simp -implicitDefEqProofs only [↓ops_cons, ↓g_move, ↓g_extract, Nat.reduceLT, ev_tab, upd_eq, ext_0, ne_eq, Nat.reduceEqDiff, not_false_eq_true, upd_ne, ext_1, ↓g_fieldAddrT, fadr39_2, Nat.zero_add, ↓g_store, ↓ops_nil, ↓w_seq, ↓w_region, ↓g_load, rd_def, tyOk39, agg39, cells39, wr_def, ↓g_assign, ↓w_ret, ev_const, of_bool, ret_ct', onS_some, tyOk9, cells9, List.getElem?_cons_succ, List.getElem?_cons_zero, wr_c, Nat.reduceAdd, List.length_cons, List.length_nil, Nat.le_refl, true_and, over_s, List.set_cons_succ, List.set_cons_zero, onS_ite, rd_aggc, Nat.reduceLeDiff, List.drop_zero, List.take_succ_cons, cells_agg, List.all_cons, one_str, over_m, cells_str, List.all_nil, Bool.and_self, and_self, over_n, List.take_zero]
theorem keysOfS : Fn Try.prog 21 [.sc (.string z)] (.tup [.agg [.sc (.string z1), .sc (.string z2), .sc (.string z3)], .sc (.bool true)]) := by
  refine Fn.run 33 [.cell 2 39, .tmp 3] Try.func21 rfl rfl rfl rfl (by simp) (flats_cons (.sc _) flats_nil) (flat3 _ _ _ _) ?_
  have k1 := xlbS z bKey bNo 32 (by omega)
  have k2 := xlbS z bIv bNo 12 (by omega)
  have k3 := xlbS z bSn bNo 32 (by omega)
  rw [h1] at k1
  rw [h2] at k2
  rw [h3] at k3
  simp -implicitDefEqProofs only [↓w_seq, ↓w_region, ↓ops_cons, ↓g_alloc, zero39, Option.map_some, ↓g_assign, ↓ops_nil, ev_const, of_bool, ↓g_move, ↓g_len, Try.underlying9, Nat.reduceLT, ev_tab, ne_eq, reduceCtorEq, not_false_eq_true, upd_ne, par0, upd_eq, len_str, hz, Int.cast_ofNat_Int, ↓g_binOp, of_int, ↓w_cond, ↓g_buildV, List.map_nil, bz39, ↓g_store, Nat.reduceEqDiff, ↓w_ret, ret_ct', onS_some, ↓w_skip, b_neq, decide_true, Bool.not_true, onB_false, alK_some, List.all_cons, one_str, List.all_nil, Bool.and_self, List.length_nil, List.nil_append, true_and]
  refine call1 (by simp -implicitDefEqProofs only [List.map_cons, Nat.reduceLT, ev_tab, upd_eq, ev_const, of_str, of_int, List.map_nil] <;> rfl) k1 ?_
  simp -implicitDefEqProofs only [↓ops_cons, ↓g_move, ↓g_extract, Nat.reduceLT, ev_tab, upd_eq, ext_0, ne_eq, Nat.reduceEqDiff, not_false_eq_true, upd_ne, ext_1, ↓g_assign, ↓ops_nil, ↓w_seq, ↓w_region, reduceCtorEq, par0, onS_some]
  refine call1 (by simp -implicitDefEqProofs only [List.map_cons, Nat.reduceLT, ev_tab, upd_eq, ev_const, of_str, of_int, List.map_nil] <;> rfl) k2 ?_
  simp -implicitDefEqProofs only [↓ops_cons, ↓g_move, ↓g_extract, Nat.reduceLT, ev_tab, upd_eq, ext_0, ne_eq, Nat.reduceEqDiff, not_false_eq_true, upd_ne, ext_1, ↓g_assign, ↓ops_nil, ↓w_seq, ↓w_region, reduceCtorEq, par0, onS_some]
  refine call1 (by simp -implicitDefEqProofs only [List.map_cons, Nat.reduceLT, ev_tab, upd_eq, ev_const, of_str, of_int, List.map_nil] <;> rfl) k3 ?_
  simp -implicitDefEqProofs only [↓ops_cons, ↓g_move, ↓g_extract, Nat.reduceLT, ev_tab, upd_eq, ext_0, ne_eq, Nat.reduceEqDiff, not_false_eq_true, upd_ne, ext_1, ↓g_assign, ↓ops_nil, ↓w_seq, ↓w_region, ↓g_buildV, List.map_cons, List.map_nil, cells_str, ↓g_store, wr_def, tyOk39, cells39, List.getElem?_cons_zero, wr_c, Nat.zero_add, List.length_cons, List.length_nil, Nat.reduceAdd, Nat.le_refl, true_and, List.set_cons_zero, ↓w_ret, ev_const, of_bool, ret_ct', rd_def, agg39, onS_ite, onS_some, bds39, cells_agg, List.all_cons, one_str, List.all_nil, Bool.and_self, and_self, over_m, over_n, rd_aggc, List.drop_zero, List.take_succ_cons, List.take_zero, if_true]
end
theorem keysNoI (z : ByteArray) (hz : ¬ z.size = 32) : Fn Try.prog 22 [.sc (.string z)] (.tup [.agg [.sc (.string ByteArray.empty), .sc (.string ByteArray.empty), .sc (.string ByteArray.empty)], .sc (.bool false)]) := by
  refine Fn.run 29 [.cell 2 39, .tmp 3] Try.func22 rfl rfl rfl rfl (by simp) (flats_cons (.sc _) flats_nil) (flat3 _ _ _ _) ?_
  have h : ¬ (z.size : Int) = 32 := by omega
  simp -implicitDefEqProofs only [↓w_seq, ↓w_region, ↓ops_cons, ↓g_alloc, zero39, Option.map_some, ↓g_assign, ↓ops_nil, ev_const, of_bool, ↓g_move, ↓g_len, Try.underlying9, Nat.reduceLT, ev_tab, ne_eq, reduceCtorEq, not_false_eq_true, upd_ne, par0, upd_eq, len_str, ↓g_binOp, of_int, ↓w_cond, ↓g_buildV, List.map_nil, bz39, ↓g_store, Nat.reduceEqDiff, ↓w_ret, ret_ct', onS_some, ↓w_skip, alK_some, List.all_cons, one_str, List.all_nil, Bool.and_self, wr_def, tyOk39, cells39, at_end, wr_c, Nat.zero_add, List.length_cons, List.length_nil, Nat.reduceAdd, Nat.le_refl, true_and, onS_ite, cells_agg, and_self, over_m, over_n, b_neq, h, decide_false, Bool.not_false, onB_true, List.nil_append, List.getElem?_cons_zero, List.set_cons_zero, if_true, rd_def, agg39, rd_aggc, List.drop_zero, List.take_succ_cons, List.take_zero]
theorem keysNoS (z : ByteArray) (hz : ¬ z.size = 32) : Fn Try.prog 21 [.sc (.string z)] (.tup [.agg [.sc (.string ByteArray.empty), .sc (.string ByteArray.empty), .sc (.string ByteArray.empty)], .sc (.bool false)]) := by
  refine Fn.run 33 [.cell 2 39, .tmp 3] Try.func21 rfl rfl rfl rfl (by simp) (flats_cons (.sc _) flats_nil) (flat3 _ _ _ _) ?_
  have h : ¬ (z.size : Int) = 32 := by omega
  simp -implicitDefEqProofs only [↓w_seq, ↓w_region, ↓ops_cons, ↓g_alloc, zero39, Option.map_some, ↓g_assign, ↓ops_nil, ev_const, of_bool, ↓g_move, ↓g_len, Try.underlying9, Nat.reduceLT, ev_tab, ne_eq, reduceCtorEq, not_false_eq_true, upd_ne, par0, upd_eq, len_str, ↓g_binOp, of_int, ↓w_cond, ↓g_buildV, List.map_nil, bz39, ↓g_store, Nat.reduceEqDiff, ↓w_ret, ret_ct', onS_some, ↓w_skip, b_neq, h, decide_false, Bool.not_false, onB_true, alK_some, List.all_cons, one_str, List.all_nil, Bool.and_self, List.length_nil, List.nil_append, wr_def, tyOk39, cells39, List.getElem?_cons_zero, wr_c, cells_agg, List.length_cons, Nat.zero_add, Nat.reduceAdd, Nat.le_refl, and_self, over_m, over_n, List.set_cons_zero, if_true, rd_def, agg39, rd_aggc, List.drop_zero, List.take_succ_cons, List.take_zero]
theorem eqKeysS (a b c : ByteArray) : Fn Try.prog 23 [.agg [.sc (.string a), .sc (.string b), .sc (.string c)], .agg [.sc (.string a), .sc (.string b), .sc (.string c)]] (.sc (.bool true)) := by
  refine Fn.run 20 [.tmp 4] Try.func23 rfl rfl rfl rfl (by simp) (flats_cons (.agg (flats_cons (.sc _) (flats_cons (.sc _) (flats_cons (.sc _) flats_nil)))) (flats_cons (.agg (flats_cons (.sc _) (flats_cons (.sc _) (flats_cons (.sc _) flats_nil)))) flats_nil)) (.sc _) ?_
  simp -implicitDefEqProofs only [↓w_seq, ↓w_region, ↓ops_cons, ↓g_box, Nat.reduceLT, ev_tab, par0, cells_agg, ne_eq, Nat.reduceEqDiff, not_false_eq_true, upd_ne, par1, ↓g_assign, ↓ops_nil, ev_const, of_bool, ↓g_fieldAddrT, upd_eq, ↓g_load, ↓g_binOp, ↓w_cond, ↓w_ret, ret_one, ↓w_skip, alK_some, List.all_cons, one_str, List.all_nil, Bool.and_self, fadr39_0, Nat.zero_add, fadr39_1, fadr39_2, onS_some, rd_def, tyOk9, agg9, cells9, at_end, rd_onec, List.getElem?_cons_succ, List.getElem?_cons_zero, true_and, List.length_nil, List.nil_append, List.cons_append, t_neq, beq_self_eq_true, Bool.not_true, onB_false, and_self]
end Go.Proofs.Ytjpgddjhfaoplaa.Sim

