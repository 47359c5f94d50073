/- Boxes: what the laws do with them, copies, whether one is right. -/
import Derived.Test.YtheeehbaholjmaaFPiece
import Derived.Test.YtheeehbaholjmaaFHap
namespace Go.Proofs.Ytheeehbaholjmaa.Sim
open Go
set_option maxRecDepth 100000
set_option maxHeartbeats 4000000
set_option linter.unusedSimpArgs false
set_option linter.unusedVariables false
/-- A box. -/
def bx (i t : Int) (z : ByteArray) (x : AV) : AV := .agg [.sc (.int .i64 i), .sc (.int .i64 t), .sc (.string z), x]
theorem bcpy_set (l : List Bool) (i : Nat) (h : i < l.length) : (l.take i ++ List.replicate (l.length - i) false).set i (l.getD i false) = l.take (i + 1) ++ List.replicate (l.length - (i + 1)) false := by
  obtain ⟨m, hm⟩ : ∃ m, l.length - i = m + 1 := ⟨l.length - i - 1, by omega⟩
  rw [hm, show l.length - (i + 1) = m by omega, List.set_append_right _ _ (by rw [List.length_take]; omega), List.length_take, Nat.min_eq_left (by omega), Nat.sub_self, List.replicate_succ, List.set_cons_zero, List.take_add_one, List.getD_eq_getElem?_getD, List.getElem?_eq_getElem h, List.append_assoc]
  rfl
theorem toBoolsS {H : AHeap} {x : AV} {l : List Bool} (hx : IsB H x l) (hl : l.length ≤ 1000000000) : Sound Try.prog 50 [x] H (.sl H.length 0 l.length 1) (H ++ [⟨bools l, true, true⟩]) := by
  refine Sound.run 22 [.tmp 2] Try.func50 rfl rfl rfl rfl (by simp) ?_
  have lx := fun e => hx.len e
  have k0 : ∀ j : Nat, (0 : Int) ≤ (j : Int) := fun j => by omega
  have k1 : (l.length : Int) ≤ 1000000000000 := by omega
  simp -implicitDefEqProofs only [↓w_seq, ↓w_region, ↓ops_cons, ↓g_assign, ↓ops_nil, ev_const, ↓g_move, ↓g_len, Try.underlying30, Nat.reduceLT, ev_tab, ne_eq, reduceCtorEq, not_false_eq_true, upd_ne, par0, upd_eq, lx, ↓g_makeSlice, ↓w_block, of_int, onS_some, k0, k1, mk4, Int.toNat_natCast, alK_some, bools_one, true_and]
  refine w_loop (ι := Nat) (fun i s => ∃ T : Nat → AV, s = ⟨tab 22 T, H ++ [⟨bools (l.take i ++ List.replicate (l.length - i) false), true, true⟩]⟩ ∧ i ≤ l.length ∧ T 0 = x ∧ T 3 = .sl H.length 0 l.length 1 ∧ T 4 = .sc (.int .i64 i)) (fun i => l.length - i) ?_ (i := 0) ?_
  · rintro i s ⟨T, rfl, a1, a2, a3, a4⟩
    by_cases h : i < l.length
    · have k2 : (i : Int) < l.length := by omega
      have k3 : i < min i l.length + (l.length - i) := by omega
      have e1 : IntKind.i64.wrap ((i : Int) + 1) = i + 1 := w64 (by omega) (by omega)
      obtain ⟨r, o, rfl, hr⟩ := hx.get h
      have hrl : r < H.length := (List.getElem?_eq_some_iff.1 hr).1
      have hm := at_more H [⟨bools (l.take i ++ List.replicate (l.length - i) false), true, true⟩] r hrl
      rw [hr] at hm
      have hse : ∀ g h : Reg, (H ++ [g]).set H.length h = H ++ [h] := fun g h => by simp
      simp -implicitDefEqProofs only [↓w_seq, ↓w_region, ↓ops_cons, ↓g_move, ↓g_len, Try.underlying30, Nat.reduceLT, ev_tab, a4, ne_eq, reduceCtorEq, not_false_eq_true, upd_ne, a2, upd_eq, lx, ↓g_binOp, Nat.reduceEqDiff, ↓ops_nil, ↓w_cond, ↓w_skip, ↓w_block, ↓g_indexAddr, a3, adr_sl, k0, k2, cells4, tyOk4, and_self, Int.toNat_natCast, Nat.mul_one, Nat.zero_add, if_true, ↓g_load, ↓g_store, ev_const, of_int, b_add, e1, ↓g_assign, onS_some, wr_def, at_end, rd_def, agg4, hm, rd_bools, h, wr_bools, List.length_append, List.length_take, List.length_replicate, k3, bcpy_set l i h, hse, ↓w_exit, ↓w_ret, ret_one, true_and, b_lss, decide_true, onB_true]
      refine ⟨i + 1, by omega, _, rfl, by omega, ?_, ?_, ?_⟩ <;> simp -implicitDefEqProofs only [ne_eq, reduceCtorEq, not_false_eq_true, upd_ne, a2, Nat.reduceEqDiff, a3, upd_eq] <;> rfl
    · have k2 : ¬ (i : Int) < l.length := by omega
      have hi : i = l.length := by omega
      have e : l.take i ++ List.replicate (l.length - i) false = l := by rw [hi]; simp
      rw [e]
      simp -implicitDefEqProofs only [↓w_seq, ↓w_region, ↓ops_cons, ↓g_move, ↓g_len, Try.underlying30, Nat.reduceLT, ev_tab, a4, ne_eq, reduceCtorEq, not_false_eq_true, upd_ne, a2, upd_eq, lx, ↓g_binOp, Nat.reduceEqDiff, ↓ops_nil, ↓w_cond, ↓w_skip, ↓w_block, ↓g_indexAddr, a3, ↓g_load, adr_sl, k2, cells4, tyOk4, and_self, and_true, and_false, Nat.mul_one, Nat.zero_add, if_false, ↓g_store, ev_const, of_int, b_add, ↓g_assign, onS_some, ↓w_exit, ↓w_ret, ret_one, if_true, b_lss, decide_false, onB_false]
  · refine ⟨_, st_end (by simp), by omega, ?_, ?_, ?_⟩ <;> simp -implicitDefEqProofs only [ne_eq, reduceCtorEq, not_false_eq_true, upd_ne, par0, Nat.reduceEqDiff, upd_eq, Int.cast_ofNat_Int] <;> rfl
theorem eqBoolsS {H : AHeap} {x y : AV} {l : List Bool} (hx : IsB H x l) (hy : IsB H y l) (hl : l.length ≤ 1000000000) : Sound Try.prog 52 [x, y] H (.sc (.bool true)) H := by
  refine Sound.run 26 [.tmp 4] Try.func52 rfl rfl rfl rfl (by simp) ?_
  have lx := fun e => hx.len e
  have ly := fun e => hy.len e
  simp -implicitDefEqProofs only [↓w_seq, ↓w_region, ↓ops_cons, ↓g_assign, ↓ops_nil, ev_const, of_bool, ↓g_move, ↓g_len, Try.underlying30, Nat.reduceLT, ev_tab, ne_eq, reduceCtorEq, not_false_eq_true, upd_ne, par0, upd_eq, lx, Nat.reduceEqDiff, par1, ly, ↓g_binOp, ↓w_cond, ↓w_ret, ret_one, and_true, ↓w_skip, ↓w_block, of_int, onS_some, b_neq, decide_true, Bool.not_true, onB_false]
  refine w_loop (ι := Nat) (fun i s => ∃ T : Nat → AV, s = ⟨tab 26 T, H⟩ ∧ i ≤ l.length ∧ T 0 = x ∧ T 1 = y ∧ T 5 = .sc (.int .i64 i)) (fun i => l.length - i) ?_ (i := 0) ?_
  · rintro i s ⟨T, rfl, a1, a3, a4, a5⟩
    by_cases h : i < l.length
    · have k1 : (i : Int) < l.length := by omega
      have k2 : (0 : Int) ≤ i := by omega
      simp -implicitDefEqProofs only [↓w_seq, ↓w_region, ↓ops_cons, ↓g_move, ↓g_len, Try.underlying30, Nat.reduceLT, ev_tab, a5, ne_eq, reduceCtorEq, not_false_eq_true, upd_ne, a3, upd_eq, lx, ↓g_binOp, Nat.reduceEqDiff, ↓ops_nil, ↓w_cond, ↓w_skip, ↓w_block, ↓w_exit, ↓g_assign, ↓w_ret, ev_const, of_bool, ret_one, and_self, if_true, onS_some, b_lss, k1, decide_true, onB_true]
      refine drawn [(3, 0), (7, 0)] follows (by kernel_rfl) (by kernel_rfl) ?_
      obtain ⟨r, o, rfl, hr⟩ := hx.get h
      obtain ⟨q, o2, rfl, hq⟩ := hy.get (i := i) (by omega)
      have e1 : IntKind.i64.wrap ((i : Int) + 1) = i + 1 := w64 (by omega) (by omega)
      simp -implicitDefEqProofs only [↓dops_cons, ↓g_move, ↓g_indexAddr, Try.underlying30, Nat.reduceLT, ev_tab, ne_eq, reduceCtorEq, not_false_eq_true, upd_ne, a3, Nat.reduceEqDiff, a5, upd_eq, adr_sl, k2, k1, cells4, tyOk4, and_self, Int.toNat_natCast, Nat.mul_one, Nat.zero_add, if_true, ↓g_load, a4, ↓g_binOp, ↓dops_p, ↓w_cond, ↓w_seq, ↓w_region, ↓ops_cons, ↓g_assign, ↓ops_nil, ↓w_ret, ev_const, of_bool, ret_one, and_true, ↓w_skip, of_int, b_add, onS_some, rd_def, agg4, hq, rd_bools, h, hr, Try.underlying4, v_neq, beq_self_eq_true, Bool.not_true, onB_false]
      refine ⟨pairs_cons (same_H rfl) (pairs_cons (same_H rfl) pairs_nil), ?_⟩
      simp -implicitDefEqProofs only [e1]
      refine ⟨i + 1, by omega, _, rfl, by omega, ?_, ?_, ?_⟩ <;> simp -implicitDefEqProofs only [ne_eq, reduceCtorEq, not_false_eq_true, upd_ne, a3, Nat.reduceEqDiff, a4, upd_eq] <;> rfl
    · have k1 : ¬ (i : Int) < l.length := by omega
      simp -implicitDefEqProofs only [↓w_seq, ↓w_region, ↓ops_cons, ↓g_move, ↓g_len, Try.underlying30, Nat.reduceLT, ev_tab, a5, ne_eq, reduceCtorEq, not_false_eq_true, upd_ne, a3, upd_eq, lx, ↓g_binOp, Nat.reduceEqDiff, ↓ops_nil, ↓w_cond, ↓w_skip, ↓w_block, ↓w_exit, ↓g_assign, ↓w_ret, ev_const, of_bool, ret_one, and_self, if_true, onS_some, b_lss, k1, decide_false, onB_false]
  · refine ⟨_, rfl, by omega, ?_, ?_, ?_⟩ <;> simp -implicitDefEqProofs only [ne_eq, reduceCtorEq, not_false_eq_true, upd_ne, par0, Nat.reduceEqDiff, par1, upd_eq, Int.cast_ofNat_Int] <;> rfl
theorem szBoolsS {H : AHeap} {x : AV} {l : List Bool} (hx : IsB H x l) (hl : l.length ≤ 9223372036854775807) (n : Int) (hn : 0 ≤ n ∧ n ≤ 1048576) : Sound Try.prog 48 [x, .sc (.int .i64 n)] H (.sc (.int .i64 (if n - l.length < 0 then -1 else n - l.length))) H := by
  refine Sound.run 12 [.tmp 4] Try.func48 rfl rfl rfl rfl (by simp) ?_
  have lx := fun e => hx.len e
  have e1 : IntKind.i64.wrap (n - (l.length : Int)) = n - l.length := w64 (by omega) (by omega)
  simp -implicitDefEqProofs only [↓w_seq, ↓w_region, Int.reduceNeg, ↓ops_cons, ↓g_assign, ↓ops_nil, ev_const, of_int, ↓g_move, ↓g_len, Try.underlying30, Nat.reduceLT, ev_tab, ne_eq, Nat.reduceEqDiff, not_false_eq_true, upd_ne, par1, reduceCtorEq, par0, upd_eq, lx, ↓g_binOp, ↓w_cond, ↓w_ret, ret_one, and_true, ↓w_skip, onS_some, b_sub, e1, b_lss, onB_dec]
  split <;> rfl
theorem szBoxS {H : AHeap} {x : AV} {l : List Bool} (hx : IsB H x l) (hl : l.length ≤ 9223372036854775807) (i t : Int) (z : ByteArray) (hz : z.size ≤ 9223372036854775807) :
    ∃ (n : Int) (Z : AHeap), Sound Try.prog 15 [bx i t z x, .sc (.int .i64 1048576)] H (.sc (.int .i64 n)) Z ∧ Ext H Z ∧ (¬ n < 0 → n = 1048576 - z.size - l.length ∧ 0 ≤ n) ∧ n ≤ 1048576 := by
  suffices h : ∃ v Z, Sound Try.prog 15 [bx i t z x, .sc (.int .i64 1048576)] H v Z ∧ ∃ n : Int, v = .sc (.int .i64 n) ∧ Ext H Z ∧ (¬ n < 0 → n = 1048576 - z.size - l.length ∧ 0 ≤ n) ∧ n ≤ 1048576 by
    obtain ⟨v, Z, h1, n, rfl, h2⟩ := h
    exact ⟨n, Z, h1, h2⟩
  unfold bx
  refine Sound.runP (args := [.agg [.sc (.int .i64 i), .sc (.int .i64 t), .sc (.string z), x], .sc (.int .i64 1048576)]) 19 [.tmp 4] Try.func15 rfl rfl rfl rfl (by simp) (fun v Z => ∃ n : Int, v = .sc (.int .i64 n) ∧ Ext H Z ∧ (¬ n < 0 → n = 1048576 - z.size - l.length ∧ 0 ≤ n) ∧ n ≤ 1048576) ?_
  have e1 : IntKind.i64.wrap (1048576 - (z.size : Int)) = 1048576 - z.size := w64 (by omega) (by omega)
  have x1 := hx.one
  by_cases h : 1048576 - (z.size : Int) < 0
  · simp -implicitDefEqProofs only [↓w_seq, ↓w_region, Int.reduceNeg, ↓ops_cons, ↓g_box, Nat.reduceLT, ev_tab, par0, cells_agg, ↓g_assign, ↓ops_nil, ev_const, of_int, ↓g_move, ↓g_fieldAddrT, ne_eq, Nat.reduceEqDiff, not_false_eq_true, upd_ne, par1, upd_eq, ↓g_load, ↓g_len, Try.underlying9, ↓g_binOp, ↓w_cond, ↓w_ret, retP_1, res_tmp, onS_some, ↓w_skip, alK_some, List.all_cons, one_int, one_str, x1, List.all_nil, Bool.and_self, fadr32_2, Nat.zero_add, fadr32_3, rd_def, tyOk30, agg30, cells30, at_end, rd_onec, List.getElem?_cons_succ, List.getElem?_cons_zero, tyOk9, agg9, cells9, len_str, b_sub, e1, b_lss, h, decide_true, onB_true, true_and]
    exact ⟨-1, rfl, Ext.more _ _, by simp, by omega⟩
  · simp -implicitDefEqProofs only [↓w_seq, ↓w_region, Int.reduceNeg, ↓ops_cons, ↓g_box, Nat.reduceLT, ev_tab, par0, cells_agg, ↓g_assign, ↓ops_nil, ev_const, of_int, ↓g_move, ↓g_fieldAddrT, ne_eq, Nat.reduceEqDiff, not_false_eq_true, upd_ne, par1, upd_eq, ↓g_load, ↓g_len, Try.underlying9, ↓g_binOp, ↓w_cond, ↓w_ret, retP_1, res_tmp, onS_some, ↓w_skip, alK_some, List.all_cons, one_int, one_str, x1, List.all_nil, Bool.and_self, fadr32_2, Nat.zero_add, fadr32_3, rd_def, tyOk30, agg30, cells30, at_end, rd_onec, List.getElem?_cons_succ, List.getElem?_cons_zero, tyOk9, agg9, cells9, len_str, b_sub, e1, b_lss, h, decide_false, onB_false, true_and]
    refine call1S (by simp -implicitDefEqProofs only [List.map_cons, Nat.reduceLT, ev_tab, ne_eq, Nat.reduceEqDiff, not_false_eq_true, upd_ne, upd_eq, List.map_nil] <;> rfl) (szBoolsS ((Ext.more H _).isB hx) hl (1048576 - z.size) (by omega)) ?_
    by_cases h2 : 1048576 - (z.size : Int) - l.length < 0
    · simp only [if_pos h2]
      simp -implicitDefEqProofs only [↓ops_cons, ↓g_assign, ↓ops_nil, ↓w_seq, ↓w_region, Int.reduceNeg, Nat.reduceLT, ev_tab, upd_eq, ↓g_move, ↓g_binOp, ev_const, of_int, b_lss, Int.reduceLT, decide_true, ↓w_cond, ↓w_ret, retP_1, res_tmp, onS_some, ↓w_skip, ne_eq, Nat.reduceEqDiff, not_false_eq_true, upd_ne, onB_true]
      exact ⟨-1, rfl, Ext.more _ _, by simp, by omega⟩
    · simp only [if_neg h2]
      simp -implicitDefEqProofs only [↓ops_cons, ↓g_assign, ↓ops_nil, ↓w_seq, ↓w_region, Int.reduceNeg, Nat.reduceLT, ev_tab, upd_eq, ↓g_move, ↓g_binOp, ev_const, of_int, b_lss, h2, decide_false, ↓w_cond, ↓w_ret, retP_1, res_tmp, onS_some, ↓w_skip, ne_eq, Nat.reduceEqDiff, not_false_eq_true, upd_ne, onB_false]
      exact ⟨_, rfl, Ext.more _ _, fun _ => ⟨rfl, by omega⟩, by omega⟩
theorem toBoxS {H : AHeap} {x : AV} {l : List Bool} (hx : IsB H x l) (hl : l.length ≤ 1000000000) (i t : Int) (z : ByteArray) :
    ∃ (q : Nat) (Z : AHeap), Sound Try.prog 17 [bx i t z x] H (bx i t z (.sl q 0 l.length 1)) Z ∧ Ext H Z ∧ H.length ≤ q ∧ Z[q]? = some ⟨bools l, true, true⟩ := by
  suffices h : ∃ v Z, Sound Try.prog 17 [bx i t z x] H v Z ∧ ∃ q, v = bx i t z (.sl q 0 l.length 1) ∧ Ext H Z ∧ H.length ≤ q ∧ Z[q]? = some ⟨bools l, true, true⟩ by
    obtain ⟨v, Z, h1, q, rfl, h2⟩ := h
    exact ⟨q, Z, h1, h2⟩
  unfold bx
  refine Sound.runP (args := [.agg [.sc (.int .i64 i), .sc (.int .i64 t), .sc (.string z), x]]) 18 [.cell 2 35] Try.func17 rfl rfl rfl rfl (by simp) (fun v Z => ∃ q, v = .agg [.sc (.int .i64 i), .sc (.int .i64 t), .sc (.string z), .sl q 0 l.length 1] ∧ Ext H Z ∧ H.length ≤ q ∧ Z[q]? = some ⟨bools l, true, true⟩) ?_
  have x1 := hx.one
  simp -implicitDefEqProofs only [↓w_seq, ↓w_region, ↓ops_cons, ↓g_box, Nat.reduceLT, ev_tab, par0, cells_agg, ↓g_alloc, zero35, Option.map_some, ↓ops_nil, ↓g_fieldAddrT, ne_eq, Nat.reduceEqDiff, not_false_eq_true, upd_ne, upd_eq, ↓g_load, ↓g_store, alK_some, List.all_cons, one_int, one_str, one_nil, List.all_nil, Bool.and_self, fadr35_0, Nat.zero_add, fadr35_1, fadr35_2, onS_some, wr_def, tyOk9, cells9, tyOk3, cells3, hap_0, List.getElem?_cons_zero, wr_c, List.length_cons, List.length_nil, Nat.reduceAdd, Nat.reduceLeDiff, true_and, hset_0, List.set_cons_zero, onS_ite, List.append_assoc, List.cons_append, List.nil_append, List.length_append, x1, fadr32_0, fadr32_1, Nat.add_assoc, fadr32_2, fadr32_3, rd_def, tyOk30, agg30, cells30, agg9, agg3, rd_onec, List.getElem?_cons_succ, cells_int, and_self, ovr_m, ovr_n, over_s, hset_k, List.set_cons_succ, if_true, hap_k, cells_str]
  refine call1S (by simp -implicitDefEqProofs only [List.map_cons, Nat.reduceLT, ev_tab, upd_eq, List.map_nil] <;> rfl) (toBoolsS ((Ext.more H _).isB hx) hl) ?_
  simp -implicitDefEqProofs only [↓ops_cons, ↓g_fieldAddrT, List.length_append, List.length_cons, List.length_nil, Nat.zero_add, Nat.reduceAdd, Nat.reduceLT, ev_tab, ne_eq, Nat.reduceEqDiff, not_false_eq_true, upd_ne, upd_eq, fadr35_3, ↓g_store, List.append_assoc, List.cons_append, List.nil_append, ↓ops_nil, ↓w_seq, ↓w_region, ↓g_load, rd_def, tyOk35, agg35, cells35, wr_def, ↓w_ret, retP_1, res_cell, onS_some, tyOk30, cells30, hap_k, List.getElem?_cons_succ, List.getElem?_cons_zero, wr_c, cells_sl, Nat.le_refl, List.all_cons, one_sl, List.all_nil, Bool.and_self, and_self, over_s, ovr_m, ovr_n, hset_k, List.set_cons_succ, List.set_cons_zero, if_true, rd_aggc, List.drop_zero, List.take_succ_cons, List.take_zero, true_and, onS_ite, cells_agg, one_int, one_str]
  exact ⟨_, rfl, Ext.more _ _, by omega, hap_k _ _ 3⟩
theorem eqBoxS {H : AHeap} {x y : AV} {l : List Bool} (hx : IsB H x l) (hy : IsB H y l) (hl : l.length ≤ 1000000000) (i t : Int) (z : ByteArray) : ∃ Z : AHeap, Sound Try.prog 19 [bx i t z x, bx i t z y] H (.sc (.bool true)) Z ∧ Ext H Z := by
  suffices h : ∃ v Z, Sound Try.prog 19 [bx i t z x, bx i t z y] H v Z ∧ v = .sc (.bool true) ∧ Ext H Z by
    obtain ⟨v, Z, h1, rfl, h2⟩ := h
    exact ⟨Z, h1, h2⟩
  unfold bx
  refine Sound.runP (args := [.agg [.sc (.int .i64 i), .sc (.int .i64 t), .sc (.string z), x], .agg [.sc (.int .i64 i), .sc (.int .i64 t), .sc (.string z), y]]) 26 [.tmp 4] Try.func19 rfl rfl rfl rfl (by simp) (fun v Z => v = .sc (.bool true) ∧ Ext H Z) ?_
  have x1 := hx.one
  have y1 := hy.one
  simp -implicitDefEqProofs only [↓w_seq, ↓w_region, ↓ops_cons, ↓g_box, Nat.reduceLT, ev_tab, par0, cells_agg, ne_eq, Nat.reduceEqDiff, not_false_eq_true, upd_ne, par1, ↓g_assign, ↓ops_nil, ev_const, of_bool, ↓g_fieldAddrT, upd_eq, ↓g_load, ↓g_binOp, ↓w_cond, ↓w_ret, retP_1, res_tmp, onS_some, ↓w_skip, alK_some, List.all_cons, one_int, one_str, y1, List.all_nil, Bool.and_self, fadr35_0, Nat.zero_add, fadr35_1, fadr35_2, fadr35_3, rd_def, tyOk30, agg30, cells30, hap_0, List.getElem?_cons_zero, rd_onec, List.getElem?_cons_succ, tyOk9, agg9, cells9, tyOk3, agg3, cells3, true_and, x1, List.append_assoc, List.cons_append, List.nil_append, List.length_append, List.length_cons, List.length_nil, t_neq, beq_self_eq_true, Bool.not_true, onB_false, b_neq, decide_true]
  refine call1S (by simp -implicitDefEqProofs only [List.map_cons, Nat.reduceLT, ev_tab, ne_eq, Nat.reduceEqDiff, not_false_eq_true, upd_ne, upd_eq, List.map_nil] <;> rfl) (eqBoolsS ((Ext.more H _).isB hx) ((Ext.more H _).isB hy) hl) ?_
  simp -implicitDefEqProofs only [↓ops_cons, ↓g_unOp, Nat.reduceLT, ev_tab, upd_eq, u_not, Bool.not_true, Option.map_some, ↓ops_nil, ↓w_cond, ↓w_seq, ↓w_region, ↓g_assign, ↓w_ret, ev_const, of_bool, retP_1, res_tmp, onS_some, ↓w_skip, true_and, onB_false]
  exact Ext.more _ _
def okBx (i t : Int) (z : ByteArray) (n : Nat) : Prop := (0 ≤ i ∧ i ≤ 65535) ∧ (0 ≤ t ∧ t ≤ 4000) ∧ (z.size : Int) = t ∧ (n : Int) = t
theorem boxOkI {H : AHeap} {x : AV} {l : List Bool} (hx : IsB H x l) (i t : Int) (z : ByteArray) (b : Bool) (hb : b = true ↔ okBx i t z l.length) : ∃ Z : AHeap, Sound Try.prog 51 [bx i t z x] H (.sc (.bool b)) Z ∧ Ext H Z := by
  suffices h : ∃ v Z, Sound Try.prog 51 [bx i t z x] H v Z ∧ v = .sc (.bool b) ∧ Ext H Z by
    obtain ⟨v, Z, h1, rfl, h2⟩ := h
    exact ⟨Z, h1, h2⟩
  unfold bx
  refine Sound.runP (args := [.agg [.sc (.int .i64 i), .sc (.int .i64 t), .sc (.string z), x]]) 27 [.tmp 2] Try.func51 rfl rfl rfl rfl (by simp) (fun v Z => v = .sc (.bool b) ∧ Ext H Z) ?_
  have x1 := hx.one
  have lx := fun e => hx.len e
  by_cases h1 : 0 ≤ i ∧ i ≤ 65535
  · by_cases h2 : 0 ≤ t ∧ t ≤ 4000
    · by_cases h3 : (z.size : Int) = t
      · have hbe : b = decide ((l.length : Int) = t) := by
          by_cases h4 : (l.length : Int) = t
          · rw [decide_eq_true h4]
            exact hb.2 ⟨h1, h2, h3, h4⟩
          · rw [decide_eq_false h4]
            cases b with
            | false => rfl
            | true => exact absurd (hb.1 rfl).2.2.2 h4
        simp -implicitDefEqProofs only [↓w_seq, ↓w_region, ↓ops_cons, ↓g_box, Nat.reduceLT, ev_tab, par0, cells_agg, ↓g_assign, ↓ops_nil, ev_const, of_bool, ↓g_fieldAddrT, ne_eq, Nat.reduceEqDiff, not_false_eq_true, upd_ne, upd_eq, ↓g_load, alK_some, List.all_cons, one_int, one_str, x1, List.all_nil, Bool.and_self, fadr35_0, Nat.zero_add, onS_some, rd_def, tyOk3, agg3, cells3, hap_0, List.getElem?_cons_zero, rd_onec, true_and]
        refine call1 (by simp -implicitDefEqProofs only [List.map_cons, Nat.reduceLT, ev_tab, upd_eq, ev_const, of_int, List.map_nil] <;> rfl) (inI i 0 65535) ?_
        rw [decide_eq_true h1]
        simp -implicitDefEqProofs only [↓ops_cons, ↓g_move, Nat.reduceLT, ev_tab, upd_eq, yielded_tab, dstAt_s, dstAt_0, ybv_some, boolOf_b, ↓g_guard_t, ↓g_fieldAddrT, ne_eq, Nat.reduceEqDiff, not_false_eq_true, upd_ne, fadr35_1, Nat.zero_add, ↓g_load, onS_some, rd_def, tyOk3, agg3, cells3, hap_0, List.getElem?_cons_zero, rd_onec, List.getElem?_cons_succ]
        refine call1 (by simp -implicitDefEqProofs only [List.map_cons, Nat.reduceLT, ev_tab, upd_eq, ev_const, of_int, List.map_nil] <;> rfl) (inI t 0 4000) ?_
        rw [decide_eq_true h2]
        simp -implicitDefEqProofs only [↓ops_cons, ↓g_pick, Nat.reduceLT, ev_tab, ne_eq, Nat.reduceEqDiff, not_false_eq_true, upd_ne, upd_eq, ev_const, of_bool, pick_b, if_true, ↓g_move, onS_some, yielded_tab, dstAt_s, dstAt_0, ybv_some, boolOf_b, ↓g_guard_t, ↓g_fieldAddrT, fadr35_2, Nat.zero_add, ↓g_load, ↓g_len, Try.underlying9, fadr35_1, ↓g_binOp, rd_def, tyOk3, agg3, cells3, hap_0, List.getElem?_cons_zero, rd_onec, List.getElem?_cons_succ, tyOk9, agg9, cells9, len_str, h3, b_eql, decide_true, fadr35_3, Try.underlying30, ↓g_assign, ↓ops_nil, ↓w_ret, retP_1, res_tmp, tyOk30, agg30, cells30, lx]
        exact ⟨by rw [hbe], Ext.more _ _⟩
      · have hbf : b = false := by
          cases b with
          | false => rfl
          | true => exact absurd (hb.1 rfl).2.2.1 h3
        simp -implicitDefEqProofs only [↓w_seq, ↓w_region, ↓ops_cons, ↓g_box, Nat.reduceLT, ev_tab, par0, cells_agg, ↓g_assign, ↓ops_nil, ev_const, of_bool, ↓g_fieldAddrT, ne_eq, Nat.reduceEqDiff, not_false_eq_true, upd_ne, upd_eq, ↓g_load, alK_some, List.all_cons, one_int, one_str, x1, List.all_nil, Bool.and_self, fadr35_0, Nat.zero_add, onS_some, rd_def, tyOk3, agg3, cells3, hap_0, List.getElem?_cons_zero, rd_onec, true_and]
        refine call1 (by simp -implicitDefEqProofs only [List.map_cons, Nat.reduceLT, ev_tab, upd_eq, ev_const, of_int, List.map_nil] <;> rfl) (inI i 0 65535) ?_
        rw [decide_eq_true h1]
        simp -implicitDefEqProofs only [↓ops_cons, ↓g_move, Nat.reduceLT, ev_tab, upd_eq, yielded_tab, dstAt_s, dstAt_0, ybv_some, boolOf_b, ↓g_guard_t, ↓g_fieldAddrT, ne_eq, Nat.reduceEqDiff, not_false_eq_true, upd_ne, fadr35_1, Nat.zero_add, ↓g_load, onS_some, rd_def, tyOk3, agg3, cells3, hap_0, List.getElem?_cons_zero, rd_onec, List.getElem?_cons_succ]
        refine call1 (by simp -implicitDefEqProofs only [List.map_cons, Nat.reduceLT, ev_tab, upd_eq, ev_const, of_int, List.map_nil] <;> rfl) (inI t 0 4000) ?_
        rw [decide_eq_true h2]
        simp -implicitDefEqProofs only [↓ops_cons, ↓g_pick, Nat.reduceLT, ev_tab, ne_eq, Nat.reduceEqDiff, not_false_eq_true, upd_ne, upd_eq, ev_const, of_bool, pick_b, if_true, ↓g_move, onS_some, yielded_tab, dstAt_s, dstAt_0, ybv_some, boolOf_b, ↓g_guard_t, ↓g_fieldAddrT, fadr35_2, Nat.zero_add, ↓g_load, ↓g_len, Try.underlying9, fadr35_1, ↓g_binOp, rd_def, tyOk3, agg3, cells3, hap_0, List.getElem?_cons_zero, rd_onec, List.getElem?_cons_succ, tyOk9, agg9, cells9, len_str, b_eql, h3, decide_false, Bool.not_true, ↓g_guard_f, reduceCtorEq, if_false, ↓g_assign, ↓ops_nil, ↓w_ret, retP_1, res_tmp]
        exact ⟨by rw [hbf], Ext.more _ _⟩
    · have hbf : b = false := by
        cases b with
        | false => rfl
        | true => exact absurd (hb.1 rfl).2.1 h2
      simp -implicitDefEqProofs only [↓w_seq, ↓w_region, ↓ops_cons, ↓g_box, Nat.reduceLT, ev_tab, par0, cells_agg, ↓g_assign, ↓ops_nil, ev_const, of_bool, ↓g_fieldAddrT, ne_eq, Nat.reduceEqDiff, not_false_eq_true, upd_ne, upd_eq, ↓g_load, alK_some, List.all_cons, one_int, one_str, x1, List.all_nil, Bool.and_self, fadr35_0, Nat.zero_add, onS_some, rd_def, tyOk3, agg3, cells3, hap_0, List.getElem?_cons_zero, rd_onec, true_and]
      refine call1 (by simp -implicitDefEqProofs only [List.map_cons, Nat.reduceLT, ev_tab, upd_eq, ev_const, of_int, List.map_nil] <;> rfl) (inI i 0 65535) ?_
      rw [decide_eq_true h1]
      simp -implicitDefEqProofs only [↓ops_cons, ↓g_move, Nat.reduceLT, ev_tab, upd_eq, yielded_tab, dstAt_s, dstAt_0, ybv_some, boolOf_b, ↓g_guard_t, ↓g_fieldAddrT, ne_eq, Nat.reduceEqDiff, not_false_eq_true, upd_ne, fadr35_1, Nat.zero_add, ↓g_load, onS_some, rd_def, tyOk3, agg3, cells3, hap_0, List.getElem?_cons_zero, rd_onec, List.getElem?_cons_succ]
      refine call1 (by simp -implicitDefEqProofs only [List.map_cons, Nat.reduceLT, ev_tab, upd_eq, ev_const, of_int, List.map_nil] <;> rfl) (inI t 0 4000) ?_
      rw [decide_eq_false h2]
      simp -implicitDefEqProofs only [↓ops_cons, ↓g_pick, Nat.reduceLT, ev_tab, ne_eq, Nat.reduceEqDiff, not_false_eq_true, upd_ne, upd_eq, ev_const, of_bool, pick_b, if_true, ↓g_move, onS_some, yielded_tab, dstAt_s, dstAt_0, ybv_some, boolOf_b, Bool.not_true, ↓g_guard_f, reduceCtorEq, if_false, ↓g_assign, ↓ops_nil, ↓w_ret, retP_1, res_tmp]
      exact ⟨by rw [hbf], Ext.more _ _⟩
  · have hbf : b = false := by
      cases b with
      | false => rfl
      | true => exact absurd (hb.1 rfl).1 h1
    simp -implicitDefEqProofs only [↓w_seq, ↓w_region, ↓ops_cons, ↓g_box, Nat.reduceLT, ev_tab, par0, cells_agg, ↓g_assign, ↓ops_nil, ev_const, of_bool, ↓g_fieldAddrT, ne_eq, Nat.reduceEqDiff, not_false_eq_true, upd_ne, upd_eq, ↓g_load, alK_some, List.all_cons, one_int, one_str, x1, List.all_nil, Bool.and_self, fadr35_0, Nat.zero_add, onS_some, rd_def, tyOk3, agg3, cells3, hap_0, List.getElem?_cons_zero, rd_onec, true_and]
    refine call1 (by simp -implicitDefEqProofs only [List.map_cons, Nat.reduceLT, ev_tab, upd_eq, ev_const, of_int, List.map_nil] <;> rfl) (inI i 0 65535) ?_
    rw [decide_eq_false h1]
    simp -implicitDefEqProofs only [↓ops_cons, ↓g_move, Nat.reduceLT, ev_tab, upd_eq, yielded_tab, dstAt_s, dstAt_0, ybv_some, boolOf_b, Bool.not_true, ↓g_guard_f, ne_eq, Nat.reduceEqDiff, not_false_eq_true, upd_ne, ↓g_pick, ev_const, of_bool, pick_b, reduceCtorEq, if_false, onS_some, ↓g_assign, ↓ops_nil, ↓w_ret, retP_1, res_tmp]
    exact ⟨by rw [hbf], Ext.more _ _⟩
theorem boxOkS {H : AHeap} {x : AV} {l : List Bool} (hx : IsB H x l) (i t : Int) (z : ByteArray) (b : Bool) (hb : b = true ↔ okBx i t z l.length) : ∃ Z : AHeap, Sound Try.prog 49 [bx i t z x] H (.sc (.bool b)) Z ∧ Ext H Z := by
  suffices h : ∃ v Z, Sound Try.prog 49 [bx i t z x] H v Z ∧ v = .sc (.bool b) ∧ Ext H Z by
    obtain ⟨v, Z, h1, rfl, h2⟩ := h
    exact ⟨Z, h1, h2⟩
  unfold bx
  refine Sound.runP (args := [.agg [.sc (.int .i64 i), .sc (.int .i64 t), .sc (.string z), x]]) 27 [.tmp 2] Try.func49 rfl rfl rfl rfl (by simp) (fun v Z => v = .sc (.bool b) ∧ Ext H Z) ?_
  have x1 := hx.one
  have lx := fun e => hx.len e
  by_cases h1 : 0 ≤ i ∧ i ≤ 65535
  · by_cases h2 : 0 ≤ t ∧ t ≤ 4000
    · by_cases h3 : (z.size : Int) = t
      · have hbe : b = decide ((l.length : Int) = t) := by
          by_cases h4 : (l.length : Int) = t
          · rw [decide_eq_true h4]
            exact hb.2 ⟨h1, h2, h3, h4⟩
          · rw [decide_eq_false h4]
            cases b with
            | false => rfl
            | true => exact absurd (hb.1 rfl).2.2.2 h4
        simp -implicitDefEqProofs only [↓w_seq, ↓w_region, ↓ops_cons, ↓g_box, Nat.reduceLT, ev_tab, par0, cells_agg, ↓g_assign, ↓ops_nil, ev_const, of_bool, ↓g_fieldAddrT, ne_eq, Nat.reduceEqDiff, not_false_eq_true, upd_ne, upd_eq, ↓g_load, alK_some, List.all_cons, one_int, one_str, x1, List.all_nil, Bool.and_self, fadr35_0, Nat.zero_add, onS_some, rd_def, tyOk3, agg3, cells3, hap_0, List.getElem?_cons_zero, rd_onec, true_and]
        refine call1 (by simp -implicitDefEqProofs only [List.map_cons, Nat.reduceLT, ev_tab, upd_eq, ev_const, of_int, List.map_nil] <;> rfl) (inS i 0 65535) ?_
        rw [decide_eq_true h1]
        simp -implicitDefEqProofs only [↓ops_cons, ↓g_move, Nat.reduceLT, ev_tab, upd_eq, yielded_tab, dstAt_s, dstAt_0, ybv_some, boolOf_b, ↓g_guard_t, ↓g_fieldAddrT, ne_eq, Nat.reduceEqDiff, not_false_eq_true, upd_ne, fadr35_1, Nat.zero_add, ↓g_load, onS_some, rd_def, tyOk3, agg3, cells3, hap_0, List.getElem?_cons_zero, rd_onec, List.getElem?_cons_succ]
        refine call1 (by simp -implicitDefEqProofs only [List.map_cons, Nat.reduceLT, ev_tab, upd_eq, ev_const, of_int, List.map_nil] <;> rfl) (inS t 0 4000) ?_
        rw [decide_eq_true h2]
        simp -implicitDefEqProofs only [↓ops_cons, ↓g_pick, Nat.reduceLT, ev_tab, ne_eq, Nat.reduceEqDiff, not_false_eq_true, upd_ne, upd_eq, ev_const, of_bool, pick_b, if_true, ↓g_move, onS_some, yielded_tab, dstAt_s, dstAt_0, ybv_some, boolOf_b, ↓g_guard_t, ↓g_fieldAddrT, fadr35_2, Nat.zero_add, ↓g_load, ↓g_len, Try.underlying9, fadr35_1, ↓g_binOp, rd_def, tyOk3, agg3, cells3, hap_0, List.getElem?_cons_zero, rd_onec, List.getElem?_cons_succ, tyOk9, agg9, cells9, len_str, h3, b_eql, decide_true, fadr35_3, Try.underlying30, ↓g_assign, ↓ops_nil, ↓w_ret, retP_1, res_tmp, tyOk30, agg30, cells30, lx]
        exact ⟨by rw [hbe], Ext.more _ _⟩
      · have hbf : b = false := by
          cases b with
          | false => rfl
          | true => exact absurd (hb.1 rfl).2.2.1 h3
        simp -implicitDefEqProofs only [↓w_seq, ↓w_region, ↓ops_cons, ↓g_box, Nat.reduceLT, ev_tab, par0, cells_agg, ↓g_assign, ↓ops_nil, ev_const, of_bool, ↓g_fieldAddrT, ne_eq, Nat.reduceEqDiff, not_false_eq_true, upd_ne, upd_eq, ↓g_load, alK_some, List.all_cons, one_int, one_str, x1, List.all_nil, Bool.and_self, fadr35_0, Nat.zero_add, onS_some, rd_def, tyOk3, agg3, cells3, hap_0, List.getElem?_cons_zero, rd_onec, true_and]
        refine call1 (by simp -implicitDefEqProofs only [List.map_cons, Nat.reduceLT, ev_tab, upd_eq, ev_const, of_int, List.map_nil] <;> rfl) (inS i 0 65535) ?_
        rw [decide_eq_true h1]
        simp -implicitDefEqProofs only [↓ops_cons, ↓g_move, Nat.reduceLT, ev_tab, upd_eq, yielded_tab, dstAt_s, dstAt_0, ybv_some, boolOf_b, ↓g_guard_t, ↓g_fieldAddrT, ne_eq, Nat.reduceEqDiff, not_false_eq_true, upd_ne, fadr35_1, Nat.zero_add, ↓g_load, onS_some, rd_def, tyOk3, agg3, cells3, hap_0, List.getElem?_cons_zero, rd_onec, List.getElem?_cons_succ]
        refine call1 (by simp -implicitDefEqProofs only [List.map_cons, Nat.reduceLT, ev_tab, upd_eq, ev_const, of_int, List.map_nil] <;> rfl) (inS t 0 4000) ?_
        rw [decide_eq_true h2]
        simp -implicitDefEqProofs only [↓ops_cons, ↓g_pick, Nat.reduceLT, ev_tab, ne_eq, Nat.reduceEqDiff, not_false_eq_true, upd_ne, upd_eq, ev_const, of_bool, pick_b, if_true, ↓g_move, onS_some, yielded_tab, dstAt_s, dstAt_0, ybv_some, boolOf_b, ↓g_guard_t, ↓g_fieldAddrT, fadr35_2, Nat.zero_add, ↓g_load, ↓g_len, Try.underlying9, fadr35_1, ↓g_binOp, rd_def, tyOk3, agg3, cells3, hap_0, List.getElem?_cons_zero, rd_onec, List.getElem?_cons_succ, tyOk9, agg9, cells9, len_str, b_eql, h3, decide_false, Bool.not_true, ↓g_guard_f, reduceCtorEq, if_false, ↓g_assign, ↓ops_nil, ↓w_ret, retP_1, res_tmp]
        exact ⟨by rw [hbf], Ext.more _ _⟩
    · have hbf : b = false := by
        cases b with
        | false => rfl
        | true => exact absurd (hb.1 rfl).2.1 h2
      simp -implicitDefEqProofs only [↓w_seq, ↓w_region, ↓ops_cons, ↓g_box, Nat.reduceLT, ev_tab, par0, cells_agg, ↓g_assign, ↓ops_nil, ev_const, of_bool, ↓g_fieldAddrT, ne_eq, Nat.reduceEqDiff, not_false_eq_true, upd_ne, upd_eq, ↓g_load, alK_some, List.all_cons, one_int, one_str, x1, List.all_nil, Bool.and_self, fadr35_0, Nat.zero_add, onS_some, rd_def, tyOk3, agg3, cells3, hap_0, List.getElem?_cons_zero, rd_onec, true_and]
      refine call1 (by simp -implicitDefEqProofs only [List.map_cons, Nat.reduceLT, ev_tab, upd_eq, ev_const, of_int, List.map_nil] <;> rfl) (inS i 0 65535) ?_
      rw [decide_eq_true h1]
      simp -implicitDefEqProofs only [↓ops_cons, ↓g_move, Nat.reduceLT, ev_tab, upd_eq, yielded_tab, dstAt_s, dstAt_0, ybv_some, boolOf_b, ↓g_guard_t, ↓g_fieldAddrT, ne_eq, Nat.reduceEqDiff, not_false_eq_true, upd_ne, fadr35_1, Nat.zero_add, ↓g_load, onS_some, rd_def, tyOk3, agg3, cells3, hap_0, List.getElem?_cons_zero, rd_onec, List.getElem?_cons_succ]
      refine call1 (by simp -implicitDefEqProofs only [List.map_cons, Nat.reduceLT, ev_tab, upd_eq, ev_const, of_int, List.map_nil] <;> rfl) (inS t 0 4000) ?_
      rw [decide_eq_false h2]
      simp -implicitDefEqProofs only [↓ops_cons, ↓g_pick, Nat.reduceLT, ev_tab, ne_eq, Nat.reduceEqDiff, not_false_eq_true, upd_ne, upd_eq, ev_const, of_bool, pick_b, if_true, ↓g_move, onS_some, yielded_tab, dstAt_s, dstAt_0, ybv_some, boolOf_b, Bool.not_true, ↓g_guard_f, reduceCtorEq, if_false, ↓g_assign, ↓ops_nil, ↓w_ret, retP_1, res_tmp]
      exact ⟨by rw [hbf], Ext.more _ _⟩
  · have hbf : b = false := by
      cases b with
      | false => rfl
      | true => exact absurd (hb.1 rfl).1 h1
    simp -implicitDefEqProofs only [↓w_seq, ↓w_region, ↓ops_cons, ↓g_box, Nat.reduceLT, ev_tab, par0, cells_agg, ↓g_assign, ↓ops_nil, ev_const, of_bool, ↓g_fieldAddrT, ne_eq, Nat.reduceEqDiff, not_false_eq_true, upd_ne, upd_eq, ↓g_load, alK_some, List.all_cons, one_int, one_str, x1, List.all_nil, Bool.and_self, fadr35_0, Nat.zero_add, onS_some, rd_def, tyOk3, agg3, cells3, hap_0, List.getElem?_cons_zero, rd_onec, true_and]
    refine call1 (by simp -implicitDefEqProofs only [List.map_cons, Nat.reduceLT, ev_tab, upd_eq, ev_const, of_int, List.map_nil] <;> rfl) (inS i 0 65535) ?_
    rw [decide_eq_false h1]
    simp -implicitDefEqProofs only [↓ops_cons, ↓g_move, Nat.reduceLT, ev_tab, upd_eq, yielded_tab, dstAt_s, dstAt_0, ybv_some, boolOf_b, Bool.not_true, ↓g_guard_f, ne_eq, Nat.reduceEqDiff, not_false_eq_true, upd_ne, ↓g_pick, ev_const, of_bool, pick_b, reduceCtorEq, if_false, onS_some, ↓g_assign, ↓ops_nil, ↓w_ret, retP_1, res_tmp]
    exact ⟨by rw [hbf], Ext.more _ _⟩
end Go.Proofs.Ytheeehbaholjmaa.Sim

