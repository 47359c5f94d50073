/- A block of ChaCha20, as the program makes it. -/
import Derived.Test.YtbmadanfpicmiaaFChaBlk
import Derived.Test.YtbmadanfpicmiaaFFnExactQuarterTurn
namespace Go.Proofs.Ytbmadanfpicmiaa.Sim
open Go
set_option maxRecDepth 100000
set_option maxHeartbeats 4000000
set_option linter.unusedSimpArgs false
set_option linter.unusedVariables false
theorem wordsW {H : AHeap} {x : AV} {l : List Int} (n : Int) (hw : Wd l) (hx : IsL H x .i64 l) (hl : l.length ≤ 1000000000000) : Sound Try.prog 46 [x, .sc (.int .i64 n)] H (.sc (.bool (decide ((l.length : Int) = n)))) H := by
  refine Sound.run 21 [.tmp 4] Try.func46 rfl rfl rfl rfl (by simp) ?_
  have lx := fun e => hx.len e
  simp -implicitDefEqProofs only [↓w_seq, ↓w_region, ↓ops_cons, ↓g_assign, ↓ops_nil, ev_const, of_bool, ↓g_move, ↓g_len, Try.underlying26, Nat.reduceLT, ev_tab, ne_eq, reduceCtorEq, not_false_eq_true, upd_ne, par0, upd_eq, lx, ↓w_block, of_int, onS_some]
  refine w_loop (ι := Nat) (fun i s => ∃ T : Nat → AV, s = ⟨tab 21 T, H⟩ ∧ i ≤ l.length ∧ T 0 = x ∧ T 1 = .sc (.int .i64 n) ∧ T 7 = x ∧ T 8 = .sc (.int .i64 l.length) ∧ T 9 = .sc (.int .i64 i)) (fun i => l.length - i) ?_ (i := 0) ?_
  · rintro i s ⟨T, rfl, a1, a2, a3, a4, a5, a6⟩
    by_cases h : i < l.length
    · have k1 : (i : Int) < l.length := by omega
      have k2 : (0 : Int) ≤ i := by omega
      obtain ⟨r, o, rfl, hr⟩ := hx.get (i := i) h
      have e1 : IntKind.i64.wrap ((i : Int) + 1) = i + 1 := w64 (by omega) (by omega)
      have hwi := hw i
      simp -implicitDefEqProofs only [↓w_seq, ↓w_region, ↓ops_cons, ↓g_binOp, Nat.reduceLT, ev_tab, a6, a5, b_lss, k1, decide_true, ↓ops_nil, ↓w_cond, upd_eq, ↓w_skip, ↓w_block, ↓g_indexAddr, Try.underlying26, ne_eq, Nat.reduceEqDiff, not_false_eq_true, upd_ne, a4, adr_sl, k2, cells3, tyOk3, and_self, Int.toNat_natCast, Nat.mul_one, Nat.zero_add, if_true, ↓g_load, ↓g_assign, ↓g_move, onS_some, rd_def, agg3, hr, rd_ints, h, ↓w_exit, ↓g_len, reduceCtorEq, a2, len_sl, a3, ↓w_ret, ret_one, and_true, b_eql, onB_true]
      refine call1 (by simp -implicitDefEqProofs only [List.map_cons, Nat.reduceLT, ev_tab, upd_eq, ev_const, of_int, List.map_nil] <;> rfl) (inI _ 0 4294967295) ?_
      have e2 : decide (0 ≤ l.getD i 0 ∧ l.getD i 0 ≤ 4294967295) = true := decide_eq_true (by omega)
      rw [e2]
      simp -implicitDefEqProofs only [↓ops_cons, ↓g_unOp, Nat.reduceLT, ev_tab, upd_eq, u_not, Bool.not_true, Option.map_some, ↓ops_nil, ↓w_cond, ↓w_seq, ↓w_region, ↓g_assign, ↓w_ret, ev_const, of_bool, ret_one, and_true, ↓w_skip, ↓g_binOp, ne_eq, Nat.reduceEqDiff, not_false_eq_true, upd_ne, a6, of_int, b_add, e1, ↓g_move, onS_some, onB_false]
      refine ⟨i + 1, by omega, _, rfl, by omega, ?_, ?_, ?_, ?_, ?_⟩ <;> simp -implicitDefEqProofs only [ne_eq, reduceCtorEq, not_false_eq_true, upd_ne, a2, Nat.reduceEqDiff, a3, a4, a5, upd_eq] <;> rfl
    · have k1 : ¬ (i : Int) < l.length := by omega
      simp -implicitDefEqProofs only [↓w_seq, ↓w_region, ↓ops_cons, ↓g_binOp, Nat.reduceLT, ev_tab, a6, a5, b_lss, k1, decide_false, ↓ops_nil, ↓w_cond, upd_eq, ↓w_skip, ↓w_block, ↓g_indexAddr, Try.underlying26, ne_eq, Nat.reduceEqDiff, not_false_eq_true, upd_ne, a4, ↓g_load, ↓g_assign, ↓g_move, ↓w_exit, ↓g_len, reduceCtorEq, a2, lx, a3, ↓w_ret, ret_one, and_true, onS_some, b_eql, if_true, onB_false]
  · refine ⟨_, rfl, by omega, ?_, ?_, ?_, ?_, ?_⟩ <;> simp -implicitDefEqProofs only [ne_eq, reduceCtorEq, not_false_eq_true, upd_ne, par0, Nat.reduceEqDiff, par1, upd_eq, Int.cast_ofNat_Int] <;> rfl
def plc : List Int := [0, 4, 8, 12, 1, 5, 9, 13, 2, 6, 10, 14, 3, 7, 11, 15, 0, 5, 10, 15, 1, 6, 11, 12, 2, 7, 8, 13, 3, 4, 9, 14]
theorem plc_at (j : Nat) (h : j < 8) : (plc.drop (j * 4)).take 4 = [((j % 4 : Nat) : Int), ((plB j : Nat) : Int), ((plC j : Nat) : Int), ((plD j : Nat) : Int)] := by
  match j, h with
  | 0, _ => rfl
  | 1, _ => rfl
  | 2, _ => rfl
  | 3, _ => rfl
  | 4, _ => rfl
  | 5, _ => rfl
  | 6, _ => rfl
  | 7, _ => rfl
theorem pl_ne (j : Nat) : j % 4 ≠ plB j ∧ j % 4 ≠ plC j ∧ j % 4 ≠ plD j ∧ plB j ≠ plC j ∧ plB j ≠ plD j ∧ plC j ≠ plD j ∧ j % 4 < 16 ∧ plB j < 16 ∧ plC j < 16 ∧ plD j < 16 := by
  unfold plB plC plD
  omega
/-- The first words laid. -/
def put4 (x q : List Int) (a b c d : Nat) : Nat → List Int
  | 0 => x
  | 1 => x.set a (q.getD 0 0)
  | 2 => (x.set a (q.getD 0 0)).set b (q.getD 1 0)
  | 3 => ((x.set a (q.getD 0 0)).set b (q.getD 1 0)).set c (q.getD 2 0)
  | _ => (((x.set a (q.getD 0 0)).set b (q.getD 1 0)).set c (q.getD 2 0)).set d (q.getD 3 0)
theorem put4_len (x q : List Int) (a b c d : Nat) : ∀ i, (put4 x q a b c d i).length = x.length
  | 0 => rfl
  | 1 => by simp [put4]
  | 2 => by simp [put4]
  | 3 => by simp [put4]
  | _ + 4 => by simp [put4]
theorem put4_s (x q : List Int) (a b c d i : Nat) (h : i < 4) : (put4 x q a b c d i).set (([a, b, c, d] : List Nat).getD i 0) (q.getD i 0) = put4 x q a b c d (i + 1) := by
  match i, h with
  | 0, _ => rfl
  | 1, _ => rfl
  | 2, _ => rfl
  | 3, _ => rfl
theorem wd_mod {l : List Int} (h : Wd l) (i : Nat) : l.getD i 0 % 4294967296 = l.getD i 0 := by
  have := h i
  omega
theorem set_end (G : AHeap) (g h : Reg) : (G ++ [g]).set G.length h = G ++ [h] := by simp
theorem cast4 (a b c d i : Nat) (h : i < 4) : ([(a : Int), (b : Int), (c : Int), (d : Int)] : List Int).getD i 0 = ((([a, b, c, d] : List Nat).getD i 0 : Nat) : Int) := by
  match i, h with
  | 0, _ => rfl
  | 1, _ => rfl
  | 2, _ => rfl
  | 3, _ => rfl
theorem all4 (a b c d i m : Nat) (h : i < 4) (ha : a < m) (hb : b < m) (hc : c < m) (hd : d < m) : ([a, b, c, d] : List Nat).getD i 0 < m := by
  match i, h with
  | 0, _ => exact ha
  | 1, _ => exact hb
  | 2, _ => exact hc
  | 3, _ => exact hd
theorem chaBlkI0 (own : Bool) (l : List Int) (hl : l.length = 16) (hw : Wd l) : ∃ v Z, Sound Try.prog 19 [.sl 0 0 16 1] [⟨ints .i64 l, own, true⟩] v Z ∧ (v = .sc (.string (chaBlk l)) ∧ Z[0]? = some ⟨ints .i64 l, own, true⟩) := by
  refine Sound.runP (args := [.sl 0 0 16 1]) 89 [.tmp 2] Try.func19 rfl rfl rfl rfl (by simp) (fun v Z => v = .sc (.string (chaBlk l)) ∧ Z[0]? = some ⟨ints .i64 l, own, true⟩) ?_
  have k0 : ∀ j : Nat, (0 : Int) ≤ (j : Int) := fun j => by omega
  have ht : l.take 16 = l := List.take_of_length_le (by omega)
  simp -implicitDefEqProofs only [↓w_seq, ↓w_region, ↓ops_cons, ↓g_assign, ↓ops_nil, ev_const, of_str, ↓g_move, Nat.reduceLT, ev_tab, ne_eq, reduceCtorEq, not_false_eq_true, upd_ne, par0]
  have hW := wordsW (H := [⟨ints .i64 l, own, true⟩]) (x := .sl 0 0 16 1) 16 hw (.at rfl hl) (by omega)
  have hd : decide ((l.length : Int) = 16) = true := decide_eq_true (by omega)
  rw [hd] at hW
  refine call1S (by simp -implicitDefEqProofs only [List.map_cons, Nat.reduceLT, ev_tab, upd_eq, ev_const, of_int, List.map_nil] <;> rfl) hW ?_
  simp -implicitDefEqProofs only [↓ops_cons, ↓g_unOp, Nat.reduceLT, ev_tab, upd_eq, u_not, Bool.not_true, Option.map_some, ↓ops_nil, ↓w_cond, ↓w_seq, ↓w_region, ↓g_assign, ↓w_ret, ev_const, of_str, retP_1, res_tmp, List.getElem?_cons_zero, and_true, onS_some, ↓w_skip, ↓g_buildV, List.map_cons, of_int, List.map_nil, bd64, ne_eq, Nat.reduceEqDiff, not_false_eq_true, upd_ne, ↓g_alloc, zero65, ↓g_store, ↓g_buildSlice, Try.underlying26, bs3_0, ↓g_move, ↓g_append, reduceCtorEq, par0, ↓w_block, alK_some, ints_one, apS26, at_end, src_sl, true_and, List.length_cons, List.length_nil, Nat.zero_add, List.cons_append, List.nil_append, wr_def, tyOk65, cells65, List.getElem?_cons_succ, onB_false]
  refine onS_of (v := .agg (ints .i64 plc)) (by kernel_rfl) ?_
  have hpl : plc.length = 32 := rfl
  simp -implicitDefEqProofs only [hpl, List.length_replicate, wrA, List.set_cons_succ, List.set_cons_zero, onS_some, List.cons_append, List.nil_append, List.length_cons, List.length_nil, Nat.zero_add, Nat.reduceAdd, List.getElem?_cons_zero, at_ints, hl, Nat.le_refl, List.drop_zero, ht, if_true, ap_ints, Nat.reduceMul, Nat.reduceLeDiff, and_self, kill_s, kill_0, List.take_zero]
  refine w_loop (ι := Nat) (fun n s => ∃ (T : Nat → AV) (G : AHeap), s = ⟨tab 89 T, ⟨ints .i64 l, own, true⟩ :: ⟨ints .i64 plc, true, true⟩ :: ⟨ints .i64 [], true, false⟩ :: ⟨ints .i64 (dbl l n), true, true⟩ :: G⟩ ∧ n ≤ 10 ∧ T 0 = .sl 0 0 16 1 ∧ T 3 = .ptr 1 0 ∧ T 4 = .sl 3 0 16 1 ∧ T 28 = .sc (.int .i64 n)) (fun n => 10 - n) ?_ (i := 0) ?_
  · rintro n s ⟨T, G, rfl, b1, b2, b3, b4, b5⟩
    have hdl : (dbl l n).length = 16 := by rw [dbl_len, hl]
    have hdw := dbl_wd hw n
    by_cases hn : n < 10
    · have k2 : (n : Int) < 10 := by omega
      have e1 : IntKind.i64.wrap ((n : Int) + 1) = n + 1 := w64 (by omega) (by omega)
      simp -implicitDefEqProofs only [↓w_seq, ↓w_region, ↓ops_cons, ↓g_binOp, Nat.reduceLT, ev_tab, b5, ev_const, of_int, b_lss, k2, decide_true, ↓ops_nil, ↓w_cond, upd_eq, ↓w_skip, ↓w_block, ↓g_load, ne_eq, Nat.reduceEqDiff, not_false_eq_true, upd_ne, b3, rd_def, tyOk65, agg65, cells65, List.getElem?_cons_succ, List.getElem?_cons_zero, hpl, rdA, ↓g_move, onS_some, ↓w_exit, ↓g_assign, of_str, ↓g_len, Try.underlying26, b4, len_sl, Int.cast_ofNat_Int, if_true, onB_true]
      refine w_loop (ι := Nat) (fun j s => ∃ (T : Nat → AV) (G : AHeap), s = ⟨tab 89 T, ⟨ints .i64 l, own, true⟩ :: ⟨ints .i64 plc, true, true⟩ :: ⟨ints .i64 [], true, false⟩ :: ⟨ints .i64 (qts (dbl l n) j), true, true⟩ :: G⟩ ∧ j ≤ 8 ∧ T 0 = .sl 0 0 16 1 ∧ T 3 = .ptr 1 0 ∧ T 4 = .sl 3 0 16 1 ∧ T 28 = .sc (.int .i64 n) ∧ T 30 = .agg (ints .i64 plc) ∧ T 31 = .sc (.int .i64 j)) (fun j => 8 - j) ?_ (i := 0) ?_
      · rintro j s ⟨T, G, rfl, c1, c2, c3, c4, c5, c6, c7⟩
        have hql : (qts (dbl l n) j).length = 16 := by rw [qts_len, hdl]
        have hqw := qts_wd hdw j
        by_cases hj : j < 8
        · have k3 : (j : Int) < 8 := by omega
          have f0 : IntKind.i64.wrap ((j : Int) + 1) = j + 1 := w64 (by omega) (by omega)
          have hp := plc_at j hj
          have hp32 : plc.length = 8 * 4 := rfl
          obtain ⟨n1, n2, n3, n4, n5, n6, m1, m2, m3, m4⟩ := pl_ne j
          have hq := qtr_set (qts (dbl l n) j) (j % 4) (plB j) (plC j) (plD j) (by omega) (by omega) (by omega) (by omega) n1 n2 n3 n4 n5 n6
          have hI := qI ((qts (dbl l n) j).getD (j % 4) 0) ((qts (dbl l n) j).getD (plB j) 0) ((qts (dbl l n) j).getD (plC j) 0) ((qts (dbl l n) j).getD (plD j) 0)
          rw [q4, wd_mod hqw, wd_mod hqw, wd_mod hqw, wd_mod hqw] at hI
          have hqs : qts (dbl l n) (j + 1) = qtr (qts (dbl l n) j) (j % 4) (plB j) (plC j) (plD j) := rfl
          have hq4 : (qtr [(qts (dbl l n) j).getD (j % 4) 0, (qts (dbl l n) j).getD (plB j) 0, (qts (dbl l n) j).getD (plC j) 0, (qts (dbl l n) j).getD (plD j) 0] 0 1 2 3).length = 4 := by rw [qtr_len]; rfl
          generalize qtr [(qts (dbl l n) j).getD (j % 4) 0, (qts (dbl l n) j).getD (plB j) 0, (qts (dbl l n) j).getD (plC j) 0, (qts (dbl l n) j).getD (plD j) 0] 0 1 2 3 = q at *
          have i1 : ((j % 4 : Nat) : Int) < 16 := by omega
          have i2 : ((plB j : Nat) : Int) < 16 := by omega
          have i3 : ((plC j : Nat) : Int) < 16 := by omega
          have i4 : ((plD j : Nat) : Int) < 16 := by omega
          generalize hxq : qts (dbl l n) j = x at *
          simp -implicitDefEqProofs only [↓w_seq, ↓w_region, ↓ops_cons, ↓g_binOp, Nat.reduceLT, ev_tab, c7, ev_const, of_int, b_lss, k3, decide_true, ↓ops_nil, ↓w_cond, upd_eq, ↓w_skip, ↓w_block, ↓g_index, Try.underlying65, ne_eq, Nat.reduceEqDiff, not_false_eq_true, upd_ne, c6, hp32, Nat.reduceMul, ix65, k0, and_self, Int.toNat_natCast, hp, if_true, ↓g_alloc, zero64, Option.map_some, ↓g_store, alK_some, ints_one, List.length_cons, List.cons_append, wr_def, tyOk64, cells64, List.getElem?_cons_succ, at_end, true_and, onS_some, List.length_nil, Nat.zero_add, Nat.reduceAdd, List.length_replicate, wrA, List.set_cons_succ, set_end, ↓w_exit, c5, b_add, ↓g_move, reduceCtorEq, ↓g_assign, of_str, ↓g_len, Try.underlying26, c4, len_sl, Int.cast_ofNat_Int, if_false, onB_true]
          refine drawn [(2, 0), (4, 0), (7, 0), (9, 0), (12, 0), (14, 0), (17, 0), (19, 0)] follows (by kernel_rfl) (by kernel_rfl) ?_
          simp -implicitDefEqProofs only [↓dops_cons, ↓g_move, ↓g_indexAddr, Try.underlying64, Nat.reduceLT, ev_tab, ne_eq, Nat.reduceEqDiff, not_false_eq_true, upd_ne, c4, upd_eq, ev_const, of_int, adr_arr, Int.reduceLE, Int.cast_ofNat_Int, Int.reduceLT, tyOk3, and_self, Int.toNat_zero, cells3, Nat.mul_one, Nat.zero_add, if_true, ↓g_load, Try.underlying26, Int.reduceToNat, onS_some, rd_def, agg3, List.getElem?_cons_succ, at_end, rd_ints, List.length_cons, List.length_nil, Nat.reduceAdd, List.getD_cons_succ, List.getD_cons_zero, adr_sl, k0, i4, Int.toNat_natCast, List.getElem?_cons_zero, hql, m4, i3, m3, i2, m2, i1, m1]
          refine call1L (by simp -implicitDefEqProofs only [List.map_cons, Nat.reduceLT, ev_tab, ne_eq, Nat.reduceEqDiff, not_false_eq_true, upd_ne, upd_eq, List.map_nil] <;> rfl) hI ?_
          simp -implicitDefEqProofs only [↓dops_cons, ↓g_assign, ↓dops_p, List.length_cons, List.length_append, List.length_nil, Nat.zero_add, hq4, Nat.reduceLT, ev_tab, upd_eq, List.cons_append, ↓w_seq, ↓w_region, ↓ops_cons, ↓g_move, ↓g_len, Try.underlying26, len_sl, Int.cast_ofNat_Int, ↓ops_nil, ↓w_block, ev_const, of_int, onS_some]
          refine ⟨pairs_cons (same_H rfl) (pairs_cons (same_H rfl) (pairs_cons (same_H rfl) (pairs_cons (same_H rfl) (pairs_cons (same_H rfl) (pairs_cons (same_H rfl) (pairs_cons (same_H rfl) (pairs_cons (same_H rfl) (pairs_nil)))))))), ?_⟩
          try simp -implicitDefEqProofs only [↓w_seq, ↓w_skip, ↓w_ret, ↓w_exit, ↓w_block, ↓w_cond, ↓w_region, ↓ops_nil, ↓ops_cons, ↓dops_0, ↓dops_p, ↓dops_cons, ↓g_move, ↓g_assign, ↓g_binOp, ↓g_unOp, ↓g_pick, ↓g_len, ↓g_index, ↓g_indexAddr, ↓g_slice, ↓g_convert, ↓g_load, ↓g_store, ↓g_extract, ↓g_nilCheck, ↓g_fieldT, ↓g_fieldAddrT, of_agg, rd_aggc, rd_onec, wr_c, cells_int, cells_str, cells_bool, cells_nil, cells_sl, cells_ptr, cells_agg, one_int, one_str, one_bool, one_nil, one_sl, one_ptr, over_0, over_s, List.all_cons, List.all_nil, Bool.and_true, Bool.and_self, List.getElem?_nil, List.drop_succ_cons, List.drop_nil, ↓g_guard_t, ↓g_guard_f, ↓g_alloc, ↓g_box, ↓g_buildSlice, ↓g_makeSlice, ↓g_buildV, rdA, wrA, ints_one, List.length_replicate, bools_one, strs_one, rd_bools, rd_strs, wr_bools, wr_strs, at_bools, at_strs, ap_bools, ap_boolsN, ap_strs, ap_strsN, ↓g_append, src_sl, src_nil, src_str, ap_ints, ap_intsN, kill_len, kill_0, kill_s, bnd_none, bnd_int, cut_str, cutS_some, cut_sl, cutL_some, bits_i64, bits_u32, bits_u8, List.getD_cons_zero, List.getD_cons_succ, at_end, at_a, at_b, yielded_tab, dstAt_0, dstAt_s, ybv_some, boolOf_b, ext_0, ext_1, ext_2, ext_3, alK_some, ev_tab, ev_const, upd_eq, upd_ne, par0, par1, par2, par3, par4, par5, of_int, of_str, of_bool, len_str, len_arr, len_sl, idx_str, adr_sl, adr_arr, c_int, c_str, c_bytes, c_text, pick_b, onS_some, onS_ite, onS_not, b_add, b_sub, b_mul, b_and, b_or, b_xor, b_eql, b_neq, b_lss, b_leq, b_gtr, b_geq, b_shl, b_shr, b_quo, b_rem, t_add, t_eql, t_neq, v_eql, v_neq, b_andNot, u_not, onB_true, onB_false, onB_dec, onB_not, ret_cell, ret_ct, retP_0, retP_1, retP_2, retP_3, res_tmp, res_cell, ret_one, ret_two, ret_three, ret_none, List.set_set, if_true, if_false, ite_true, ite_false, List.map_cons, List.map_nil, Option.map_some, Option.map_none, List.toList_toArray, rd_def, rd_ints, wr_def, wr_ints, at_def, at_ints, bytes_ints, bytesA_ints, ints_set, nums_len, List.length_nil, List.length_cons, List.length_set, List.length_append, List.nil_append, List.cons_append, List.getElem?_cons_zero, List.getElem?_cons_succ, List.set_cons_zero, List.set_cons_succ, List.drop_zero, List.take_succ_cons, List.take_zero, List.take_length, Option.bind_some, true_and, and_true, Nat.zero_add, Nat.mul_one, Int.toNat_zero, Int.reduceToNat, Int.reduceAdd, Int.reduceSub, Int.reduceMul, Int.reduceNeg, Nat.reduceAdd, Nat.reduceSub, Nat.reduceMul, Nat.reducePow, Nat.min_eq_left, Int.reducePow, Nat.le_refl, Int.cast_ofNat_Int, Nat.reduceLT, Nat.reduceLeDiff, Nat.reduceEqDiff, Int.reduceLE, Int.reduceLT, Int.reduceEq, ne_eq, not_false_eq_true, not_true_eq_false, reduceCtorEq, decide_true, decide_false, and_self, and_false, false_and, Bool.not_true, Bool.not_false, Try.underlying0, Try.underlying1, Try.underlying2, Try.underlying3, Try.underlying4, Try.underlying5, Try.underlying6, Try.underlying7, Try.underlying8, Try.underlying9, Try.underlying10, Try.underlying11, Try.underlying12, Try.underlying13, Try.underlying14, Try.underlying15, Try.underlying16, Try.underlying17, Try.underlying18, Try.underlying19, Try.underlying20, Try.underlying21, Try.underlying22, Try.underlying23, Try.underlying24, Try.underlying25, Try.underlying26, Try.underlying27, Try.underlying28, Try.underlying29, Try.underlying30, Try.underlying31, Try.underlying32, Try.underlying33, Try.underlying34, Try.underlying35, Try.underlying36, Try.underlying37, Try.underlying38, Try.underlying39, Try.underlying40, Try.underlying41, Try.underlying42, Try.underlying43, Try.underlying44, Try.underlying45, Try.underlying46, Try.underlying47, Try.underlying48, Try.underlying49, Try.underlying50, Try.underlying51, Try.underlying52, Try.underlying53, Try.underlying54, Try.underlying55, Try.underlying56, Try.underlying57, Try.underlying58, Try.underlying59, Try.underlying60, Try.underlying61, Try.underlying62, Try.underlying63, Try.underlying64, Try.underlying65, Try.underlying66, Try.underlying67, Try.underlying68, Try.underlying69, Try.underlying70, Try.underlying71, Try.underlying72, Try.underlying73, Try.underlying74, Try.underlying75, Try.underlying76, Try.underlying77, Try.underlying78, Try.underlying79, Try.underlying80, Try.underlying81, Try.underlying82, Try.underlying83, Try.underlying84, Try.underlying85, Try.underlying86, Try.underlying87, Try.underlying88, Try.underlying89, Try.underlying90, Try.underlying91, Try.underlying92, Try.underlying93, tyOk0, agg0, cells0, tyOk1, agg1, cells1, tyOk2, agg2, cells2, zero2, info2, mk2, bs2_0, bs2_1, bs2_2, bs2_3, bs2_4, bs2_5, bs2_6, bs2_7, bs2_8, bs2_10, bs2_11, bs2_12, bs2_13, tyOk3, agg3, cells3, zero3, apS26, apN26, info3, mk3, bs3_0, bs3_1, bs3_2, bs3_3, bs3_4, bs3_5, bs3_6, bs3_7, bs3_8, bs3_10, bs3_11, bs3_12, bs3_13, tyOk4, agg4, cells4, zero4, info4, mk4, bs4_0, bs4_1, bs4_2, tyOk5, agg5, cells5, isU5, zero5, apS22, apN22, apStr22, info5, mk5, bs5_0, bs5_1, bs5_2, bs5_3, bs5_4, bs5_5, bs5_6, bs5_7, bs5_8, bs5_10, bs5_11, bs5_12, bs5_13, tyOk6, agg6, cells6, isU6, zero6, info6, mk6, bs6_0, bs6_1, bs6_2, bs6_3, bs6_4, bs6_5, bs6_6, bs6_7, bs6_8, bs6_10, bs6_11, bs6_12, bs6_13, tyOk7, agg7, cells7, zero7, fadr7_0, fld7_0, fadr7_1, fld7_1, fadr7_2, fld7_2, fadr7_3, fld7_3, bz7, bds7, tyOk8, agg8, cells8, zero8, fadr8_0, fld8_0, fadr8_1, fld8_1, fadr8_2, fld8_2, fadr8_3, fld8_3, bz8, bds8, tyOk9, agg9, cells9, zero9, info9, bs9_0, bs9_1, bs9_2, bs9_3, bs9_4, bs9_5, bs9_6, bs9_8, bs9_9, bs9_10, apS76, apN76, tyOk10, agg10, cells10, zero10, info10, bs10_0, bs10_1, bs10_2, bs10_3, bs10_4, bs10_5, bs10_6, bs10_8, bs10_9, bs10_10, tyOk11, agg11, cells11, zero11, info11, bs11_0, bs11_1, bs11_2, bs11_3, bs11_4, bs11_5, bs11_6, bs11_8, bs11_9, bs11_10, tyOk12, agg12, cells12, zero12, info12, mk12, bs12_0, bs12_1, bs12_2, bs12_3, bs12_4, bs12_5, bs12_6, bs12_7, bs12_8, bs12_10, bs12_11, bs12_12, bs12_13, tyOk13, agg13, cells13, zero13, fadr13_0, fld13_0, fadr13_1, fld13_1, bz13, bds13, tyOk14, agg14, cells14, zero14, fadr14_0, fld14_0, fadr14_1, fld14_1, bz14, bds14, tyOk15, agg15, cells15, zero15, tyOk16, agg16, cells16, zero16, tyOk17, agg17, cells17, zero17, tyOk18, agg18, cells18, zero18, fadr18_0, fld18_0, bz18, bds18, tyOk19, agg19, cells19, zero19, fadr19_0, fld19_0, bz19, bds19, tyOk20, agg20, cells20, tyOk21, agg21, cells21, zero21, info21, mk21, bs21_0, bs21_1, bs21_2, bs21_3, bs21_4, bs21_5, bs21_6, bs21_7, bs21_8, bs21_10, bs21_11, bs21_12, bs21_13, tyOk22, agg22, cells22, zero22, tyOk23, agg23, cells23, tyOk24, agg24, cells24, tyOk25, agg25, cells25, tyOk26, agg26, cells26, zero26, tyOk27, agg27, cells27, tyOk28, agg28, cells28, tyOk29, agg29, cells29, tyOk30, agg30, cells30, tyOk31, agg31, cells31, tyOk32, agg32, cells32, tyOk33, agg33, cells33, tyOk34, agg34, cells34, tyOk35, agg35, cells35, tyOk36, agg36, cells36, tyOk37, agg37, cells37, tyOk38, agg38, cells38, tyOk39, agg39, cells39, tyOk40, agg40, cells40, tyOk41, agg41, cells41, tyOk42, agg42, cells42, tyOk43, agg43, cells43, tyOk44, agg44, cells44, tyOk45, agg45, cells45, tyOk46, agg46, cells46, tyOk47, agg47, cells47, tyOk48, agg48, cells48, tyOk49, agg49, cells49, tyOk50, agg50, cells50, tyOk51, agg51, cells51, tyOk52, agg52, cells52, tyOk53, agg53, cells53, zero53, tyOk54, agg54, cells54, tyOk55, agg55, cells55, tyOk56, agg56, cells56, tyOk57, agg57, cells57, tyOk58, agg58, cells58, tyOk59, agg59, cells59, tyOk60, agg60, cells60, tyOk61, agg61, cells61, tyOk62, agg62, cells62, tyOk63, agg63, cells63, tyOk64, agg64, cells64, zero64, ix64, bz64, bd64, tyOk65, agg65, cells65, zero65, ix65, tyOk66, agg66, cells66, tyOk67, agg67, cells67, tyOk68, agg68, cells68, tyOk69, agg69, cells69, zero69, info69, mk69, bs69_0, bs69_1, bs69_2, bs69_3, bs69_4, bs69_5, bs69_6, bs69_7, bs69_8, bs69_10, bs69_11, bs69_12, bs69_13, tyOk70, agg70, cells70, tyOk71, agg71, cells71, zero71, fadr71_0, fld71_0, fadr71_1, fld71_1, fadr71_2, fld71_2, bz71, bds71, tyOk72, agg72, cells72, zero72, fadr72_0, fld72_0, fadr72_1, fld72_1, fadr72_2, fld72_2, bz72, bds72, tyOk73, agg73, cells73, tyOk74, agg74, cells74, tyOk75, agg75, cells75, tyOk76, agg76, cells76, zero76, tyOk77, agg77, cells77, tyOk78, agg78, cells78, zero78, fadr78_0, fld78_0, fadr78_1, fld78_1, fadr78_2, fld78_2, fadr78_3, fld78_3, bz78, bds78, tyOk79, agg79, cells79, zero79, fadr79_0, fld79_0, fadr79_1, fld79_1, fadr79_2, fld79_2, fadr79_3, fld79_3, bz79, bds79, tyOk80, agg80, cells80, zero80, tyOk81, agg81, cells81, zero81, tyOk82, agg82, cells82, zero82, tyOk83, agg83, cells83, tyOk84, agg84, cells84, zero84, info84, mk84, bs84_0, bs84_1, bs84_2, bs84_3, bs84_4, bs84_5, bs84_6, bs84_7, bs84_8, bs84_10, bs84_11, bs84_12, bs84_13, tyOk85, agg85, cells85, isU85, zero85, info85, mk85, bs85_0, bs85_1, bs85_2, bs85_3, bs85_4, bs85_5, bs85_6, bs85_7, bs85_8, bs85_10, bs85_11, bs85_12, bs85_13, tyOk86, agg86, cells86, isU86, zero86, info86, mk86, bs86_0, bs86_1, bs86_2, bs86_3, bs86_4, bs86_5, bs86_6, bs86_7, bs86_8, bs86_10, bs86_11, bs86_12, bs86_13, tyOk87, agg87, cells87, tyOk88, agg88, cells88, zero88, tyOk89, agg89, cells89, zero89, info89, mk89, bs89_0, bs89_1, bs89_2, bs89_3, bs89_4, bs89_5, bs89_6, bs89_7, bs89_8, bs89_10, bs89_11, bs89_12, bs89_13, tyOk90, agg90, cells90, zero90, info90, mk90, bs90_0, bs90_1, bs90_2, bs90_3, bs90_4, bs90_5, bs90_6, bs90_7, bs90_8, bs90_10, bs90_11, bs90_12, bs90_13, tyOk91, agg91, cells91, fadr91_0, fld91_0, fadr91_1, fld91_1, fadr91_2, fld91_2, fadr91_3, fld91_3, fadr91_4, fld91_4, fadr91_5, fld91_5, fadr91_6, fld91_6, fadr91_7, fld91_7, fadr91_8, fld91_8, fadr91_9, fld91_9, fadr91_10, fld91_10, tyOk92, agg92, cells92, fadr92_0, fld92_0, fadr92_1, fld92_1, fadr92_2, fld92_2, fadr92_3, fld92_3, fadr92_4, fld92_4, fadr92_5, fld92_5, fadr92_6, fld92_6, fadr92_7, fld92_7, fadr92_8, fld92_8, fadr92_9, fld92_9, fadr92_10, fld92_10, tyOk93, agg93, cells93, zero93, hq4]
          refine w_loop (ι := Nat) (fun i s => ∃ (T : Nat → AV), s = ⟨tab 89 T, ⟨ints .i64 l, own, true⟩ :: ⟨ints .i64 plc, true, true⟩ :: ⟨ints .i64 [], true, false⟩ :: ⟨ints .i64 (put4 x q (j % 4) (plB j) (plC j) (plD j) i), true, true⟩ :: ((G ++ [⟨ints .i64 [((j % 4 : Nat) : Int), ((plB j : Nat) : Int), ((plC j : Nat) : Int), ((plD j : Nat) : Int)], true, true⟩]) ++ [⟨ints .i64 q, true, true⟩])⟩ ∧ i ≤ 4 ∧ T 0 = .sl 0 0 16 1 ∧ T 3 = .ptr 1 0 ∧ T 4 = .sl 3 0 16 1 ∧ T 28 = .sc (.int .i64 n) ∧ T 30 = .agg (ints .i64 plc) ∧ T 31 = .sc (.int .i64 j) ∧ T 6 = .ptr (G.length + 1 + 1 + 1 + 1) 0 ∧ T 55 = .sl (G.length + 1 + 1 + 1 + 1 + 1) 0 4 1 ∧ T 56 = .sc (.int .i64 4) ∧ T 57 = .sc (.int .i64 i)) (fun i => 4 - i) ?_ (i := 0) ?_
          · rintro i s ⟨T, rfl, d1, d2, d3, d4, d5, d6, d7, d8, d9, d10, d11⟩
            have hpu := put4_len x q (j % 4) (plB j) (plC j) (plD j) i
            rw [hql] at hpu
            by_cases hi : i < 4
            · have k4 : (i : Int) < 4 := by omega
              have g0 : IntKind.i64.wrap ((i : Int) + 1) = i + 1 := w64 (by omega) (by omega)
              have h4 := all4 (j % 4) (plB j) (plC j) (plD j) i 16 hi m1 m2 m3 m4
              have h4i : ((([j % 4, plB j, plC j, plD j] : List Nat).getD i 0 : Nat) : Int) < 16 := by omega
              have hps := put4_s x q (j % 4) (plB j) (plC j) (plD j) i hi
              have hc4 := cast4 (j % 4) (plB j) (plC j) (plD j) i hi
              simp -implicitDefEqProofs only [↓w_seq, ↓w_region, ↓ops_cons, ↓g_binOp, Nat.reduceLT, ev_tab, d11, d10, b_lss, k4, decide_true, ↓ops_nil, ↓w_cond, upd_eq, ↓w_skip, ↓w_block, ↓g_move, ↓g_indexAddr, Try.underlying26, ne_eq, Nat.reduceEqDiff, not_false_eq_true, upd_ne, d9, adr_sl, k0, Int.cast_ofNat_Int, cells3, tyOk3, and_self, Int.toNat_natCast, Nat.mul_one, Nat.zero_add, if_true, ↓g_load, ↓g_assign, Try.underlying64, d4, d8, adr_arr, ↓g_store, ev_const, of_int, b_add, g0, onS_some, rd_def, agg3, List.getElem?_cons_succ, at_a, rd_ints, List.length_cons, List.length_nil, Nat.reduceAdd, hi, hc4, h4i, wr_def, List.getElem?_cons_zero, at_b, hq4, wr_ints, hpu, h4, hps, List.set_cons_succ, List.set_cons_zero, ↓w_exit, d7, d5, reduceCtorEq, of_str, ↓g_len, len_sl, if_false, onB_true]
              refine ⟨i + 1, by omega, _, rfl, by omega, ?_, ?_, ?_, ?_, ?_, ?_, ?_, ?_, ?_, ?_⟩ <;> simp -implicitDefEqProofs only [ne_eq, reduceCtorEq, not_false_eq_true, upd_ne, d2, Nat.reduceEqDiff, d3, d4, d5, d6, d7, d8, d9, d10, upd_eq] <;> rfl
            · have k4 : ¬ (i : Int) < 4 := by omega
              have hi4 : i = 4 := by omega
              subst hi4
              simp -implicitDefEqProofs only [↓w_seq, ↓w_region, Nat.reduceSub, ↓ops_cons, ↓g_binOp, Nat.reduceLT, ev_tab, d11, Int.cast_ofNat_Int, d10, b_lss, Int.reduceLT, decide_false, ↓ops_nil, ↓w_cond, upd_eq, ↓w_skip, ↓w_block, ↓g_move, ↓g_indexAddr, Try.underlying26, ne_eq, Nat.reduceEqDiff, not_false_eq_true, upd_ne, d9, adr_sl, Int.reduceLE, cells3, tyOk3, and_self, and_true, and_false, Int.reduceToNat, Nat.mul_one, Nat.zero_add, if_false, ↓g_load, ↓g_assign, Try.underlying64, d4, d8, adr_arr, ↓g_store, ev_const, of_int, b_add, Int.reduceAdd, onS_some, ↓w_exit, d7, f0, d5, reduceCtorEq, of_str, ↓g_len, len_sl, if_true, onB_false]
              have hfin : put4 x q (j % 4) (plB j) (plC j) (plD j) 4 = qts (dbl l n) (j + 1) := by rw [hqs, hq]; rfl
              rw [hfin]
              refine ⟨j + 1, by omega, _, _, rfl, by omega, ?_, ?_, ?_, ?_, ?_, ?_⟩ <;> simp -implicitDefEqProofs only [ne_eq, reduceCtorEq, not_false_eq_true, upd_ne, d2, Nat.reduceEqDiff, d3, d4, d5, d6, upd_eq] <;> rfl
          · refine ⟨_, rfl, by omega, ?_, ?_, ?_, ?_, ?_, ?_, ?_, ?_, ?_, ?_⟩ <;> simp -implicitDefEqProofs only [ne_eq, reduceCtorEq, not_false_eq_true, upd_ne, c2, Nat.reduceEqDiff, c3, c4, c5, c6, c7, upd_eq, Int.cast_ofNat_Int] <;> rfl
        · have k3 : ¬ (j : Int) < 8 := by omega
          have hj8 : j = 8 := by omega
          subst hj8
          simp -implicitDefEqProofs only [↓w_seq, ↓w_region, Nat.reduceSub, ↓ops_cons, ↓g_binOp, Nat.reduceLT, ev_tab, c7, Int.cast_ofNat_Int, ev_const, of_int, b_lss, Int.reduceLT, decide_false, ↓ops_nil, ↓w_cond, upd_eq, ↓w_skip, ↓w_block, ↓g_index, Try.underlying65, ne_eq, Nat.reduceEqDiff, not_false_eq_true, upd_ne, c6, ↓g_alloc, zero64, Option.map_some, ↓g_store, alK_some, ints_one, List.length_cons, List.cons_append, wr_def, tyOk64, cells64, List.getElem?_cons_succ, at_end, true_and, ↓w_exit, c5, b_add, e1, ↓g_move, onS_some, reduceCtorEq, ↓g_assign, of_str, ↓g_len, Try.underlying26, c4, len_sl, if_false, if_true, onB_false]
          refine ⟨n + 1, by omega, _, _, rfl, by omega, ?_, ?_, ?_, ?_⟩ <;> simp -implicitDefEqProofs only [ne_eq, reduceCtorEq, not_false_eq_true, upd_ne, c2, Nat.reduceEqDiff, c3, c4, upd_eq] <;> rfl
      · refine ⟨_, _, rfl, by omega, ?_, ?_, ?_, ?_, ?_, ?_⟩ <;> simp -implicitDefEqProofs only [ne_eq, reduceCtorEq, not_false_eq_true, upd_ne, b2, Nat.reduceEqDiff, b3, b4, b5, upd_eq, Int.cast_ofNat_Int] <;> rfl
    · have k2 : ¬ (n : Int) < 10 := by omega
      have hn10 : n = 10 := by omega
      subst hn10
      generalize hX : dbl l 10 = X at *
      simp -implicitDefEqProofs only [↓w_seq, ↓w_region, Nat.reduceSub, ↓ops_cons, ↓g_binOp, Nat.reduceLT, ev_tab, b5, Int.cast_ofNat_Int, ev_const, of_int, b_lss, Int.reduceLT, decide_false, ↓ops_nil, ↓w_cond, upd_eq, ↓w_skip, ↓w_block, ↓g_load, ne_eq, Nat.reduceEqDiff, not_false_eq_true, upd_ne, b3, rd_def, tyOk65, agg65, cells65, List.getElem?_cons_succ, List.getElem?_cons_zero, ↓g_move, ↓w_exit, ↓g_assign, of_str, ↓g_len, Try.underlying26, b4, len_sl, onS_some, if_true, onB_false]
      refine w_loop (ι := Nat) (fun i s => ∃ (T : Nat → AV), s = ⟨tab 89 T, ⟨ints .i64 l, own, true⟩ :: ⟨ints .i64 plc, true, true⟩ :: ⟨ints .i64 [], true, false⟩ :: ⟨ints .i64 X, true, true⟩ :: G⟩ ∧ i ≤ 16 ∧ T 0 = .sl 0 0 16 1 ∧ T 10 = .sc (.string (strOfNums (sumL X l i))) ∧ T 71 = .sl 3 0 16 1 ∧ T 72 = .sc (.int .i64 16) ∧ T 73 = .sc (.int .i64 i)) (fun i => 16 - i) ?_ (i := 0) ?_
      · rintro i s ⟨T, rfl, d1, d2, d3, d4, d5, d6⟩
        have hsl := sumL_len X l i
        by_cases hi : i < 16
        · have k3 : (i : Int) < 16 := by omega
          have f0 : IntKind.i64.wrap ((i : Int) + 1) = i + 1 := w64 (by omega) (by omega)
          have hx := hdw i
          have hy := hw i
          have f1 : IntKind.i64.wrap (X.getD i 0 + l.getD i 0) = X.getD i 0 + l.getD i 0 := w64 (by omega) (by omega)
          simp -implicitDefEqProofs only [↓w_seq, ↓w_region, ↓ops_cons, ↓g_binOp, Nat.reduceLT, ev_tab, d6, d5, b_lss, k3, decide_true, ↓ops_nil, ↓w_cond, upd_eq, ↓w_skip, ↓w_block, ↓g_move, ↓g_indexAddr, Try.underlying26, ne_eq, Nat.reduceEqDiff, not_false_eq_true, upd_ne, d4, adr_sl, k0, Int.cast_ofNat_Int, cells3, tyOk3, and_self, Int.toNat_natCast, Nat.mul_one, Nat.zero_add, if_true, ↓g_load, ↓g_assign, d3, reduceCtorEq, d2, onS_some, rd_def, agg3, List.getElem?_cons_zero, rd_ints, hl, hi, List.getElem?_cons_succ, hdl, b_add, f1, ↓w_exit, ↓w_ret, retP_1, res_tmp, and_true, onB_true]
          refine call1 (by simp -implicitDefEqProofs only [List.map_cons, Nat.reduceLT, ev_tab, upd_eq, ev_const, of_int, List.map_nil, Int.cast_ofNat_Int] <;> rfl) (lowI _ 4 (by omega) (by omega) (by decide)) ?_
          simp -implicitDefEqProofs only [↓ops_cons, ↓g_binOp, Nat.reduceLT, ev_tab, ne_eq, Nat.reduceEqDiff, not_false_eq_true, upd_ne, upd_eq, t_add, son_size, hsl, loL_len, Nat.reduceLeDiff, son_append, ↓g_assign, ↓ops_nil, ↓w_region, d6, ev_const, of_int, b_add, f0, ↓g_move, onS_some, onS_ite]
          refine ⟨by omega, i + 1, by omega, _, rfl, by omega, ?_, ?_, ?_, ?_, ?_⟩ <;> simp -implicitDefEqProofs only [ne_eq, reduceCtorEq, not_false_eq_true, upd_ne, d2, Nat.reduceEqDiff, upd_eq, d4, d5] <;> rfl
        · have k3 : ¬ (i : Int) < 16 := by omega
          have hi16 : i = 16 := by omega
          subst hi16
          simp -implicitDefEqProofs only [↓w_seq, ↓w_region, Nat.reduceSub, ↓ops_cons, ↓g_binOp, Nat.reduceLT, ev_tab, d6, Int.cast_ofNat_Int, d5, b_lss, Int.reduceLT, decide_false, ↓ops_nil, ↓w_cond, upd_eq, ↓w_skip, ↓w_block, ↓g_move, ↓g_indexAddr, Try.underlying26, ne_eq, Nat.reduceEqDiff, not_false_eq_true, upd_ne, d4, adr_sl, Int.reduceLE, cells3, tyOk3, and_self, and_true, and_false, Int.reduceToNat, Nat.mul_one, Nat.zero_add, if_false, ↓g_load, ↓g_assign, d3, reduceCtorEq, d2, ↓w_exit, ↓w_ret, retP_1, res_tmp, List.getElem?_cons_zero, onS_some, if_true, onB_false]
          rw [chaBlk, blkL, hX]
      · refine ⟨_, rfl, by omega, ?_, ?_, ?_, ?_, ?_⟩ <;> simp -implicitDefEqProofs only [ne_eq, reduceCtorEq, not_false_eq_true, upd_ne, b2, Nat.reduceEqDiff, upd_eq, Int.cast_ofNat_Int] <;> rfl
  · refine ⟨_, [], rfl, by omega, ?_, ?_, ?_, ?_⟩ <;> simp -implicitDefEqProofs only [ne_eq, reduceCtorEq, not_false_eq_true, upd_ne, par0, Nat.reduceEqDiff, upd_eq, Int.cast_ofNat_Int] <;> rfl
end Go.Proofs.Ytbmadanfpicmiaa.Sim

