/- Flights: the reference's copy, what is left, whether one is right. -/
import Derived.Test.YtcjjcpdfnndenaaFFlight
namespace Go.Proofs.Ytcjjcpdfnndenaa.Sim
open Go
set_option maxRecDepth 100000
set_option maxHeartbeats 40000000
set_option linter.unusedSimpArgs false
set_option linter.unusedVariables false
theorem hap_00 (H L M : AHeap) (h : L[0]? = M[0]?) : (H ++ L)[H.length]? = (H ++ M)[H.length]? := (hap_0 H L).trans (h.trans (hap_0 H M).symm)
theorem copyFlS {H : AHeap} {x y : AV} {a b : List Int} (t : Int) (hx : IsL H x .i64 a) (hy : IsL H y .i64 b) (ha : a.length ≤ 1000000000) (hb : b.length ≤ 1000000000) : ∃ (p q : Nat) (Z : AHeap), Sound Try.prog 55 [flt x y t] H (flt (.sl p 0 a.length 1) (.sl q 0 b.length 1) t) Z ∧ Ext H Z ∧ H.length ≤ p ∧ p < q ∧ Z[p]? = some ⟨ints .i64 a, true, true⟩ ∧ Z[q]? = some ⟨ints .i64 b, true, true⟩ := by
  suffices h : ∃ v Z, Sound Try.prog 55 [flt x y t] H v Z ∧ ∃ p q, v = flt (.sl p 0 a.length 1) (.sl q 0 b.length 1) t ∧ Ext H Z ∧ H.length ≤ p ∧ p < q ∧ Z[p]? = some ⟨ints .i64 a, true, true⟩ ∧ Z[q]? = some ⟨ints .i64 b, true, true⟩ by
    obtain ⟨v, Z, h1, p, q, rfl, h2⟩ := h
    exact ⟨p, q, Z, h1, h2⟩
  unfold flt
  refine Sound.runP (args := [.agg [x, y, .sc (.int .i64 t)]]) 14 [.cell 2 32] Try.func55 rfl rfl rfl rfl (by simp) (fun v Z => ∃ p q, v = .agg [.sl p 0 a.length 1, .sl q 0 b.length 1, .sc (.int .i64 t)] ∧ Ext H Z ∧ H.length ≤ p ∧ p < q ∧ Z[p]? = some ⟨ints .i64 a, true, true⟩ ∧ Z[q]? = some ⟨ints .i64 b, true, true⟩) ?_
  have x1 := hx.one
  have y1 := hy.one
  have hsx := fun Y => ((Ext.more H Y).isL hx).src
  have hsy := fun Y => ((Ext.more H Y).isL hy).src
  have k1 : a.length * 8 ≤ 140737488355328 := by omega
  have k2 : a.length ≤ 140737488355328 := by omega
  have k3 : b.length * 8 ≤ 140737488355328 := by omega
  have k4 : b.length ≤ 140737488355328 := by omega
  simp -implicitDefEqProofs only [↓w_seq, ↓w_region, ↓ops_cons, ↓g_box, Nat.reduceLT, ev_tab, par0, cells_agg, ↓g_alloc, zero32, Option.map_some, ↓ops_nil, alK_some, List.all_cons, one_nil, one_int, List.all_nil, Bool.and_self, true_and, x1, y1, List.length_append, List.length_cons, List.length_nil, Nat.zero_add, List.append_assoc, List.cons_append, List.nil_append]
  refine drawn [(2, 0), (6, 0), (6, 4), (9, 0), (9, 4), (9, 8)] follows (by kernel_rfl) (by kernel_rfl) ?_
  simp -implicitDefEqProofs only [↓dops_cons, ↓g_buildSlice, Try.underlying22, List.map_nil, bs3_0, ↓g_fieldAddrT, Nat.reduceLT, ev_tab, ne_eq, Nat.reduceEqDiff, not_false_eq_true, upd_ne, upd_eq, fadr32_0, Nat.zero_add, ↓g_load, ↓g_append, fadr32_1, fadr32_2, ↓g_buildV, List.map_cons, ↓g_store, wr_def, tyOk32, cells32, ↓dops_p, ↓w_ret, retP_1, res_cell, rd_def, agg32, onS_some, tyOk3, agg3, cells3, tyOk22, agg22, cells22, alK_some, ints_one, apS22, hap_0, List.getElem?_cons_zero, true_and, List.append_assoc, List.cons_append, List.nil_append, rd_onec, List.length_append, List.length_cons, List.length_nil, Nat.reduceAdd, hap_k, List.getElem?_cons_succ, hsx, ap_ints, Nat.le_refl, k1, k2, and_self, hkill_k, kill_s, kill_0, List.take_zero, if_true, cells_sl, hsy, k3, k4, wr_c, hset_k, List.set_cons_succ, List.set_cons_zero, onS_ite, cells_int, bds32, cells_agg, List.all_cons, one_sl, one_int, List.all_nil, Bool.and_self, ovr_fm, ovr_fn, rd_aggc, List.drop_zero, List.take_succ_cons]
  refine ⟨pairs_cons (same_ld _ _ H.length 0 rfl rfl ?_) (pairs_cons (same_ld _ _ H.length 1 rfl rfl ?_) (pairs_cons (same_ld _ _ H.length 1 rfl rfl ?_) (pairs_cons (same_ld _ _ H.length 2 rfl rfl ?_) (pairs_cons (same_ld _ _ H.length 2 rfl rfl ?_) (pairs_cons (same_ld _ _ H.length 2 rfl rfl ?_) pairs_nil))))), ?_⟩
  iterate 6 exact hap_00 _ _ _ rfl
  try simp -implicitDefEqProofs only [↓w_seq, ↓w_skip, ↓w_ret, ↓w_exit, ↓w_block, ↓w_cond, ↓w_region, ↓ops_nil, ↓ops_cons, ↓dops_0, ↓dops_p, ↓dops_cons, ↓g_move, ↓g_assign, ↓g_binOp, ↓g_unOp, ↓g_pick, ↓g_len, ↓g_index, ↓g_indexAddr, ↓g_slice, ↓g_convert, ↓g_load, ↓g_store, ↓g_extract, ↓g_nilCheck, ↓g_fieldT, ↓g_fieldAddrT, of_agg, rd_aggc, rd_onec, wr_c, cells_int, cells_str, cells_bool, cells_nil, cells_sl, cells_ptr, cells_agg, one_int, one_str, one_bool, one_nil, one_sl, one_ptr, over_0, over_s, List.all_cons, List.all_nil, Bool.and_true, Bool.and_self, List.getElem?_nil, List.drop_succ_cons, List.drop_nil, ↓g_guard_t, ↓g_guard_f, ↓g_alloc, ↓g_box, ↓g_buildSlice, ↓g_makeSlice, ↓g_buildV, rdA, wrA, ints_one, List.length_replicate, bools_one, strs_one, rd_bools, rd_strs, wr_bools, wr_strs, at_bools, at_strs, ap_bools, ap_boolsN, ap_strs, ap_strsN, ↓g_append, src_sl, src_nil, src_str, ap_ints, ap_intsN, kill_len, kill_0, kill_s, bnd_none, bnd_int, cut_str, cutS_some, cut_sl, cutL_some, bits_i64, bits_u32, bits_u8, List.getD_cons_zero, List.getD_cons_succ, at_end, at_a, at_b, yielded_tab, dstAt_0, dstAt_s, ybv_some, boolOf_b, ext_0, ext_1, ext_2, ext_3, alK_some, ev_tab, ev_const, upd_eq, upd_ne, par0, par1, par2, par3, par4, par5, of_int, of_str, of_bool, len_str, len_arr, len_sl, idx_str, adr_sl, adr_arr, c_int, c_str, c_bytes, c_text, pick_b, onS_some, onS_ite, onS_not, b_add, b_sub, b_mul, b_and, b_or, b_xor, b_eql, b_neq, b_lss, b_leq, b_gtr, b_geq, b_shl, b_shr, b_quo, b_rem, t_add, t_eql, t_neq, v_eql, v_neq, b_andNot, u_not, onB_true, onB_false, onB_dec, onB_not, ret_cell, ret_ct, retP_0, retP_1, retP_2, retP_3, res_tmp, res_cell, ret_one, ret_two, ret_three, ret_none, List.set_set, if_true, if_false, ite_true, ite_false, List.map_cons, List.map_nil, Option.map_some, Option.map_none, List.toList_toArray, rd_def, rd_ints, wr_def, wr_ints, at_def, at_ints, bytes_ints, bytesA_ints, ints_set, nums_len, List.length_nil, List.length_cons, List.length_set, List.length_append, List.nil_append, List.cons_append, List.getElem?_cons_zero, List.getElem?_cons_succ, List.set_cons_zero, List.set_cons_succ, List.drop_zero, List.take_succ_cons, List.take_zero, List.take_length, Option.bind_some, true_and, and_true, Nat.zero_add, Nat.mul_one, Int.toNat_zero, Int.reduceToNat, Int.reduceAdd, Int.reduceSub, Int.reduceMul, Int.reduceNeg, Nat.reduceAdd, Nat.reduceSub, Nat.reduceMul, Nat.reducePow, Nat.min_eq_left, Int.reducePow, Nat.le_refl, Int.cast_ofNat_Int, Nat.reduceLT, Nat.reduceLeDiff, Nat.reduceEqDiff, Int.reduceLE, Int.reduceLT, Int.reduceEq, ne_eq, not_false_eq_true, not_true_eq_false, reduceCtorEq, decide_true, decide_false, and_self, and_false, false_and, Bool.not_true, Bool.not_false, Try.underlying0, Try.underlying1, Try.underlying2, Try.underlying3, Try.underlying4, Try.underlying5, Try.underlying6, Try.underlying7, Try.underlying8, Try.underlying9, Try.underlying10, Try.underlying11, Try.underlying12, Try.underlying13, Try.underlying14, Try.underlying15, Try.underlying16, Try.underlying17, Try.underlying18, Try.underlying19, Try.underlying20, Try.underlying21, Try.underlying22, Try.underlying23, Try.underlying24, Try.underlying25, Try.underlying26, Try.underlying27, Try.underlying28, Try.underlying29, Try.underlying30, Try.underlying31, Try.underlying32, Try.underlying33, Try.underlying34, Try.underlying35, Try.underlying36, Try.underlying37, Try.underlying38, Try.underlying39, Try.underlying40, Try.underlying41, Try.underlying42, Try.underlying43, Try.underlying44, Try.underlying45, Try.underlying46, Try.underlying47, Try.underlying48, Try.underlying49, Try.underlying50, Try.underlying51, Try.underlying52, Try.underlying53, Try.underlying54, Try.underlying55, Try.underlying56, Try.underlying57, Try.underlying58, Try.underlying59, Try.underlying60, Try.underlying61, Try.underlying62, Try.underlying63, Try.underlying64, Try.underlying65, Try.underlying66, Try.underlying67, Try.underlying68, Try.underlying69, Try.underlying70, Try.underlying71, Try.underlying72, Try.underlying73, Try.underlying74, Try.underlying75, Try.underlying76, Try.underlying77, Try.underlying78, Try.underlying79, Try.underlying80, Try.underlying81, Try.underlying82, Try.underlying83, Try.underlying84, Try.underlying85, Try.underlying86, Try.underlying87, Try.underlying88, Try.underlying89, Try.underlying90, Try.underlying91, Try.underlying92, Try.underlying93, Try.underlying94, Try.underlying95, Try.underlying96, Try.underlying97, Try.underlying98, Try.underlying99, Try.underlying100, Try.underlying101, Try.underlying102, Try.underlying103, Try.underlying104, Try.underlying105, Try.underlying106, Try.underlying107, Try.underlying108, Try.underlying109, Try.underlying110, Try.underlying111, Try.underlying112, Try.underlying113, Try.underlying114, tyOk0, agg0, cells0, tyOk1, agg1, cells1, tyOk2, agg2, cells2, zero2, info2, mk2, bs2_0, bs2_1, bs2_2, bs2_3, bs2_4, bs2_5, bs2_6, bs2_7, bs2_8, bs2_10, bs2_11, bs2_12, bs2_13, tyOk3, agg3, cells3, zero3, apS22, apN22, info3, mk3, bs3_0, bs3_1, bs3_2, bs3_3, bs3_4, bs3_5, bs3_6, bs3_7, bs3_8, bs3_10, bs3_11, bs3_12, bs3_13, tyOk4, agg4, cells4, zero4, info4, mk4, bs4_0, bs4_1, bs4_2, tyOk5, agg5, cells5, isU5, zero5, apS46, apN46, apStr46, info5, mk5, bs5_0, bs5_1, bs5_2, bs5_3, bs5_4, bs5_5, bs5_6, bs5_7, bs5_8, bs5_10, bs5_11, bs5_12, bs5_13, tyOk6, agg6, cells6, isU6, zero6, info6, mk6, bs6_0, bs6_1, bs6_2, bs6_3, bs6_4, bs6_5, bs6_6, bs6_7, bs6_8, bs6_10, bs6_11, bs6_12, bs6_13, tyOk7, agg7, cells7, zero7, fadr7_0, fld7_0, fadr7_1, fld7_1, fadr7_2, fld7_2, fadr7_3, fld7_3, bz7, bds7, tyOk8, agg8, cells8, zero8, fadr8_0, fld8_0, fadr8_1, fld8_1, fadr8_2, fld8_2, fadr8_3, fld8_3, bz8, bds8, tyOk9, agg9, cells9, zero9, info9, bs9_0, bs9_1, bs9_2, bs9_3, bs9_4, bs9_5, bs9_6, bs9_8, bs9_9, bs9_10, tyOk10, agg10, cells10, zero10, info10, bs10_0, bs10_1, bs10_2, bs10_3, bs10_4, bs10_5, bs10_6, bs10_8, bs10_9, bs10_10, tyOk11, agg11, cells11, zero11, info11, bs11_0, bs11_1, bs11_2, bs11_3, bs11_4, bs11_5, bs11_6, bs11_8, bs11_9, bs11_10, tyOk12, agg12, cells12, zero12, info12, mk12, bs12_0, bs12_1, bs12_2, bs12_3, bs12_4, bs12_5, bs12_6, bs12_7, bs12_8, bs12_10, bs12_11, bs12_12, bs12_13, tyOk13, agg13, cells13, zero13, fadr13_0, fld13_0, fadr13_1, fld13_1, bz13, bds13, tyOk14, agg14, cells14, zero14, fadr14_0, fld14_0, fadr14_1, fld14_1, bz14, bds14, tyOk15, agg15, cells15, zero15, tyOk16, agg16, cells16, zero16, tyOk17, agg17, cells17, zero17, tyOk18, agg18, cells18, zero18, fadr18_0, fld18_0, bz18, bds18, tyOk19, agg19, cells19, zero19, fadr19_0, fld19_0, bz19, bds19, tyOk20, agg20, cells20, tyOk21, agg21, cells21, zero21, info21, mk21, bs21_0, bs21_1, bs21_2, bs21_3, bs21_4, bs21_5, bs21_6, bs21_7, bs21_8, bs21_10, bs21_11, bs21_12, bs21_13, tyOk22, agg22, cells22, zero22, tyOk23, agg23, cells23, tyOk24, agg24, cells24, tyOk25, agg25, cells25, tyOk26, agg26, cells26, tyOk27, agg27, cells27, tyOk28, agg28, cells28, zero28, fadr28_0, fld28_0, fadr28_1, fld28_1, fadr28_2, fld28_2, bz28, bds28, tyOk29, agg29, cells29, zero29, fadr29_0, fld29_0, fadr29_1, fld29_1, fadr29_2, fld29_2, bz29, bds29, tyOk30, agg30, cells30, tyOk31, agg31, cells31, tyOk32, agg32, cells32, zero32, fadr32_0, fld32_0, fadr32_1, fld32_1, fadr32_2, fld32_2, bz32, bds32, tyOk33, agg33, cells33, tyOk34, agg34, cells34, tyOk35, agg35, cells35, tyOk36, agg36, cells36, tyOk37, agg37, cells37, tyOk38, agg38, cells38, tyOk39, agg39, cells39, tyOk40, agg40, cells40, tyOk41, agg41, cells41, tyOk42, agg42, cells42, tyOk43, agg43, cells43, tyOk44, agg44, cells44, tyOk45, agg45, cells45, tyOk46, agg46, cells46, zero46, tyOk47, agg47, cells47, tyOk48, agg48, cells48, tyOk49, agg49, cells49, tyOk50, agg50, cells50, tyOk51, agg51, cells51, tyOk52, agg52, cells52, tyOk53, agg53, cells53, tyOk54, agg54, cells54, tyOk55, agg55, cells55, tyOk56, agg56, cells56, tyOk57, agg57, cells57, tyOk58, agg58, cells58, tyOk59, agg59, cells59, tyOk60, agg60, cells60, tyOk61, agg61, cells61, zero61, tyOk62, agg62, cells62, tyOk63, agg63, cells63, tyOk64, agg64, cells64, tyOk65, agg65, cells65, tyOk66, agg66, cells66, tyOk67, agg67, cells67, tyOk68, agg68, cells68, tyOk69, agg69, cells69, tyOk70, agg70, cells70, zero70, fadr70_0, fld70_0, fadr70_1, fld70_1, fadr70_2, fld70_2, bz70, bds70, tyOk71, agg71, cells71, zero71, fadr71_0, fld71_0, fadr71_1, fld71_1, fadr71_2, fld71_2, bz71, bds71, tyOk72, agg72, cells72, zero72, info72, mk72, bs72_0, bs72_1, bs72_2, bs72_3, bs72_4, bs72_5, bs72_6, bs72_7, bs72_8, bs72_10, bs72_11, bs72_12, bs72_13, tyOk73, agg73, cells73, tyOk74, agg74, cells74, tyOk75, agg75, cells75, tyOk76, agg76, cells76, tyOk77, agg77, cells77, zero77, info77, mk77, bs77_0, bs77_1, bs77_2, bs77_3, bs77_4, bs77_5, bs77_6, bs77_7, bs77_8, bs77_10, bs77_11, bs77_12, bs77_13, tyOk78, agg78, cells78, tyOk79, agg79, cells79, tyOk80, agg80, cells80, tyOk81, agg81, cells81, tyOk82, agg82, cells82, tyOk83, agg83, cells83, tyOk84, agg84, cells84, tyOk85, agg85, cells85, tyOk86, agg86, cells86, zero86, info86, mk86, bs86_0, bs86_1, bs86_2, bs86_3, bs86_4, bs86_5, bs86_6, bs86_7, bs86_8, bs86_10, bs86_11, bs86_12, bs86_13, tyOk87, agg87, cells87, tyOk88, agg88, cells88, zero88, info88, mk88, bs88_0, bs88_1, bs88_2, bs88_3, bs88_4, bs88_5, bs88_6, bs88_7, bs88_8, bs88_10, bs88_11, bs88_12, bs88_13, tyOk89, agg89, cells89, zero89, info89, mk89, bs89_0, bs89_1, bs89_2, bs89_3, bs89_4, bs89_5, bs89_6, bs89_7, bs89_8, bs89_10, bs89_11, bs89_12, bs89_13, tyOk90, agg90, cells90, tyOk91, agg91, cells91, tyOk92, agg92, cells92, tyOk93, agg93, cells93, zero93, tyOk94, agg94, cells94, tyOk95, agg95, cells95, tyOk96, agg96, cells96, zero96, tyOk97, agg97, cells97, tyOk98, agg98, cells98, tyOk99, agg99, cells99, tyOk100, agg100, cells100, zero100, fadr100_0, fld100_0, fadr100_1, fld100_1, fadr100_2, fld100_2, fadr100_3, fld100_3, bz100, bds100, tyOk101, agg101, cells101, zero101, fadr101_0, fld101_0, fadr101_1, fld101_1, fadr101_2, fld101_2, fadr101_3, fld101_3, bz101, bds101, tyOk102, agg102, cells102, zero102, tyOk103, agg103, cells103, zero103, tyOk104, agg104, cells104, zero104, tyOk105, agg105, cells105, tyOk106, agg106, cells106, isU106, zero106, info106, mk106, bs106_0, bs106_1, bs106_2, bs106_3, bs106_4, bs106_5, bs106_6, bs106_7, bs106_8, bs106_10, bs106_11, bs106_12, bs106_13, tyOk107, agg107, cells107, isU107, zero107, info107, mk107, bs107_0, bs107_1, bs107_2, bs107_3, bs107_4, bs107_5, bs107_6, bs107_7, bs107_8, bs107_10, bs107_11, bs107_12, bs107_13, tyOk108, agg108, cells108, tyOk109, agg109, cells109, zero109, tyOk110, agg110, cells110, zero110, info110, mk110, bs110_0, bs110_1, bs110_2, bs110_3, bs110_4, bs110_5, bs110_6, bs110_7, bs110_8, bs110_10, bs110_11, bs110_12, bs110_13, tyOk111, agg111, cells111, zero111, info111, mk111, bs111_0, bs111_1, bs111_2, bs111_3, bs111_4, bs111_5, bs111_6, bs111_7, bs111_8, bs111_10, bs111_11, bs111_12, bs111_13, tyOk112, agg112, cells112, fadr112_0, fld112_0, fadr112_1, fld112_1, fadr112_2, fld112_2, fadr112_3, fld112_3, fadr112_4, fld112_4, fadr112_5, fld112_5, fadr112_6, fld112_6, fadr112_7, fld112_7, fadr112_8, fld112_8, fadr112_9, fld112_9, fadr112_10, fld112_10, tyOk113, agg113, cells113, fadr113_0, fld113_0, fadr113_1, fld113_1, fadr113_2, fld113_2, fadr113_3, fld113_3, fadr113_4, fld113_4, fadr113_5, fld113_5, fadr113_6, fld113_6, fadr113_7, fld113_7, fadr113_8, fld113_8, fadr113_9, fld113_9, fadr113_10, fld113_10, tyOk114, agg114, cells114, zero114, x1, y1, List.append_assoc, hap_0, hap_k, hset_0, hset_k, hkill_0, hkill_k, Nat.add_assoc, ovr_fm, ovr_fn]
  exact ⟨_, _, rfl, Ext.more _ _, by omega, by omega, hap_k _ _ 3, hap_k _ _ 5⟩
def leftL (s g : List Int) : List Int := s.filter fun v => decide (¬ v ∈ g)
theorem leftL_s (s g : List Int) (i : Nat) (h : i < s.length) : leftL (s.take (i + 1)) g = if s.getD i 0 ∈ g then leftL (s.take i) g else leftL (s.take i) g ++ [s.getD i 0] := by
  rw [take_s s i h, leftL, leftL, List.filter_append]
  by_cases hm : s.getD i 0 ∈ g
  · rw [if_pos hm]
    simp only [List.filter_cons, hm, not_true_eq_false, decide_false, List.filter_nil, Bool.false_eq_true, if_false, List.append_nil]
  · rw [if_neg hm]
    simp only [List.filter_cons, hm, not_false_eq_true, decide_true, List.filter_nil, if_true]
theorem leftL_len (s g : List Int) : (leftL s g).length ≤ s.length := List.length_filter_le _ _
theorem leftI {H : AHeap} {x y : AV} {s g : List Int} (t : Int) (hx : IsL H x .i64 s) (hy : IsL H y .i64 g) (hs : s.length ≤ 1000000000) (hg : g.length ≤ 1000000000) : ∃ (q : Nat) (Z : AHeap), Sound Try.prog 19 [flt x y t] H (.sl q 0 (leftL s g).length 1) Z ∧ Ext H Z ∧ H.length ≤ q ∧ Z[q]? = some ⟨ints .i64 (leftL s g), true, true⟩ := by
  suffices h : ∃ v Z, Sound Try.prog 19 [flt x y t] H v Z ∧ ∃ q, v = .sl q 0 (leftL s g).length 1 ∧ Ext H Z ∧ H.length ≤ q ∧ Z[q]? = some ⟨ints .i64 (leftL s g), true, true⟩ by
    obtain ⟨v, Z, h1, q, rfl, h2⟩ := h
    exact ⟨q, Z, h1, h2⟩
  unfold flt
  refine Sound.runP (args := [.agg [x, y, .sc (.int .i64 t)]]) 25 [.tmp 2] Try.func19 rfl rfl rfl rfl (by simp) (fun v Z => ∃ q, v = .sl q 0 (leftL s g).length 1 ∧ Ext H Z ∧ H.length ≤ q ∧ Z[q]? = some ⟨ints .i64 (leftL s g), true, true⟩) ?_
  have x1 := hx.one
  have y1 := hy.one
  have lx := fun e => hx.len e
  obtain ⟨A, hA⟩ : ∃ A : Reg, A = ⟨[x, y, .sc (.int .i64 t)], true, true⟩ := ⟨_, rfl⟩
  have e0 := Ext.more H [A]
  have a0 := hap_0 H [A]
  simp -implicitDefEqProofs only [↓w_seq, ↓w_region, ↓ops_cons, ↓g_box, Nat.reduceLT, ev_tab, par0, cells_agg, ↓g_assign, ↓ops_nil, ev_const, ↓g_buildSlice, Try.underlying22, List.map_nil, bs3_0, upd_eq, ↓g_fieldAddrT, ne_eq, Nat.reduceEqDiff, not_false_eq_true, upd_ne, ↓g_load, ↓g_len, ↓g_move, ↓w_block, of_int, alK_some, ints_one, true_and, List.all_cons, x1, y1, one_int, List.all_nil, Bool.and_self, fadr32_0, Nat.zero_add, List.append_assoc, List.cons_append, List.nil_append, List.length_append, List.length_cons, List.length_nil, onS_some, rd_def, tyOk22, agg22, cells22, hap_0, List.getElem?_cons_zero, rd_onec, lx]
  rw [← hA]
  refine w_loop (ι := Nat) (fun i st => ∃ (T : Nat → AV) (Z : AHeap) (q : Nat), st = ⟨tab 25 T, Z⟩ ∧ i ≤ s.length ∧ Ext (H ++ [A]) Z ∧ H.length + 1 ≤ q ∧ Z[q]? = some ⟨ints .i64 (leftL (s.take i) g), true, true⟩ ∧ T 1 = .ptr H.length 0 ∧ T 3 = .sl q 0 (leftL (s.take i) g).length 1 ∧ T 8 = x ∧ T 9 = .sc (.int .i64 s.length) ∧ T 10 = .sc (.int .i64 i)) (fun i => s.length - i) ?_ (i := 0) ?_
  · rintro i st ⟨T, Z, q, rfl, a1, ez, hq, a2, a3, a4, a5, a6, a7⟩
    by_cases h : i < s.length
    · have k1 : (i : Int) < s.length := by omega
      have k2 : (0 : Int) ≤ i := by omega
      have e1 : IntKind.i64.wrap ((i : Int) + 1) = i + 1 := w64 (by omega) (by omega)
      have hA2 : Z[H.length]? = some ⟨[x, y, .sc (.int .i64 t)], true, true⟩ := by rw [← hA]; exact ez.at a0
      obtain ⟨r, o, hxr, hr⟩ := ((e0.trans ez).isL hx).get (i := i) h
      have hc := inLI (s.getD i 0) ((e0.trans ez).isL hy) hg
      have hll := leftL_len (s.take i) g
      have htl : (s.take i).length = i := by rw [List.length_take]; omega
      have hls := leftL_s s g i h
      generalize leftL (s.take i) g = B at *
      have ql := at_lt a2
      have hq2 : ∀ g : Reg, (Z ++ [g])[q]? = some ⟨ints .i64 B, true, true⟩ := fun g => (at_more _ _ _ ql).trans a2
      have b1 : (B.length + 1) * 8 ≤ 140737488355328 := by omega
      have b2 : B.length + 1 ≤ 140737488355328 := by omega
      simp -implicitDefEqProofs only [↓w_seq, ↓w_region, hxr, ↓ops_cons, ↓g_binOp, Nat.reduceLT, ev_tab, a7, a6, b_lss, k1, decide_true, ↓ops_nil, ↓w_cond, upd_eq, ↓w_skip, ↓w_block, ↓g_indexAddr, Try.underlying22, ne_eq, Nat.reduceEqDiff, not_false_eq_true, upd_ne, a5, adr_sl, k2, cells3, tyOk3, and_self, Int.toNat_natCast, Nat.mul_one, Nat.zero_add, if_true, ↓g_load, ↓g_assign, ↓g_fieldAddrT, a3, fadr32_1, ↓g_move, onS_some, rd_def, tyOk22, agg22, cells22, hA2, rd_onec, List.getElem?_cons_succ, List.getElem?_cons_zero, agg3, hr, rd_ints, h, ↓w_exit, ↓w_ret, a4, retP_1, res_tmp, onB_true]
      refine call1S (by simp -implicitDefEqProofs only [List.map_cons, Nat.reduceLT, ev_tab, ne_eq, Nat.reduceEqDiff, not_false_eq_true, upd_ne, upd_eq, List.map_nil] <;> rfl) hc ?_
      by_cases hm : s.getD i 0 ∈ g
      · rw [if_pos hm] at hls
        rw [decide_eq_true hm]
        simp -implicitDefEqProofs only [↓ops_cons, ↓g_unOp, Nat.reduceLT, ev_tab, upd_eq, u_not, Bool.not_true, Option.map_some, ↓ops_nil, ↓w_cond, ↓w_region, ↓g_move, ↓g_buildSlice, Try.underlying22, ne_eq, Nat.reduceEqDiff, not_false_eq_true, upd_ne, a4, List.map_cons, List.map_nil, bs3_1, ↓g_append, apS22, ↓g_assign, ↓g_binOp, a7, ev_const, of_int, b_add, e1, onS_some, alK_some, ints_one, src_sl, at_end, at_ints, Nat.zero_add, List.length_cons, List.length_nil, Nat.le_refl, List.drop_zero, List.take_succ_cons, List.take_zero, if_true, true_and, ↓w_skip, onB_false]
        refine ⟨i + 1, by omega, _, _, q, rfl, by omega, ez, hq, by rw [hls]; exact a2, ?_, ?_, ?_, ?_, ?_⟩ <;> simp -implicitDefEqProofs only [ne_eq, Nat.reduceEqDiff, not_false_eq_true, upd_ne, a3, a4, hls, a5, hxr, a6, upd_eq] <;> rfl
      · rw [if_neg hm] at hls
        rw [decide_eq_false hm]
        simp -implicitDefEqProofs only [↓ops_cons, ↓g_unOp, Nat.reduceLT, ev_tab, upd_eq, u_not, Bool.not_false, Option.map_some, ↓ops_nil, ↓w_cond, ↓w_region, ↓g_move, ↓g_buildSlice, Try.underlying22, ne_eq, Nat.reduceEqDiff, not_false_eq_true, upd_ne, a4, List.map_cons, List.map_nil, bs3_1, ↓g_append, apS22, ↓g_assign, ↓g_binOp, a7, ev_const, of_int, b_add, e1, onS_some, alK_some, ints_one, hq2, src_sl, at_end, at_ints, Nat.zero_add, List.length_cons, List.length_nil, Nat.le_refl, List.drop_zero, List.take_succ_cons, List.take_zero, if_true, ap_ints, b1, b2, and_self, List.length_append, List.take_length, true_and, ↓w_skip, onB_true]
        refine ⟨i + 1, by omega, _, _, Z.length + 1, rfl, by omega, (((ez.add _).kill (by rw [List.length_append]; exact hq)).add _), ?_, ?_, ?_, ?_, ?_, ?_, ?_⟩
        · have := ez.1
          rw [List.length_append] at this
          simp at this
          omega
        · have := at_end (killReg (Z ++ [⟨ints .i64 [s.getD i 0], true, true⟩]) q) ⟨ints .i64 (B ++ [s.getD i 0]), true, true⟩
          rw [hls]
          rwa [kill_len, List.length_append, List.length_singleton] at this
        all_goals (simp -implicitDefEqProofs only [ne_eq, Nat.reduceEqDiff, not_false_eq_true, upd_ne, a3, upd_eq, hls, List.length_append, List.length_cons, List.length_nil, Nat.zero_add, a5, hxr, a6] <;> rfl)
    · have k1 : ¬ (i : Int) < s.length := by omega
      have hi : s.take i = s := List.take_of_length_le (by omega)
      rw [hi] at a2 a4
      simp -implicitDefEqProofs only [↓w_seq, ↓w_region, ↓ops_cons, ↓g_binOp, Nat.reduceLT, ev_tab, a7, a6, b_lss, k1, decide_false, ↓ops_nil, ↓w_cond, upd_eq, ↓w_skip, ↓w_block, ↓g_indexAddr, Try.underlying22, ne_eq, Nat.reduceEqDiff, not_false_eq_true, upd_ne, a5, ↓g_load, ↓g_assign, ↓g_fieldAddrT, a3, fadr32_1, Nat.zero_add, ↓g_move, onS_some, rd_def, tyOk22, agg22, cells22, ↓w_exit, ↓w_ret, a4, retP_1, res_tmp, if_true, onB_false]
      exact ⟨q, rfl, e0.trans ez, by omega, a2⟩
  · refine ⟨_, _, H.length + 1, rfl, by omega, (by simpa only [List.append_assoc, List.cons_append, List.nil_append] using Ext.more (H ++ [A]) [⟨ints .i64 [], true, true⟩]), Nat.le_refl _, ?_, ?_, ?_, ?_, ?_, ?_⟩
    · exact hap_k _ _ 1
    all_goals (simp -implicitDefEqProofs only [ne_eq, Nat.reduceEqDiff, not_false_eq_true, upd_ne, upd_eq, List.take_zero, Int.cast_ofNat_Int] <;> rfl)
theorem leftS {H : AHeap} {x y : AV} {s g : List Int} (t : Int) (hx : IsL H x .i64 s) (hy : IsL H y .i64 g) (hs : s.length ≤ 1000000000) (hg : g.length ≤ 1000000000) : ∃ (q : Nat) (Z : AHeap), Sound Try.prog 17 [flt x y t] H (.sl q 0 (leftL s g).length 1) Z ∧ Ext H Z ∧ H.length ≤ q ∧ Z[q]? = some ⟨ints .i64 (leftL s g), true, true⟩ := by
  suffices h : ∃ v Z, Sound Try.prog 17 [flt x y t] H v Z ∧ ∃ q, v = .sl q 0 (leftL s g).length 1 ∧ Ext H Z ∧ H.length ≤ q ∧ Z[q]? = some ⟨ints .i64 (leftL s g), true, true⟩ by
    obtain ⟨v, Z, h1, q, rfl, h2⟩ := h
    exact ⟨q, Z, h1, h2⟩
  unfold flt
  refine Sound.runP (args := [.agg [x, y, .sc (.int .i64 t)]]) 31 [.tmp 2] Try.func17 rfl rfl rfl rfl (by simp) (fun v Z => ∃ q, v = .sl q 0 (leftL s g).length 1 ∧ Ext H Z ∧ H.length ≤ q ∧ Z[q]? = some ⟨ints .i64 (leftL s g), true, true⟩) ?_
  have x1 := hx.one
  have y1 := hy.one
  have lx := fun e => hx.len e
  obtain ⟨A, hA⟩ : ∃ A : Reg, A = ⟨[x, y, .sc (.int .i64 t)], true, true⟩ := ⟨_, rfl⟩
  have e0 := Ext.more H [A]
  have a0 := hap_0 H [A]
  simp -implicitDefEqProofs only [↓w_seq, ↓w_region, ↓ops_cons, ↓g_box, Nat.reduceLT, ev_tab, par0, cells_agg, ↓g_assign, ↓ops_nil, ev_const, ↓g_buildSlice, Try.underlying22, List.map_nil, bs3_0, upd_eq, ↓w_block, of_int, alK_some, ints_one, true_and, List.all_cons, x1, y1, one_int, List.all_nil, Bool.and_self, List.length_append, List.length_cons, List.length_nil, Nat.zero_add, List.append_assoc, List.cons_append, List.nil_append]
  rw [← hA]
  refine w_loop (ι := Nat) (fun i st => ∃ (T : Nat → AV) (Z : AHeap) (q : Nat), st = ⟨tab 31 T, Z⟩ ∧ i ≤ s.length ∧ Ext (H ++ [A]) Z ∧ H.length + 1 ≤ q ∧ Z[q]? = some ⟨ints .i64 (leftL (s.take i) g), true, true⟩ ∧ T 1 = .ptr H.length 0 ∧ T 3 = .sl q 0 (leftL (s.take i) g).length 1 ∧ T 4 = .sc (.int .i64 i)) (fun i => s.length - i) ?_ (i := 0) ?_
  · rintro i st ⟨T, Z, q, rfl, a1, ez, hq, a2, a3, a4, a5⟩
    by_cases h : i < s.length
    · have k1 : (i : Int) < s.length := by omega
      have k2 : (0 : Int) ≤ i := by omega
      have e1 : IntKind.i64.wrap ((i : Int) + 1) = i + 1 := w64 (by omega) (by omega)
      have hA2 : Z[H.length]? = some ⟨[x, y, .sc (.int .i64 t)], true, true⟩ := by rw [← hA]; exact ez.at a0
      obtain ⟨r, o, hxr, hr⟩ := ((e0.trans ez).isL hx).get (i := i) h
      have hc := inLS (s.getD i 0) ((e0.trans ez).isL hy) hg
      have hll := leftL_len (s.take i) g
      have htl : (s.take i).length = i := by rw [List.length_take]; omega
      have hls := leftL_s s g i h
      generalize leftL (s.take i) g = B at *
      have ql := at_lt a2
      have hq2 : ∀ g : Reg, (Z ++ [g])[q]? = some ⟨ints .i64 B, true, true⟩ := fun g => (at_more _ _ _ ql).trans a2
      have b1 : (B.length + 1) * 8 ≤ 140737488355328 := by omega
      have b2 : B.length + 1 ≤ 140737488355328 := by omega
      have lxz := fun e => ((e0.trans ez).isL hx).len e
      simp -implicitDefEqProofs only [↓w_seq, ↓w_region, ↓ops_cons, ↓g_move, ↓g_fieldAddrT, Nat.reduceLT, ev_tab, a5, ne_eq, Nat.reduceEqDiff, not_false_eq_true, upd_ne, a3, fadr32_0, Nat.zero_add, ↓g_load, upd_eq, ↓g_len, Try.underlying22, ↓g_binOp, ↓ops_nil, ↓w_cond, ↓w_skip, ↓w_block, ↓w_exit, ↓g_assign, ↓w_ret, a4, retP_1, res_tmp, onS_some, if_true, rd_def, tyOk22, agg22, cells22, hA2, rd_onec, List.getElem?_cons_zero, lxz, b_lss, k1, decide_true, onB_true]
      by_cases hm : s.getD i 0 ∈ g
      · rw [if_pos hm] at hls
        rw [decide_eq_true hm] at hc
        refine drawn [(1, 0), (3, 0), (6, 0)] follows (by kernel_rfl) (by kernel_rfl) ?_
        simp -implicitDefEqProofs only [hxr, ↓dops_cons, ↓g_fieldAddrT, Nat.reduceLT, ev_tab, ne_eq, Nat.reduceEqDiff, not_false_eq_true, upd_ne, a3, fadr32_1, Nat.zero_add, ↓g_load, upd_eq, fadr32_0, ↓g_move, ↓g_indexAddr, Try.underlying22, a5, onS_some, rd_def, tyOk22, agg22, cells22, hA2, rd_onec, List.getElem?_cons_zero, adr_sl, k2, k1, cells3, tyOk3, and_self, Int.toNat_natCast, Nat.mul_one, if_true, agg3, hr, rd_ints, h, List.getElem?_cons_succ]
        refine call1S (by simp -implicitDefEqProofs only [List.map_cons, Nat.reduceLT, ev_tab, ne_eq, Nat.reduceEqDiff, not_false_eq_true, upd_ne, upd_eq, List.map_nil] <;> rfl) hc ?_
        simp -implicitDefEqProofs only [↓dops_cons, ↓g_unOp, Nat.reduceLT, ev_tab, upd_eq, u_not, Bool.not_true, Option.map_some, ↓dops_p, ↓w_cond, ↓w_region, ↓ops_cons, ↓g_move, ↓g_fieldAddrT, ne_eq, Nat.reduceEqDiff, not_false_eq_true, upd_ne, ↓g_load, ↓g_indexAddr, Try.underlying22, ↓g_buildSlice, List.map_cons, List.map_nil, ↓g_append, ↓g_assign, ↓ops_nil, ↓g_binOp, ev_const, of_int, ↓w_skip, onS_some, onB_false]
        refine ⟨pairs_cons (same_H rfl) (pairs_cons (same_H rfl) (pairs_cons (same_H rfl) (pairs_nil))), ?_⟩
        simp -implicitDefEqProofs only [a5, b_add, e1, onS_some]
        refine ⟨i + 1, by omega, _, _, q, rfl, by omega, ez, hq, by rw [hls]; exact a2, ?_, ?_, ?_⟩ <;> simp -implicitDefEqProofs only [ne_eq, Nat.reduceEqDiff, not_false_eq_true, upd_ne, a3, a4, hls, upd_eq] <;> rfl
      · rw [if_neg hm] at hls
        rw [decide_eq_false hm] at hc
        refine drawn [(1, 0), (3, 0), (6, 0)] follows (by kernel_rfl) (by kernel_rfl) ?_
        simp -implicitDefEqProofs only [hxr, ↓dops_cons, ↓g_fieldAddrT, Nat.reduceLT, ev_tab, ne_eq, Nat.reduceEqDiff, not_false_eq_true, upd_ne, a3, fadr32_1, Nat.zero_add, ↓g_load, upd_eq, fadr32_0, ↓g_move, ↓g_indexAddr, Try.underlying22, a5, onS_some, rd_def, tyOk22, agg22, cells22, hA2, rd_onec, List.getElem?_cons_zero, adr_sl, k2, k1, cells3, tyOk3, and_self, Int.toNat_natCast, Nat.mul_one, if_true, agg3, hr, rd_ints, h, List.getElem?_cons_succ]
        refine call1S (by simp -implicitDefEqProofs only [List.map_cons, Nat.reduceLT, ev_tab, ne_eq, Nat.reduceEqDiff, not_false_eq_true, upd_ne, upd_eq, List.map_nil] <;> rfl) hc ?_
        simp -implicitDefEqProofs only [↓dops_cons, ↓g_unOp, Nat.reduceLT, ev_tab, upd_eq, u_not, Bool.not_false, Option.map_some, ↓dops_p, ↓w_cond, ↓w_region, ↓ops_cons, ↓g_move, ↓g_fieldAddrT, ne_eq, Nat.reduceEqDiff, not_false_eq_true, upd_ne, ↓g_load, ↓g_indexAddr, Try.underlying22, ↓g_buildSlice, List.map_cons, List.map_nil, ↓g_append, ↓g_assign, ↓ops_nil, ↓g_binOp, ev_const, of_int, ↓w_skip, onS_some, onB_true]
        refine ⟨pairs_cons (same_H rfl) (pairs_cons (same_H rfl) (pairs_cons (same_H rfl) (pairs_nil))), ?_⟩
        have hA3 : ∀ g : Reg, (Z ++ [g])[H.length]? = some ⟨[x, y, .sc (.int .i64 t)], true, true⟩ := fun g => (at_more _ _ _ (at_lt hA2)).trans hA2
        simp -implicitDefEqProofs only [a3, fadr32_0, Nat.zero_add, a5, a4, apS22, b_add, e1, onS_some, rd_def, tyOk22, agg22, cells22, hA2, hxr, rd_onec, List.getElem?_cons_zero, adr_sl, k2, k1, cells3, tyOk3, and_self, Int.toNat_natCast, Nat.mul_one, if_true, agg3, hr, rd_ints, h, bs3_1, alK_some, ints_one, hq2, src_sl, at_end, at_ints, List.length_cons, List.length_nil, Nat.le_refl, List.drop_zero, List.take_succ_cons, List.take_zero, ap_ints, b1, b2, List.length_append, List.take_length, true_and]
        refine ⟨i + 1, by omega, _, _, Z.length + 1, rfl, by omega, (((ez.add _).kill (by rw [List.length_append]; exact hq)).add _), ?_, ?_, ?_, ?_, ?_⟩
        · have := ez.1
          rw [List.length_append] at this
          simp at this
          omega
        · have := at_end (killReg (Z ++ [⟨ints .i64 [s.getD i 0], true, true⟩]) q) ⟨ints .i64 (B ++ [s.getD i 0]), true, true⟩
          rw [hls]
          rwa [kill_len, List.length_append, List.length_singleton] at this
        all_goals (simp -implicitDefEqProofs only [ne_eq, Nat.reduceEqDiff, not_false_eq_true, upd_ne, a3, upd_eq, hls, List.length_append, List.length_cons, List.length_nil, Nat.zero_add] <;> rfl)
    · have k1 : ¬ (i : Int) < s.length := by omega
      have hi : s.take i = s := List.take_of_length_le (by omega)
      rw [hi] at a2 a4
      have lxz := fun e => ((e0.trans ez).isL hx).len e
      have hA2 : Z[H.length]? = some ⟨[x, y, .sc (.int .i64 t)], true, true⟩ := by rw [← hA]; exact ez.at a0
      simp -implicitDefEqProofs only [↓w_seq, ↓w_region, ↓ops_cons, ↓g_move, ↓g_fieldAddrT, Nat.reduceLT, ev_tab, a5, ne_eq, Nat.reduceEqDiff, not_false_eq_true, upd_ne, a3, fadr32_0, Nat.zero_add, ↓g_load, upd_eq, ↓g_len, Try.underlying22, ↓g_binOp, ↓ops_nil, ↓w_cond, ↓w_skip, ↓w_block, ↓w_exit, ↓g_assign, ↓w_ret, a4, retP_1, res_tmp, onS_some, if_true, rd_def, tyOk22, agg22, cells22, hA2, rd_onec, List.getElem?_cons_zero, lxz, b_lss, k1, decide_false, onB_false]
      exact ⟨q, rfl, e0.trans ez, by omega, a2⟩
  · refine ⟨_, _, H.length + 1, rfl, by omega, (by simpa only [List.append_assoc, List.cons_append, List.nil_append] using Ext.more (H ++ [A]) [⟨ints .i64 [], true, true⟩]), Nat.le_refl _, ?_, ?_, ?_, ?_⟩
    · exact hap_k _ _ 1
    all_goals (simp -implicitDefEqProofs only [ne_eq, Nat.reduceEqDiff, not_false_eq_true, upd_ne, upd_eq, List.take_zero, Int.cast_ofNat_Int] <;> rfl)
end Go.Proofs.Ytcjjcpdfnndenaa.Sim

