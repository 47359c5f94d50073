/- A list of numbers, told. -/
import Derived.Test.YtcjjcpdfnndenaaFVar
import Derived.Test.YtcjjcpdfnndenaaFUp
namespace Go.Proofs.Ytcjjcpdfnndenaa.Sim
open Go
set_option maxRecDepth 100000
set_option maxHeartbeats 4000000
set_option linter.unusedSimpArgs false
set_option linter.unusedVariables false
def ackP (l : List Int) (i : Nat) : List Int := varN l.length ++ (l.take i).flatMap fun x => varN x.toNat
theorem ackP_s (l : List Int) (i : Nat) (h : i < l.length) : ackP l i ++ varN (l.getD i 0).toNat = ackP l (i + 1) := by
  rw [ackP, ackP, List.take_add_one, List.getD_eq_getElem?_getD, List.getElem?_eq_getElem h, List.append_assoc]
  simp only [Option.getD_some, Option.toList_some, List.flatMap_append, List.flatMap_cons, List.flatMap_nil, List.append_nil]
def ackT (l : List Int) : ByteArray := strOfNums (ackP l l.length)
theorem up_nat {l : List Int} (h : UpL l) {i : Nat} (hi : i < l.length) : l.getD i 0 = (((l.getD i 0).toNat : Nat) : Int) ∧ (l.getD i 0).toNat ≤ 9999 := by
  have := (h i hi).1
  omega
theorem ackI {H : AHeap} {x : AV} {l : List Int} (h : UpL l) (h100 : l.length ≤ 100) (hx : IsL H x .i64 l) : Sound Try.prog 14 [x] H (.tup [.sc (.string (ackT l)), .sc (.bool true)]) H := by
  refine Sound.run 40 [.tmp 2, .tmp 3] Try.func14 rfl rfl rfl rfl (by simp) ?_
  have lx := fun e => hx.len e
  simp -implicitDefEqProofs only [↓w_seq, ↓w_region, ↓ops_cons, ↓g_assign, ↓ops_nil, ev_const, of_str, of_bool, ↓g_move, Nat.reduceLT, ev_tab, ne_eq, reduceCtorEq, not_false_eq_true, upd_ne, par0]
  refine call1S (by simp -implicitDefEqProofs only [List.map_cons, Nat.reduceLT, ev_tab, upd_eq, List.map_nil] <;> rfl) (upI true (by simp [h]) hx (by omega)) ?_
  have k0 : ¬ (100 : Int) < l.length := by omega
  simp -implicitDefEqProofs only [↓ops_cons, ↓g_unOp, Nat.reduceLT, ev_tab, upd_eq, u_not, Bool.not_true, Option.map_some, ↓g_move, onS_some, yielded_tab, dstAt_s, dstAt_0, ybv_some, boolOf_b, ↓g_guard_t, ne_eq, reduceCtorEq, not_false_eq_true, upd_ne, par0, Nat.reduceEqDiff, ↓g_len, Try.underlying22, lx, ↓g_binOp, ev_const, of_int, ↓g_pick, of_bool, pick_b, if_false, ↓ops_nil, ↓w_cond, ↓w_seq, ↓w_region, ↓g_assign, ↓w_ret, of_str, ret_two, and_true, ↓w_skip, b_gtr, k0, decide_false, onB_false]
  refine call1 (by simp -implicitDefEqProofs only [List.map_cons, Nat.reduceLT, ev_tab, upd_eq, List.map_nil] <;> rfl) (varI l.length (by omega)) ?_
  simp -implicitDefEqProofs only [↓ops_cons, ↓g_move, ↓g_extract, Nat.reduceLT, ev_tab, upd_eq, ext_0, ne_eq, Nat.reduceEqDiff, not_false_eq_true, upd_ne, ext_1, ↓g_assign, ↓ops_nil, ↓w_seq, ↓w_region, ↓g_len, Try.underlying22, reduceCtorEq, par0, lx, ↓w_block, ev_const, of_int, onS_some]
  refine w_loop (ι := Nat) (fun i s => ∃ T : Nat → AV, s = ⟨tab 40 T, H⟩ ∧ i ≤ l.length ∧ (ackP l i).length ≤ 5 * (i + 1) ∧ T 4 = .sc (.string (strOfNums (ackP l i))) ∧ T 24 = x ∧ T 25 = .sc (.int .i64 l.length) ∧ T 26 = .sc (.int .i64 i)) (fun i => l.length - i) ?_ (i := 0) ?_
  · rintro i s ⟨T, rfl, a1, a0, a2, a3, a4, a5⟩
    by_cases hi : i < l.length
    · have k1 : (i : Int) < l.length := by omega
      have k2 : (0 : Int) ≤ i := by omega
      obtain ⟨r, o, rfl, hr⟩ := hx.get (i := i) hi
      have e1 : IntKind.i64.wrap ((i : Int) + 1) = i + 1 := w64 (by omega) (by omega)
      obtain ⟨n1, n2⟩ := up_nat h hi
      have hv := varI (l.getD i 0).toNat (by omega)
      rw [← n1] at hv
      have h5 := varN_5 (l.getD i 0).toNat (by omega)
      have hs := ackP_s l i hi
      have hsl : (ackP l (i + 1)).length ≤ 5 * (i + 1 + 1) := by
        rw [← hs, List.length_append]
        omega
      simp -implicitDefEqProofs only [↓w_seq, ↓w_region, ↓ops_cons, ↓g_binOp, Nat.reduceLT, ev_tab, a5, a4, b_lss, k1, decide_true, ↓ops_nil, ↓w_cond, upd_eq, ↓w_skip, ↓w_block, ↓g_indexAddr, Try.underlying22, ne_eq, Nat.reduceEqDiff, not_false_eq_true, upd_ne, a3, adr_sl, k2, cells3, tyOk3, and_self, Int.toNat_natCast, Nat.mul_one, Nat.zero_add, if_true, ↓g_load, ↓g_assign, ↓g_move, onS_some, rd_def, agg3, hr, rd_ints, hi, ↓w_exit, ↓w_ret, a2, ev_const, of_bool, ret_two, and_true, onB_true]
      refine call1 (by simp -implicitDefEqProofs only [List.map_cons, Nat.reduceLT, ev_tab, upd_eq, List.map_nil] <;> rfl) hv ?_
      have hvt : varT (l.getD i 0).toNat = strOfNums (varN (l.getD i 0).toNat) := rfl
      simp -implicitDefEqProofs only [↓ops_cons, ↓g_move, ↓g_extract, hvt, Nat.reduceLT, ev_tab, upd_eq, ext_0, ne_eq, Nat.reduceEqDiff, not_false_eq_true, upd_ne, ext_1, ↓g_assign, ↓ops_nil, ↓w_region, ↓g_binOp, a2, a5, ev_const, of_int, b_add, e1, onS_some, t_add, son_size, son_append, hs, onS_ite]
      refine ⟨by omega, i + 1, by omega, _, rfl, by omega, hsl, ?_, ?_, ?_, ?_⟩ <;> simp -implicitDefEqProofs only [ne_eq, Nat.reduceEqDiff, not_false_eq_true, upd_ne, upd_eq, a3, a4] <;> rfl
    · have k1 : ¬ (i : Int) < l.length := by omega
      have hi2 : i = l.length := by omega
      simp -implicitDefEqProofs only [↓w_seq, ↓w_region, ↓ops_cons, ↓g_binOp, Nat.reduceLT, ev_tab, a5, a4, b_lss, k1, decide_false, ↓ops_nil, ↓w_cond, upd_eq, ↓w_skip, ↓w_block, ↓g_indexAddr, Try.underlying22, ne_eq, Nat.reduceEqDiff, not_false_eq_true, upd_ne, a3, ↓g_load, ↓g_assign, ↓g_move, ↓w_exit, ↓w_ret, a2, ev_const, of_bool, ret_two, and_true, if_true, onS_some, onB_false]
      rw [hi2]
      rfl
  · have h5 := varN_5 l.length (by omega)
    have e0 : ackP l 0 = varN l.length := by simp [ackP]
    refine ⟨_, rfl, by omega, by rw [e0]; omega, ?_, ?_, ?_, ?_⟩
    · simp -implicitDefEqProofs only [ne_eq, Nat.reduceEqDiff, not_false_eq_true, upd_ne, upd_eq, e0]
      rfl
    · simp -implicitDefEqProofs only [ne_eq, Nat.reduceEqDiff, not_false_eq_true, upd_ne, upd_eq]
    · simp -implicitDefEqProofs only [ne_eq, Nat.reduceEqDiff, not_false_eq_true, upd_ne, upd_eq]
    · simp -implicitDefEqProofs only [upd_eq, Int.cast_ofNat_Int]
theorem ackS {H : AHeap} {x : AV} {l : List Int} (h : UpL l) (h100 : l.length ≤ 100) (hx : IsL H x .i64 l) : Sound Try.prog 12 [x] H (.tup [.sc (.string (ackT l)), .sc (.bool true)]) H := by
  refine Sound.run 26 [.tmp 2, .tmp 3] Try.func12 rfl rfl rfl rfl (by simp) ?_
  have lx := fun e => hx.len e
  simp -implicitDefEqProofs only [↓w_seq, ↓w_region, ↓ops_cons, ↓g_assign, ↓ops_nil, ev_const, of_str, of_bool, ↓g_move, Nat.reduceLT, ev_tab, ne_eq, reduceCtorEq, not_false_eq_true, upd_ne, par0]
  refine call1S (by simp -implicitDefEqProofs only [List.map_cons, Nat.reduceLT, ev_tab, upd_eq, List.map_nil] <;> rfl) (upS true (by simp [h, h100]) hx (by omega)) ?_
  simp -implicitDefEqProofs only [↓ops_cons, ↓g_unOp, Nat.reduceLT, ev_tab, upd_eq, u_not, Bool.not_true, Option.map_some, ↓ops_nil, ↓w_cond, ↓w_seq, ↓w_region, ↓g_assign, ↓w_ret, ev_const, of_str, of_bool, ret_two, ne_eq, Nat.reduceEqDiff, not_false_eq_true, upd_ne, and_true, ↓w_skip, ↓g_move, ↓g_len, Try.underlying22, reduceCtorEq, par0, lx, onS_some, onB_false]
  refine call1 (by simp -implicitDefEqProofs only [List.map_cons, Nat.reduceLT, ev_tab, upd_eq, List.map_nil] <;> rfl) (varS l.length (by omega)) ?_
  simp -implicitDefEqProofs only [↓ops_cons, ↓g_assign, ↓ops_nil, ↓w_seq, ↓w_region, Nat.reduceLT, ev_tab, upd_eq, ↓w_block, ev_const, of_int]
  refine w_loop (ι := Nat) (fun i s => ∃ T : Nat → AV, s = ⟨tab 26 T, H⟩ ∧ i ≤ l.length ∧ (ackP l i).length ≤ 5 * (i + 1) ∧ T 0 = x ∧ T 4 = .sc (.string (strOfNums (ackP l i))) ∧ T 5 = .sc (.int .i64 i)) (fun i => l.length - i) ?_ (i := 0) ?_
  · rintro i s ⟨T, rfl, a1, a0, a2, a3, a4⟩
    by_cases hi : i < l.length
    · have k1 : (i : Int) < l.length := by omega
      have k2 : (0 : Int) ≤ i := by omega
      obtain ⟨r, o, rfl, hr⟩ := hx.get (i := i) hi
      have e1 : IntKind.i64.wrap ((i : Int) + 1) = i + 1 := w64 (by omega) (by omega)
      obtain ⟨n1, n2⟩ := up_nat h hi
      have hv := varS (l.getD i 0).toNat (by omega)
      rw [← n1] at hv
      have h5 := varN_5 (l.getD i 0).toNat (by omega)
      have hs := ackP_s l i hi
      have hsl : (ackP l (i + 1)).length ≤ 5 * (i + 1 + 1) := by
        rw [← hs, List.length_append]
        omega
      simp -implicitDefEqProofs only [↓w_seq, ↓w_region, ↓ops_cons, ↓g_move, ↓g_len, Try.underlying22, Nat.reduceLT, ev_tab, a4, ne_eq, reduceCtorEq, not_false_eq_true, upd_ne, a2, upd_eq, lx, ↓g_binOp, Nat.reduceEqDiff, ↓ops_nil, ↓w_cond, ↓w_skip, ↓w_block, ↓g_indexAddr, a3, adr_sl, k2, k1, cells3, tyOk3, and_self, Int.toNat_natCast, Nat.mul_one, Nat.zero_add, if_true, ↓g_load, onS_some, rd_def, agg3, hr, rd_ints, hi, ↓w_exit, ↓g_assign, ↓w_ret, ev_const, of_bool, ret_two, and_true, b_lss, decide_true, onB_true]
      try refine drawn [(4, 0)] follows (by kernel_rfl) (by kernel_rfl) ?_
      try simp -implicitDefEqProofs only [↓w_seq, ↓w_skip, ↓w_ret, ↓w_exit, ↓w_block, ↓w_cond, ↓w_region, ↓ops_nil, ↓ops_cons, ↓dops_0, ↓dops_p, ↓dops_cons, ↓g_move, ↓g_assign, ↓g_binOp, ↓g_unOp, ↓g_pick, ↓g_len, ↓g_index, ↓g_indexAddr, ↓g_slice, ↓g_convert, ↓g_load, ↓g_store, ↓g_extract, ↓g_nilCheck, ↓g_fieldT, ↓g_fieldAddrT, of_agg, rd_aggc, rd_onec, wr_c, cells_int, cells_str, cells_bool, cells_nil, cells_sl, cells_ptr, cells_agg, one_int, one_str, one_bool, one_nil, one_sl, one_ptr, over_0, over_s, List.all_cons, List.all_nil, Bool.and_true, Bool.and_self, List.getElem?_nil, List.drop_succ_cons, List.drop_nil, ↓g_guard_t, ↓g_guard_f, ↓g_alloc, ↓g_box, ↓g_buildSlice, ↓g_makeSlice, ↓g_buildV, rdA, wrA, ints_one, List.length_replicate, ↓g_append, src_sl, src_nil, src_str, ap_ints, ap_intsN, kill_len, kill_0, kill_s, bnd_none, bnd_int, cut_str, cutS_some, cut_sl, cutL_some, bits_i64, bits_u32, bits_u8, List.getD_cons_zero, List.getD_cons_succ, at_end, at_a, at_b, yielded_tab, dstAt_0, dstAt_s, ybv_some, boolOf_b, ext_0, ext_1, ext_2, ext_3, alK_some, ev_tab, ev_const, upd_eq, upd_ne, par0, par1, par2, par3, par4, par5, of_int, of_str, of_bool, len_str, len_arr, len_sl, idx_str, adr_sl, adr_arr, c_int, c_str, c_bytes, c_text, pick_b, onS_some, onS_ite, onS_not, b_add, b_sub, b_mul, b_and, b_or, b_xor, b_eql, b_neq, b_lss, b_leq, b_gtr, b_geq, b_shl, b_shr, b_quo, b_rem, t_add, t_eql, t_neq, v_eql, v_neq, b_andNot, u_not, onB_true, onB_false, onB_dec, onB_not, ret_cell, ret_ct, retP_0, retP_1, retP_2, retP_3, res_tmp, res_cell, ret_one, ret_two, ret_three, ret_none, List.set_set, if_true, if_false, ite_true, ite_false, List.map_cons, List.map_nil, Option.map_some, Option.map_none, List.toList_toArray, rd_def, rd_ints, wr_def, wr_ints, at_def, at_ints, bytes_ints, bytesA_ints, ints_set, nums_len, List.length_nil, List.length_cons, List.length_set, List.length_append, List.nil_append, List.cons_append, List.getElem?_cons_zero, List.getElem?_cons_succ, List.set_cons_zero, List.set_cons_succ, List.drop_zero, List.take_succ_cons, List.take_zero, List.take_length, Option.bind_some, true_and, and_true, Nat.zero_add, Nat.mul_one, Int.toNat_zero, Int.reduceToNat, Int.reduceAdd, Int.reduceSub, Int.reduceMul, Int.reduceNeg, Nat.reduceAdd, Nat.reduceSub, Nat.reduceMul, Nat.reducePow, Nat.min_eq_left, Int.reducePow, Nat.le_refl, Int.cast_ofNat_Int, Nat.reduceLT, Nat.reduceLeDiff, Nat.reduceEqDiff, Int.reduceLE, Int.reduceLT, Int.reduceEq, ne_eq, not_false_eq_true, not_true_eq_false, reduceCtorEq, decide_true, decide_false, and_self, and_false, false_and, Bool.not_true, Bool.not_false, Try.underlying0, Try.underlying1, Try.underlying2, Try.underlying3, Try.underlying4, Try.underlying5, Try.underlying6, Try.underlying7, Try.underlying8, Try.underlying9, Try.underlying10, Try.underlying11, Try.underlying12, Try.underlying13, Try.underlying14, Try.underlying15, Try.underlying16, Try.underlying17, Try.underlying18, Try.underlying19, Try.underlying20, Try.underlying21, Try.underlying22, Try.underlying23, Try.underlying24, Try.underlying25, Try.underlying26, Try.underlying27, Try.underlying28, Try.underlying29, Try.underlying30, Try.underlying31, Try.underlying32, Try.underlying33, Try.underlying34, Try.underlying35, Try.underlying36, Try.underlying37, Try.underlying38, Try.underlying39, Try.underlying40, Try.underlying41, Try.underlying42, Try.underlying43, Try.underlying44, Try.underlying45, Try.underlying46, Try.underlying47, Try.underlying48, Try.underlying49, Try.underlying50, Try.underlying51, Try.underlying52, Try.underlying53, Try.underlying54, Try.underlying55, Try.underlying56, Try.underlying57, Try.underlying58, Try.underlying59, Try.underlying60, Try.underlying61, Try.underlying62, Try.underlying63, Try.underlying64, Try.underlying65, Try.underlying66, Try.underlying67, Try.underlying68, Try.underlying69, Try.underlying70, Try.underlying71, Try.underlying72, Try.underlying73, Try.underlying74, Try.underlying75, Try.underlying76, Try.underlying77, Try.underlying78, Try.underlying79, Try.underlying80, Try.underlying81, Try.underlying82, Try.underlying83, Try.underlying84, Try.underlying85, Try.underlying86, Try.underlying87, Try.underlying88, Try.underlying89, Try.underlying90, Try.underlying91, Try.underlying92, Try.underlying93, Try.underlying94, Try.underlying95, Try.underlying96, Try.underlying97, Try.underlying98, Try.underlying99, Try.underlying100, Try.underlying101, Try.underlying102, Try.underlying103, Try.underlying104, Try.underlying105, Try.underlying106, Try.underlying107, Try.underlying108, Try.underlying109, Try.underlying110, Try.underlying111, Try.underlying112, Try.underlying113, Try.underlying114, tyOk0, agg0, cells0, tyOk1, agg1, cells1, tyOk2, agg2, cells2, zero2, info2, mk2, bs2_0, bs2_1, bs2_2, bs2_3, bs2_4, bs2_5, bs2_8, tyOk3, agg3, cells3, zero3, apS22, apN22, info3, mk3, bs3_0, bs3_1, bs3_2, bs3_3, bs3_4, bs3_5, bs3_8, tyOk4, agg4, cells4, zero4, tyOk5, agg5, cells5, isU5, zero5, apS46, apN46, apStr46, info5, mk5, bs5_0, bs5_1, bs5_2, bs5_3, bs5_4, bs5_5, bs5_8, tyOk6, agg6, cells6, isU6, zero6, info6, mk6, bs6_0, bs6_1, bs6_2, bs6_3, bs6_4, bs6_5, bs6_8, tyOk7, agg7, cells7, zero7, fadr7_0, fld7_0, fadr7_1, fld7_1, fadr7_2, fld7_2, fadr7_3, fld7_3, bz7, bds7, tyOk8, agg8, cells8, zero8, fadr8_0, fld8_0, fadr8_1, fld8_1, fadr8_2, fld8_2, fadr8_3, fld8_3, bz8, bds8, tyOk9, agg9, cells9, zero9, tyOk10, agg10, cells10, zero10, tyOk11, agg11, cells11, zero11, tyOk12, agg12, cells12, zero12, info12, mk12, bs12_0, bs12_1, bs12_2, bs12_3, bs12_4, bs12_5, bs12_8, tyOk13, agg13, cells13, zero13, fadr13_0, fld13_0, fadr13_1, fld13_1, bz13, bds13, tyOk14, agg14, cells14, zero14, fadr14_0, fld14_0, fadr14_1, fld14_1, bz14, bds14, tyOk15, agg15, cells15, zero15, tyOk16, agg16, cells16, zero16, tyOk17, agg17, cells17, zero17, tyOk18, agg18, cells18, zero18, fadr18_0, fld18_0, bz18, bds18, tyOk19, agg19, cells19, zero19, fadr19_0, fld19_0, bz19, bds19, tyOk20, agg20, cells20, tyOk21, agg21, cells21, zero21, info21, mk21, bs21_0, bs21_1, bs21_2, bs21_3, bs21_4, bs21_5, bs21_8, tyOk22, agg22, cells22, zero22, tyOk23, agg23, cells23, tyOk24, agg24, cells24, tyOk25, agg25, cells25, tyOk26, agg26, cells26, tyOk27, agg27, cells27, tyOk28, agg28, cells28, zero28, fadr28_0, fld28_0, fadr28_1, fld28_1, fadr28_2, fld28_2, bz28, bds28, tyOk29, agg29, cells29, zero29, fadr29_0, fld29_0, fadr29_1, fld29_1, fadr29_2, fld29_2, bz29, bds29, tyOk30, agg30, cells30, tyOk31, agg31, cells31, tyOk32, agg32, cells32, zero32, fadr32_0, fld32_0, fadr32_1, fld32_1, fadr32_2, fld32_2, bz32, bds32, tyOk33, agg33, cells33, tyOk34, agg34, cells34, tyOk35, agg35, cells35, tyOk36, agg36, cells36, tyOk37, agg37, cells37, tyOk38, agg38, cells38, tyOk39, agg39, cells39, tyOk40, agg40, cells40, tyOk41, agg41, cells41, tyOk42, agg42, cells42, tyOk43, agg43, cells43, tyOk44, agg44, cells44, tyOk45, agg45, cells45, tyOk46, agg46, cells46, zero46, tyOk47, agg47, cells47, tyOk48, agg48, cells48, tyOk49, agg49, cells49, tyOk50, agg50, cells50, tyOk51, agg51, cells51, tyOk52, agg52, cells52, tyOk53, agg53, cells53, tyOk54, agg54, cells54, tyOk55, agg55, cells55, tyOk56, agg56, cells56, tyOk57, agg57, cells57, tyOk58, agg58, cells58, tyOk59, agg59, cells59, tyOk60, agg60, cells60, tyOk61, agg61, cells61, zero61, tyOk62, agg62, cells62, tyOk63, agg63, cells63, tyOk64, agg64, cells64, tyOk65, agg65, cells65, tyOk66, agg66, cells66, tyOk67, agg67, cells67, tyOk68, agg68, cells68, tyOk69, agg69, cells69, tyOk70, agg70, cells70, zero70, fadr70_0, fld70_0, fadr70_1, fld70_1, fadr70_2, fld70_2, bz70, bds70, tyOk71, agg71, cells71, zero71, fadr71_0, fld71_0, fadr71_1, fld71_1, fadr71_2, fld71_2, bz71, bds71, tyOk72, agg72, cells72, zero72, info72, mk72, bs72_0, bs72_1, bs72_2, bs72_3, bs72_4, bs72_5, bs72_8, tyOk73, agg73, cells73, tyOk74, agg74, cells74, tyOk75, agg75, cells75, tyOk76, agg76, cells76, tyOk77, agg77, cells77, zero77, info77, mk77, bs77_0, bs77_1, bs77_2, bs77_3, bs77_4, bs77_5, bs77_8, tyOk78, agg78, cells78, tyOk79, agg79, cells79, tyOk80, agg80, cells80, tyOk81, agg81, cells81, tyOk82, agg82, cells82, tyOk83, agg83, cells83, tyOk84, agg84, cells84, tyOk85, agg85, cells85, tyOk86, agg86, cells86, zero86, info86, mk86, bs86_0, bs86_1, bs86_2, bs86_3, bs86_4, bs86_5, bs86_8, tyOk87, agg87, cells87, tyOk88, agg88, cells88, zero88, info88, mk88, bs88_0, bs88_1, bs88_2, bs88_3, bs88_4, bs88_5, bs88_8, tyOk89, agg89, cells89, zero89, info89, mk89, bs89_0, bs89_1, bs89_2, bs89_3, bs89_4, bs89_5, bs89_8, tyOk90, agg90, cells90, tyOk91, agg91, cells91, tyOk92, agg92, cells92, tyOk93, agg93, cells93, zero93, tyOk94, agg94, cells94, tyOk95, agg95, cells95, tyOk96, agg96, cells96, zero96, tyOk97, agg97, cells97, tyOk98, agg98, cells98, tyOk99, agg99, cells99, tyOk100, agg100, cells100, zero100, fadr100_0, fld100_0, fadr100_1, fld100_1, fadr100_2, fld100_2, fadr100_3, fld100_3, bz100, bds100, tyOk101, agg101, cells101, zero101, fadr101_0, fld101_0, fadr101_1, fld101_1, fadr101_2, fld101_2, fadr101_3, fld101_3, bz101, bds101, tyOk102, agg102, cells102, zero102, tyOk103, agg103, cells103, zero103, tyOk104, agg104, cells104, zero104, tyOk105, agg105, cells105, tyOk106, agg106, cells106, isU106, zero106, info106, mk106, bs106_0, bs106_1, bs106_2, bs106_3, bs106_4, bs106_5, bs106_8, tyOk107, agg107, cells107, isU107, zero107, info107, mk107, bs107_0, bs107_1, bs107_2, bs107_3, bs107_4, bs107_5, bs107_8, tyOk108, agg108, cells108, tyOk109, agg109, cells109, zero109, tyOk110, agg110, cells110, zero110, info110, mk110, bs110_0, bs110_1, bs110_2, bs110_3, bs110_4, bs110_5, bs110_8, tyOk111, agg111, cells111, zero111, info111, mk111, bs111_0, bs111_1, bs111_2, bs111_3, bs111_4, bs111_5, bs111_8, tyOk112, agg112, cells112, fadr112_0, fld112_0, fadr112_1, fld112_1, fadr112_2, fld112_2, fadr112_3, fld112_3, fadr112_4, fld112_4, fadr112_5, fld112_5, fadr112_6, fld112_6, fadr112_7, fld112_7, fadr112_8, fld112_8, fadr112_9, fld112_9, fadr112_10, fld112_10, tyOk113, agg113, cells113, fadr113_0, fld113_0, fadr113_1, fld113_1, fadr113_2, fld113_2, fadr113_3, fld113_3, fadr113_4, fld113_4, fadr113_5, fld113_5, fadr113_6, fld113_6, fadr113_7, fld113_7, fadr113_8, fld113_8, fadr113_9, fld113_9, fadr113_10, fld113_10, tyOk114, agg114, cells114, zero114, a2, a3, a4, lx, k1, k2, hi, hr, Int.toNat_natCast]
      refine call1 (by simp -implicitDefEqProofs only [List.map_cons, Nat.reduceLT, ev_tab, upd_eq, List.map_nil] <;> rfl) hv ?_
      have hvt : varT (l.getD i 0).toNat = strOfNums (varN (l.getD i 0).toNat) := rfl
      simp -implicitDefEqProofs only [↓ops_cons, ↓g_binOp, hvt, Nat.reduceLT, ev_tab, ne_eq, Nat.reduceEqDiff, not_false_eq_true, upd_ne, upd_eq, t_add, son_size, son_append, hs, ↓g_assign, ↓ops_nil, ↓w_region, ↓g_move, a4, ev_const, of_int, b_add, e1, onS_some, onS_ite]
      refine ⟨by omega, i + 1, by omega, _, rfl, by omega, hsl, ?_, ?_, ?_⟩ <;> simp -implicitDefEqProofs only [ne_eq, reduceCtorEq, not_false_eq_true, upd_ne, a2, Nat.reduceEqDiff, upd_eq] <;> rfl
    · have k1 : ¬ (i : Int) < l.length := by omega
      have hi2 : i = l.length := by omega
      simp -implicitDefEqProofs only [↓w_seq, ↓w_region, ↓ops_cons, ↓g_move, ↓g_len, Try.underlying22, Nat.reduceLT, ev_tab, a4, ne_eq, reduceCtorEq, not_false_eq_true, upd_ne, a2, upd_eq, lx, ↓g_binOp, Nat.reduceEqDiff, ↓ops_nil, ↓w_cond, ↓w_skip, ↓w_block, ↓g_indexAddr, a3, ↓g_load, ↓w_exit, ↓g_assign, ↓w_ret, ev_const, of_bool, ret_two, and_true, if_true, onS_some, b_lss, k1, decide_false, onB_false]
      rw [hi2]
      rfl
  · have h5 := varN_5 l.length (by omega)
    have e0 : ackP l 0 = varN l.length := by simp [ackP]
    refine ⟨_, rfl, by omega, by rw [e0]; omega, ?_, ?_, ?_⟩
    · simp -implicitDefEqProofs only [ne_eq, reduceCtorEq, not_false_eq_true, upd_ne, par0]
    · simp -implicitDefEqProofs only [ne_eq, Nat.reduceEqDiff, not_false_eq_true, upd_ne, upd_eq, e0]
      rfl
    · simp -implicitDefEqProofs only [upd_eq, Int.cast_ofNat_Int]
theorem ackNoI {H : AHeap} {x : AV} {l : List Int} (h : ¬ (UpL l ∧ l.length ≤ 100)) (hl : l.length ≤ 1000000000) (hx : IsL H x .i64 l) : Sound Try.prog 14 [x] H (.tup [.sc (.string ByteArray.empty), .sc (.bool false)]) H := by
  refine Sound.run 40 [.tmp 2, .tmp 3] Try.func14 rfl rfl rfl rfl (by simp) ?_
  have lx := fun e => hx.len e
  simp -implicitDefEqProofs only [↓w_seq, ↓w_region, ↓ops_cons, ↓g_assign, ↓ops_nil, ev_const, of_str, of_bool, ↓g_move, Nat.reduceLT, ev_tab, ne_eq, reduceCtorEq, not_false_eq_true, upd_ne, par0]
  by_cases hU : UpL l
  · refine call1S (by simp -implicitDefEqProofs only [List.map_cons, Nat.reduceLT, ev_tab, upd_eq, List.map_nil] <;> rfl) (upI true (by simp [hU]) hx (by omega)) ?_
    have k0 : (100 : Int) < l.length := by
      have : ¬ l.length ≤ 100 := fun q => h ⟨hU, q⟩
      omega
    simp -implicitDefEqProofs only [↓ops_cons, ↓g_unOp, Nat.reduceLT, ev_tab, upd_eq, u_not, Bool.not_true, Option.map_some, ↓g_move, onS_some, yielded_tab, dstAt_s, dstAt_0, ybv_some, boolOf_b, ↓g_guard_t, ne_eq, reduceCtorEq, not_false_eq_true, upd_ne, par0, Nat.reduceEqDiff, ↓g_len, Try.underlying22, lx, ↓g_binOp, ev_const, of_int, ↓g_pick, of_bool, pick_b, if_false, ↓ops_nil, ↓w_cond, ↓w_seq, ↓w_region, ↓g_assign, ↓w_ret, of_str, ret_two, and_true, ↓w_skip, b_gtr, k0, decide_true, onB_true]
    try rfl
  · refine call1S (by simp -implicitDefEqProofs only [List.map_cons, Nat.reduceLT, ev_tab, upd_eq, List.map_nil] <;> rfl) (upI false (by simp [hU]) hx (by omega)) ?_
    simp -implicitDefEqProofs only [↓ops_cons, ↓g_unOp, Nat.reduceLT, ev_tab, upd_eq, u_not, Bool.not_false, Option.map_some, ↓g_move, onS_some, yielded_tab, dstAt_s, dstAt_0, ybv_some, boolOf_b, ↓g_guard_f, ne_eq, Nat.reduceEqDiff, not_false_eq_true, upd_ne, ↓g_pick, ev_const, of_bool, pick_b, if_true, ↓ops_nil, ↓w_cond, ↓w_seq, ↓w_region, ↓g_assign, ↓w_ret, of_str, ret_two, and_true, ↓w_skip, ↓g_len, Try.underlying22, reduceCtorEq, par0, onB_true]
    try rfl
theorem ackNoS {H : AHeap} {x : AV} {l : List Int} (h : ¬ (UpL l ∧ l.length ≤ 100)) (hl : l.length ≤ 1000000000) (hx : IsL H x .i64 l) : Sound Try.prog 12 [x] H (.tup [.sc (.string ByteArray.empty), .sc (.bool false)]) H := by
  refine Sound.run 26 [.tmp 2, .tmp 3] Try.func12 rfl rfl rfl rfl (by simp) ?_
  simp -implicitDefEqProofs only [↓w_seq, ↓w_region, ↓ops_cons, ↓g_assign, ↓ops_nil, ev_const, of_str, of_bool, ↓g_move, Nat.reduceLT, ev_tab, ne_eq, reduceCtorEq, not_false_eq_true, upd_ne, par0]
  refine call1S (by simp -implicitDefEqProofs only [List.map_cons, Nat.reduceLT, ev_tab, upd_eq, List.map_nil] <;> rfl) (upS false (by simpa using h) hx (by omega)) ?_
  simp -implicitDefEqProofs only [↓ops_cons, ↓g_unOp, Nat.reduceLT, ev_tab, upd_eq, u_not, Bool.not_false, Option.map_some, ↓ops_nil, ↓w_cond, ↓w_seq, ↓w_region, ↓g_assign, ↓w_ret, ev_const, of_str, of_bool, ret_two, ne_eq, Nat.reduceEqDiff, not_false_eq_true, upd_ne, and_true, ↓w_skip, ↓g_move, ↓g_len, Try.underlying22, reduceCtorEq, par0, onS_some, onB_true]
  try rfl
end Go.Proofs.Ytcjjcpdfnndenaa.Sim

