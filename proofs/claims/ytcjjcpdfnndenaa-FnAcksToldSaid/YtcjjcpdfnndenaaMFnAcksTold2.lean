/- Texts of this proof, put together. -/
import Derived.Test.YtcjjcpdfnndenaaMFnAcksTold1
import Derived.Test.YtcjjcpdfnndenaaTy
import Derived.Test.YtcjjcpdfnndenaaChecked
namespace Go.Proofs.Ytcjjcpdfnndenaa.Sim
open Go
set_option maxRecDepth 100000
set_option maxHeartbeats 40000000
set_option linter.unusedSimpArgs false
set_option linter.unusedVariables false
theorem sub_len : ∀ (g s : List Int), g.Pairwise (· ≠ ·) → (∀ v ∈ g, v ∈ s) → g.length ≤ s.length
  | [], s, _, _ => Nat.zero_le _
  | a :: g, s, h, hm => by
    rw [List.pairwise_cons] at h
    have ha := hm a (List.mem_cons_self ..)
    have := sub_len g (s.erase a) h.2 fun v hv => (List.mem_erase_of_ne (fun e => h.1 v hv e.symm)).2 (hm v (List.mem_cons_of_mem _ hv))
    rw [List.length_erase_of_mem ha] at this
    have := List.length_pos_of_mem ha
    rw [List.length_cons]
    omega
theorem up_lt {l : List Int} (h : UpL l) (i : Nat) : ∀ k, i + k + 1 < l.length → l.getD i 0 < l.getD (i + k + 1) 0
  | 0, hk => (h (i + 1) hk).2 (by omega)
  | k + 1, hk => by
    have h1 := up_lt h i k (by omega)
    have h2 := (h (i + k + 1 + 1) (by omega)).2 (by omega)
    exact Int.lt_trans h1 h2
theorem up_ne {l : List Int} (h : UpL l) : l.Pairwise (· ≠ ·) := by
  rw [List.pairwise_iff_getElem]
  intro i j hi hj hij
  have := up_lt h i (j - i - 1) (by omega)
  have e : i + (j - i - 1) + 1 = j := by omega
  rw [e] at this
  simp only [List.getD_eq_getElem?_getD, List.getElem?_eq_getElem hi, List.getElem?_eq_getElem hj, Option.getD_some] at this
  omega
def FlOk (s g : List Int) (t : Int) : Prop := UpL s ∧ UpL g ∧ s.length ≤ 100 ∧ (0 ≤ t ∧ t ≤ 1000) ∧ ∀ v ∈ g, v ∈ s
theorem upIT {H : AHeap} {x : AV} {l : List Int} (h : UpL l) (hx : IsL H x .i64 l) (hl : l.length ≤ 1000000000) : Sound Try.prog 46 [x] H (.sc (.bool true)) H := upI true ⟨fun _ => h, fun _ => rfl⟩ hx (by omega)
theorem upIF {H : AHeap} {x : AV} {l : List Int} (h : ¬ UpL l) (hx : IsL H x .i64 l) (hl : l.length ≤ 1000000000) : Sound Try.prog 46 [x] H (.sc (.bool false)) H := upI false ⟨fun q => (Bool.noConfusion q), fun q => absurd q h⟩ hx (by omega)
theorem upST {H : AHeap} {x : AV} {l : List Int} (h : UpL l ∧ l.length ≤ 100) (hx : IsL H x .i64 l) (hl : l.length ≤ 1000000000) : Sound Try.prog 44 [x] H (.sc (.bool true)) H := upS true ⟨fun _ => h, fun _ => rfl⟩ hx (by omega)
theorem upSF {H : AHeap} {x : AV} {l : List Int} (h : ¬ (UpL l ∧ l.length ≤ 100)) (hx : IsL H x .i64 l) (hl : l.length ≤ 1000000000) : Sound Try.prog 44 [x] H (.sc (.bool false)) H := upS false ⟨fun q => (Bool.noConfusion q), fun q => absurd q h⟩ hx (by omega)
theorem flOkI {H : AHeap} {x y : AV} {s g : List Int} (t : Int) (b : Bool) (hb : b = true ↔ FlOk s g t) (hx : IsL H x .i64 s) (hy : IsL H y .i64 g) (hs : s.length ≤ 1000000000) (hg : g.length ≤ 1000000000) : ∃ Z : AHeap, Sound Try.prog 25 [flt x y t] H (.sc (.bool b)) Z ∧ Ext H Z := by
  suffices h : ∃ v Z, Sound Try.prog 25 [flt x y t] H v Z ∧ v = .sc (.bool b) ∧ Ext H Z by
    obtain ⟨v, Z, h1, rfl, h2⟩ := h
    exact ⟨Z, h1, h2⟩
  unfold flt
  refine Sound.runP (args := [.agg [x, y, .sc (.int .i64 t)]]) 40 [.tmp 2] Try.func25 rfl rfl rfl rfl (by simp) (fun v Z => v = .sc (.bool b) ∧ Ext H Z) ?_
  have x1 := hx.one
  have y1 := hy.one
  have bF : ¬ FlOk s g t → b = false := fun h => by
    cases b with
    | false => rfl
    | true => exact absurd (hb.1 rfl) h
  obtain ⟨A, hA⟩ : ∃ A : Reg, A = ⟨[x, y, .sc (.int .i64 t)], true, true⟩ := ⟨_, rfl⟩
  have e0 := Ext.more H [A]
  have a0 := hap_0 H [A]
  have lx := fun e => (e0.isL hx).len e
  have ly := fun e => (e0.isL hy).len e
  have b0 : (H ++ [A])[H.length]? = some ⟨[x, y, .sc (.int .i64 t)], true, true⟩ := by rw [← hA]; exact a0
  clear a0
  by_cases c1 : UpL s
  · have u1 := upIT c1 (e0.isL hx) hs
    by_cases c2 : UpL g
    · have u2 := upIT c2 (e0.isL hy) hg
      by_cases c3 : s.length ≤ 100
      · have k3 : ¬ (100 : Int) < s.length := by omega
        by_cases c4 : 0 ≤ t ∧ t ≤ 1000
        · simp -implicitDefEqProofs only [↓w_seq, ↓w_region, ↓ops_cons, ↓g_box, Nat.reduceLT, ev_tab, par0, cells_agg, ↓g_assign, ↓ops_nil, ev_const, of_bool, ↓g_fieldAddrT, ne_eq, Nat.reduceEqDiff, not_false_eq_true, upd_ne, upd_eq, ↓g_load, alK_some, List.all_cons, x1, y1, one_int, List.all_nil, Bool.and_self, fadr32_0, Nat.zero_add, onS_some, rd_def, tyOk22, agg22, cells22, hap_0, List.getElem?_cons_zero, rd_onec, true_and]
          rw [← hA]
          refine call1S (by simp -implicitDefEqProofs only [List.map_cons, Nat.reduceLT, ev_tab, upd_eq, List.map_nil] <;> rfl) u1 ?_
          simp -implicitDefEqProofs only [↓ops_cons, ↓g_unOp, Nat.reduceLT, ev_tab, upd_eq, u_not, Bool.not_true, Option.map_some, ↓g_move, onS_some, yielded_tab, dstAt_s, dstAt_0, ybv_some, boolOf_b, ↓g_guard_t, ↓g_fieldAddrT, ne_eq, Nat.reduceEqDiff, not_false_eq_true, upd_ne, fadr32_1, Nat.zero_add, ↓g_load, rd_def, tyOk22, agg22, cells22, b0, rd_onec, List.getElem?_cons_succ, List.getElem?_cons_zero]
          refine call1S (by simp -implicitDefEqProofs only [List.map_cons, Nat.reduceLT, ev_tab, upd_eq, List.map_nil] <;> rfl) u2 ?_
          simp -implicitDefEqProofs only [↓ops_cons, yielded_tab, dstAt_s, dstAt_0, Nat.reduceLT, ybv_some, ne_eq, Nat.reduceEqDiff, not_false_eq_true, upd_ne, upd_eq, boolOf_b, ↓g_guard_t, ↓g_unOp, ev_tab, u_not, Bool.not_true, Option.map_some, ↓g_pick, ev_const, of_bool, pick_b, reduceCtorEq, if_false, ↓g_move, onS_some, ↓g_fieldAddrT, fadr32_0, Nat.zero_add, ↓g_load, ↓g_len, Try.underlying22, ↓g_binOp, of_int, rd_def, tyOk22, agg22, cells22, b0, rd_onec, List.getElem?_cons_zero, lx, b_gtr, k3, decide_false, fadr32_2, tyOk3, agg3, cells3, List.getElem?_cons_succ]
          refine call1 (by simp -implicitDefEqProofs only [List.map_cons, Nat.reduceLT, ev_tab, upd_eq, ev_const, of_int, List.map_nil] <;> rfl) (inI t 0 1000) ?_
          rw [decide_eq_true c4]
          simp -implicitDefEqProofs only [↓ops_cons, yielded_tab, dstAt_s, dstAt_0, Nat.reduceLT, ybv_some, ne_eq, Nat.reduceEqDiff, not_false_eq_true, upd_ne, upd_eq, boolOf_b, ↓g_guard_t, ↓g_unOp, ev_tab, u_not, Bool.not_true, Option.map_some, ↓g_pick, ev_const, of_bool, pick_b, reduceCtorEq, if_false, ↓ops_nil, ↓w_cond, ↓w_seq, ↓w_region, ↓g_assign, ↓w_ret, retP_1, res_tmp, onS_some, ↓w_skip, ↓g_fieldAddrT, fadr32_1, Nat.zero_add, ↓g_load, ↓g_len, Try.underlying22, ↓g_move, ↓w_block, of_int, rd_def, tyOk22, agg22, cells22, b0, rd_onec, List.getElem?_cons_succ, List.getElem?_cons_zero, ly, onB_false]
          refine w_loop (ι := Nat) (fun i st => ∃ T : Nat → AV, st = ⟨tab 40 T, H ++ [A]⟩ ∧ i ≤ g.length ∧ (∀ j, j < i → g.getD j 0 ∈ s) ∧ T 1 = .ptr H.length 0 ∧ T 28 = y ∧ T 29 = .sc (.int .i64 g.length) ∧ T 30 = .sc (.int .i64 i)) (fun i => g.length - i) ?_ (i := 0) ?_
          · rintro i st ⟨T, rfl, a1, a2, a3, a4, a5, a6⟩
            by_cases h : i < g.length
            · have k1 : (i : Int) < g.length := by omega
              have k2 : (0 : Int) ≤ i := by omega
              have e1 : IntKind.i64.wrap ((i : Int) + 1) = i + 1 := w64 (by omega) (by omega)
              obtain ⟨r, o, hyr, hr⟩ := (e0.isL hy).get (i := i) h
              have hc := inLI (g.getD i 0) (e0.isL hx) hs
              by_cases hm : g.getD i 0 ∈ s
              · rw [decide_eq_true hm] at hc
                simp -implicitDefEqProofs only [↓w_seq, ↓w_region, hyr, ↓ops_cons, ↓g_binOp, Nat.reduceLT, ev_tab, a6, a5, b_lss, k1, decide_true, ↓ops_nil, ↓w_cond, upd_eq, ↓w_skip, ↓w_block, ↓g_indexAddr, Try.underlying22, ne_eq, Nat.reduceEqDiff, not_false_eq_true, upd_ne, a4, adr_sl, k2, cells3, tyOk3, and_self, Int.toNat_natCast, Nat.mul_one, Nat.zero_add, if_true, ↓g_load, ↓g_assign, ↓g_fieldAddrT, a3, fadr32_0, ↓g_move, onS_some, rd_def, tyOk22, agg22, cells22, b0, rd_onec, List.getElem?_cons_zero, agg3, hr, rd_ints, h, ↓w_exit, ↓w_ret, ev_const, of_bool, retP_1, res_tmp, onB_true]
                refine call1S (by first | rfl | (simp -implicitDefEqProofs only [↓w_seq, ↓w_skip, ↓w_ret, ↓w_exit, ↓w_block, ↓w_cond, ↓w_region, ↓ops_nil, ↓ops_cons, ↓dops_0, ↓dops_p, ↓dops_cons, ↓g_move, ↓g_assign, ↓g_binOp, ↓g_unOp, ↓g_pick, ↓g_len, ↓g_index, ↓g_indexAddr, ↓g_slice, ↓g_convert, ↓g_load, ↓g_store, ↓g_extract, ↓g_nilCheck, ↓g_fieldT, ↓g_fieldAddrT, of_agg, rd_aggc, rd_onec, wr_c, cells_int, cells_str, cells_bool, cells_nil, cells_sl, cells_ptr, cells_agg, one_int, one_str, one_bool, one_nil, one_sl, one_ptr, over_0, over_s, List.all_cons, List.all_nil, Bool.and_true, Bool.and_self, List.getElem?_nil, List.drop_succ_cons, List.drop_nil, ↓g_guard_t, ↓g_guard_f, ↓g_alloc, ↓g_box, ↓g_buildSlice, ↓g_makeSlice, ↓g_buildV, rdA, wrA, ints_one, List.length_replicate, bools_one, strs_one, rd_bools, rd_strs, wr_bools, wr_strs, at_bools, at_strs, ap_bools, ap_boolsN, ap_strs, ap_strsN, ↓g_append, src_sl, src_nil, src_str, ap_ints, ap_intsN, kill_len, kill_0, kill_s, bnd_none, bnd_int, cut_str, cutS_some, cut_sl, cutL_some, bits_i64, bits_u32, bits_u8, List.getD_cons_zero, List.getD_cons_succ, at_end, at_a, at_b, yielded_tab, dstAt_0, dstAt_s, ybv_some, boolOf_b, ext_0, ext_1, ext_2, ext_3, alK_some, ev_tab, ev_const, upd_eq, upd_ne, par0, par1, par2, par3, par4, par5, of_int, of_str, of_bool, len_str, len_arr, len_sl, idx_str, adr_sl, adr_arr, c_int, c_str, c_bytes, c_text, pick_b, onS_some, onS_ite, onS_not, b_add, b_sub, b_mul, b_and, b_or, b_xor, b_eql, b_neq, b_lss, b_leq, b_gtr, b_geq, b_shl, b_shr, b_quo, b_rem, t_add, t_eql, t_neq, v_eql, v_neq, b_andNot, u_not, onB_true, onB_false, onB_dec, onB_not, ret_cell, ret_ct, retP_0, retP_1, retP_2, retP_3, res_tmp, res_cell, ret_one, ret_two, ret_three, ret_none, List.set_set, if_true, if_false, ite_true, ite_false, List.map_cons, List.map_nil, Option.map_some, Option.map_none, List.toList_toArray, rd_def, rd_ints, wr_def, wr_ints, at_def, at_ints, bytes_ints, bytesA_ints, ints_set, nums_len, List.length_nil, List.length_cons, List.length_set, List.length_append, List.nil_append, List.cons_append, List.getElem?_cons_zero, List.getElem?_cons_succ, List.set_cons_zero, List.set_cons_succ, List.drop_zero, List.take_succ_cons, List.take_zero, List.take_length, Option.bind_some, true_and, and_true, Nat.zero_add, Nat.mul_one, Int.toNat_zero, Int.reduceToNat, Int.reduceAdd, Int.reduceSub, Int.reduceMul, Int.reduceNeg, Nat.reduceAdd, Nat.reduceSub, Nat.reduceMul, Nat.reducePow, Nat.min_eq_left, Int.reducePow, Nat.le_refl, Int.cast_ofNat_Int, Nat.reduceLT, Nat.reduceLeDiff, Nat.reduceEqDiff, Int.reduceLE, Int.reduceLT, Int.reduceEq, ne_eq, not_false_eq_true, not_true_eq_false, reduceCtorEq, decide_true, decide_false, and_self, and_false, false_and, Bool.not_true, Bool.not_false, Try.underlying0, Try.underlying1, Try.underlying2, Try.underlying3, Try.underlying4, Try.underlying5, Try.underlying6, Try.underlying7, Try.underlying8, Try.underlying9, Try.underlying10, Try.underlying11, Try.underlying12, Try.underlying13, Try.underlying14, Try.underlying15, Try.underlying16, Try.underlying17, Try.underlying18, Try.underlying19, Try.underlying20, Try.underlying21, Try.underlying22, Try.underlying23, Try.underlying24, Try.underlying25, Try.underlying26, Try.underlying27, Try.underlying28, Try.underlying29, Try.underlying30, Try.underlying31, Try.underlying32, Try.underlying33, Try.underlying34, Try.underlying35, Try.underlying36, Try.underlying37, Try.underlying38, Try.underlying39, Try.underlying40, Try.underlying41, Try.underlying42, Try.underlying43, Try.underlying44, Try.underlying45, Try.underlying46, Try.underlying47, Try.underlying48, Try.underlying49, Try.underlying50, Try.underlying51, Try.underlying52, Try.underlying53, Try.underlying54, Try.underlying55, Try.underlying56, Try.underlying57, Try.underlying58, Try.underlying59, Try.underlying60, Try.underlying61, Try.underlying62, Try.underlying63, Try.underlying64, Try.underlying65, Try.underlying66, Try.underlying67, Try.underlying68, Try.underlying69, Try.underlying70, Try.underlying71, Try.underlying72, Try.underlying73, Try.underlying74, Try.underlying75, Try.underlying76, Try.underlying77, Try.underlying78, Try.underlying79, Try.underlying80, Try.underlying81, Try.underlying82, Try.underlying83, Try.underlying84, Try.underlying85, Try.underlying86, Try.underlying87, Try.underlying88, Try.underlying89, Try.underlying90, Try.underlying91, Try.underlying92, Try.underlying93, Try.underlying94, Try.underlying95, Try.underlying96, Try.underlying97, Try.underlying98, Try.underlying99, Try.underlying100, Try.underlying101, Try.underlying102, Try.underlying103, Try.underlying104, Try.underlying105, Try.underlying106, Try.underlying107, Try.underlying108, Try.underlying109, Try.underlying110, Try.underlying111, Try.underlying112, Try.underlying113, Try.underlying114, tyOk0, agg0, cells0, tyOk1, agg1, cells1, tyOk2, agg2, cells2, zero2, info2, mk2, bs2_0, bs2_1, bs2_2, bs2_3, bs2_4, bs2_5, bs2_6, bs2_7, bs2_8, bs2_10, bs2_11, bs2_12, bs2_13, tyOk3, agg3, cells3, zero3, apS22, apN22, info3, mk3, bs3_0, bs3_1, bs3_2, bs3_3, bs3_4, bs3_5, bs3_6, bs3_7, bs3_8, bs3_10, bs3_11, bs3_12, bs3_13, tyOk4, agg4, cells4, zero4, info4, mk4, bs4_0, bs4_1, bs4_2, tyOk5, agg5, cells5, isU5, zero5, apS46, apN46, apStr46, info5, mk5, bs5_0, bs5_1, bs5_2, bs5_3, bs5_4, bs5_5, bs5_6, bs5_7, bs5_8, bs5_10, bs5_11, bs5_12, bs5_13, tyOk6, agg6, cells6, isU6, zero6, info6, mk6, bs6_0, bs6_1, bs6_2, bs6_3, bs6_4, bs6_5, bs6_6, bs6_7, bs6_8, bs6_10, bs6_11, bs6_12, bs6_13, tyOk7, agg7, cells7, zero7, fadr7_0, fld7_0, fadr7_1, fld7_1, fadr7_2, fld7_2, fadr7_3, fld7_3, bz7, bds7, tyOk8, agg8, cells8, zero8, fadr8_0, fld8_0, fadr8_1, fld8_1, fadr8_2, fld8_2, fadr8_3, fld8_3, bz8, bds8, tyOk9, agg9, cells9, zero9, info9, bs9_0, bs9_1, bs9_2, bs9_3, bs9_4, bs9_5, bs9_6, bs9_8, bs9_9, bs9_10, tyOk10, agg10, cells10, zero10, info10, bs10_0, bs10_1, bs10_2, bs10_3, bs10_4, bs10_5, bs10_6, bs10_8, bs10_9, bs10_10, tyOk11, agg11, cells11, zero11, info11, bs11_0, bs11_1, bs11_2, bs11_3, bs11_4, bs11_5, bs11_6, bs11_8, bs11_9, bs11_10, tyOk12, agg12, cells12, zero12, info12, mk12, bs12_0, bs12_1, bs12_2, bs12_3, bs12_4, bs12_5, bs12_6, bs12_7, bs12_8, bs12_10, bs12_11, bs12_12, bs12_13, tyOk13, agg13, cells13, zero13, fadr13_0, fld13_0, fadr13_1, fld13_1, bz13, bds13, tyOk14, agg14, cells14, zero14, fadr14_0, fld14_0, fadr14_1, fld14_1, bz14, bds14, tyOk15, agg15, cells15, zero15, tyOk16, agg16, cells16, zero16, tyOk17, agg17, cells17, zero17, tyOk18, agg18, cells18, zero18, fadr18_0, fld18_0, bz18, bds18, tyOk19, agg19, cells19, zero19, fadr19_0, fld19_0, bz19, bds19, tyOk20, agg20, cells20, tyOk21, agg21, cells21, zero21, info21, mk21, bs21_0, bs21_1, bs21_2, bs21_3, bs21_4, bs21_5, bs21_6, bs21_7, bs21_8, bs21_10, bs21_11, bs21_12, bs21_13, tyOk22, agg22, cells22, zero22, tyOk23, agg23, cells23, tyOk24, agg24, cells24, tyOk25, agg25, cells25, tyOk26, agg26, cells26, tyOk27, agg27, cells27, tyOk28, agg28, cells28, zero28, fadr28_0, fld28_0, fadr28_1, fld28_1, fadr28_2, fld28_2, bz28, bds28, tyOk29, agg29, cells29, zero29, fadr29_0, fld29_0, fadr29_1, fld29_1, fadr29_2, fld29_2, bz29, bds29, tyOk30, agg30, cells30, tyOk31, agg31, cells31, tyOk32, agg32, cells32, zero32, fadr32_0, fld32_0, fadr32_1, fld32_1, fadr32_2, fld32_2, bz32, bds32, tyOk33, agg33, cells33, tyOk34, agg34, cells34, tyOk35, agg35, cells35, tyOk36, agg36, cells36, tyOk37, agg37, cells37, tyOk38, agg38, cells38, tyOk39, agg39, cells39, tyOk40, agg40, cells40, tyOk41, agg41, cells41, tyOk42, agg42, cells42, tyOk43, agg43, cells43, tyOk44, agg44, cells44, tyOk45, agg45, cells45, tyOk46, agg46, cells46, zero46, tyOk47, agg47, cells47, tyOk48, agg48, cells48, tyOk49, agg49, cells49, tyOk50, agg50, cells50, tyOk51, agg51, cells51, tyOk52, agg52, cells52, tyOk53, agg53, cells53, tyOk54, agg54, cells54, tyOk55, agg55, cells55, tyOk56, agg56, cells56, tyOk57, agg57, cells57, tyOk58, agg58, cells58, tyOk59, agg59, cells59, tyOk60, agg60, cells60, tyOk61, agg61, cells61, zero61, tyOk62, agg62, cells62, tyOk63, agg63, cells63, tyOk64, agg64, cells64, tyOk65, agg65, cells65, tyOk66, agg66, cells66, tyOk67, agg67, cells67, tyOk68, agg68, cells68, tyOk69, agg69, cells69, tyOk70, agg70, cells70, zero70, fadr70_0, fld70_0, fadr70_1, fld70_1, fadr70_2, fld70_2, bz70, bds70, tyOk71, agg71, cells71, zero71, fadr71_0, fld71_0, fadr71_1, fld71_1, fadr71_2, fld71_2, bz71, bds71, tyOk72, agg72, cells72, zero72, info72, mk72, bs72_0, bs72_1, bs72_2, bs72_3, bs72_4, bs72_5, bs72_6, bs72_7, bs72_8, bs72_10, bs72_11, bs72_12, bs72_13, tyOk73, agg73, cells73, tyOk74, agg74, cells74, tyOk75, agg75, cells75, tyOk76, agg76, cells76, tyOk77, agg77, cells77, zero77, info77, mk77, bs77_0, bs77_1, bs77_2, bs77_3, bs77_4, bs77_5, bs77_6, bs77_7, bs77_8, bs77_10, bs77_11, bs77_12, bs77_13, tyOk78, agg78, cells78, tyOk79, agg79, cells79, tyOk80, agg80, cells80, tyOk81, agg81, cells81, tyOk82, agg82, cells82, tyOk83, agg83, cells83, tyOk84, agg84, cells84, tyOk85, agg85, cells85, tyOk86, agg86, cells86, zero86, info86, mk86, bs86_0, bs86_1, bs86_2, bs86_3, bs86_4, bs86_5, bs86_6, bs86_7, bs86_8, bs86_10, bs86_11, bs86_12, bs86_13, tyOk87, agg87, cells87, tyOk88, agg88, cells88, zero88, info88, mk88, bs88_0, bs88_1, bs88_2, bs88_3, bs88_4, bs88_5, bs88_6, bs88_7, bs88_8, bs88_10, bs88_11, bs88_12, bs88_13, tyOk89, agg89, cells89, zero89, info89, mk89, bs89_0, bs89_1, bs89_2, bs89_3, bs89_4, bs89_5, bs89_6, bs89_7, bs89_8, bs89_10, bs89_11, bs89_12, bs89_13, tyOk90, agg90, cells90, tyOk91, agg91, cells91, tyOk92, agg92, cells92, tyOk93, agg93, cells93, zero93, tyOk94, agg94, cells94, tyOk95, agg95, cells95, tyOk96, agg96, cells96, zero96, tyOk97, agg97, cells97, tyOk98, agg98, cells98, tyOk99, agg99, cells99, tyOk100, agg100, cells100, zero100, fadr100_0, fld100_0, fadr100_1, fld100_1, fadr100_2, fld100_2, fadr100_3, fld100_3, bz100, bds100, tyOk101, agg101, cells101, zero101, fadr101_0, fld101_0, fadr101_1, fld101_1, fadr101_2, fld101_2, fadr101_3, fld101_3, bz101, bds101, tyOk102, agg102, cells102, zero102, tyOk103, agg103, cells103, zero103, tyOk104, agg104, cells104, zero104, tyOk105, agg105, cells105, tyOk106, agg106, cells106, isU106, zero106, info106, mk106, bs106_0, bs106_1, bs106_2, bs106_3, bs106_4, bs106_5, bs106_6, bs106_7, bs106_8, bs106_10, bs106_11, bs106_12, bs106_13, tyOk107, agg107, cells107, isU107, zero107, info107, mk107, bs107_0, bs107_1, bs107_2, bs107_3, bs107_4, bs107_5, bs107_6, bs107_7, bs107_8, bs107_10, bs107_11, bs107_12, bs107_13, tyOk108, agg108, cells108, tyOk109, agg109, cells109, zero109, tyOk110, agg110, cells110, zero110, info110, mk110, bs110_0, bs110_1, bs110_2, bs110_3, bs110_4, bs110_5, bs110_6, bs110_7, bs110_8, bs110_10, bs110_11, bs110_12, bs110_13, tyOk111, agg111, cells111, zero111, info111, mk111, bs111_0, bs111_1, bs111_2, bs111_3, bs111_4, bs111_5, bs111_6, bs111_7, bs111_8, bs111_10, bs111_11, bs111_12, bs111_13, tyOk112, agg112, cells112, fadr112_0, fld112_0, fadr112_1, fld112_1, fadr112_2, fld112_2, fadr112_3, fld112_3, fadr112_4, fld112_4, fadr112_5, fld112_5, fadr112_6, fld112_6, fadr112_7, fld112_7, fadr112_8, fld112_8, fadr112_9, fld112_9, fadr112_10, fld112_10, tyOk113, agg113, cells113, fadr113_0, fld113_0, fadr113_1, fld113_1, fadr113_2, fld113_2, fadr113_3, fld113_3, fadr113_4, fld113_4, fadr113_5, fld113_5, fadr113_6, fld113_6, fadr113_7, fld113_7, fadr113_8, fld113_8, fadr113_9, fld113_9, fadr113_10, fld113_10, tyOk114, agg114, cells114, zero114] <;> rfl)) hc ?_
                simp -implicitDefEqProofs only [↓ops_cons, ↓g_unOp, Nat.reduceLT, ev_tab, upd_eq, u_not, Bool.not_true, Option.map_some, ↓ops_nil, ↓w_cond, ↓w_seq, ↓w_region, ↓g_assign, ↓w_ret, ev_const, of_bool, retP_1, res_tmp, onS_some, ↓w_skip, ↓g_binOp, ne_eq, Nat.reduceEqDiff, not_false_eq_true, upd_ne, a6, of_int, b_add, e1, ↓g_move, onB_false]
                refine ⟨i + 1, by omega, _, rfl, by omega, ?_, ?_, ?_, ?_, ?_⟩
                · intro j hj
                  rcases Nat.lt_or_ge j i with q | q
                  · exact a2 j q
                  · obtain rfl : j = i := by omega
                    exact hm
                all_goals (simp -implicitDefEqProofs only [ne_eq, Nat.reduceEqDiff, not_false_eq_true, upd_ne, a3, a4, hyr, a5, upd_eq] <;> rfl)
              · rw [decide_eq_false hm] at hc
                have hbf := bF fun q => hm (q.2.2.2.2 _ (get_mem g i h))
                simp -implicitDefEqProofs only [↓w_seq, ↓w_region, hyr, ↓ops_cons, ↓g_binOp, Nat.reduceLT, ev_tab, a6, a5, b_lss, k1, decide_true, ↓ops_nil, ↓w_cond, upd_eq, ↓w_skip, ↓w_block, ↓g_indexAddr, Try.underlying22, ne_eq, Nat.reduceEqDiff, not_false_eq_true, upd_ne, a4, adr_sl, k2, cells3, tyOk3, and_self, Int.toNat_natCast, Nat.mul_one, Nat.zero_add, if_true, ↓g_load, ↓g_assign, ↓g_fieldAddrT, a3, fadr32_0, ↓g_move, onS_some, rd_def, tyOk22, agg22, cells22, b0, rd_onec, List.getElem?_cons_zero, agg3, hr, rd_ints, h, ↓w_exit, ↓w_ret, ev_const, of_bool, retP_1, res_tmp, onB_true]
                refine call1S (by first | rfl | (simp -implicitDefEqProofs only [↓w_seq, ↓w_skip, ↓w_ret, ↓w_exit, ↓w_block, ↓w_cond, ↓w_region, ↓ops_nil, ↓ops_cons, ↓dops_0, ↓dops_p, ↓dops_cons, ↓g_move, ↓g_assign, ↓g_binOp, ↓g_unOp, ↓g_pick, ↓g_len, ↓g_index, ↓g_indexAddr, ↓g_slice, ↓g_convert, ↓g_load, ↓g_store, ↓g_extract, ↓g_nilCheck, ↓g_fieldT, ↓g_fieldAddrT, of_agg, rd_aggc, rd_onec, wr_c, cells_int, cells_str, cells_bool, cells_nil, cells_sl, cells_ptr, cells_agg, one_int, one_str, one_bool, one_nil, one_sl, one_ptr, over_0, over_s, List.all_cons, List.all_nil, Bool.and_true, Bool.and_self, List.getElem?_nil, List.drop_succ_cons, List.drop_nil, ↓g_guard_t, ↓g_guard_f, ↓g_alloc, ↓g_box, ↓g_buildSlice, ↓g_makeSlice, ↓g_buildV, rdA, wrA, ints_one, List.length_replicate, bools_one, strs_one, rd_bools, rd_strs, wr_bools, wr_strs, at_bools, at_strs, ap_bools, ap_boolsN, ap_strs, ap_strsN, ↓g_append, src_sl, src_nil, src_str, ap_ints, ap_intsN, kill_len, kill_0, kill_s, bnd_none, bnd_int, cut_str, cutS_some, cut_sl, cutL_some, bits_i64, bits_u32, bits_u8, List.getD_cons_zero, List.getD_cons_succ, at_end, at_a, at_b, yielded_tab, dstAt_0, dstAt_s, ybv_some, boolOf_b, ext_0, ext_1, ext_2, ext_3, alK_some, ev_tab, ev_const, upd_eq, upd_ne, par0, par1, par2, par3, par4, par5, of_int, of_str, of_bool, len_str, len_arr, len_sl, idx_str, adr_sl, adr_arr, c_int, c_str, c_bytes, c_text, pick_b, onS_some, onS_ite, onS_not, b_add, b_sub, b_mul, b_and, b_or, b_xor, b_eql, b_neq, b_lss, b_leq, b_gtr, b_geq, b_shl, b_shr, b_quo, b_rem, t_add, t_eql, t_neq, v_eql, v_neq, b_andNot, u_not, onB_true, onB_false, onB_dec, onB_not, ret_cell, ret_ct, retP_0, retP_1, retP_2, retP_3, res_tmp, res_cell, ret_one, ret_two, ret_three, ret_none, List.set_set, if_true, if_false, ite_true, ite_false, List.map_cons, List.map_nil, Option.map_some, Option.map_none, List.toList_toArray, rd_def, rd_ints, wr_def, wr_ints, at_def, at_ints, bytes_ints, bytesA_ints, ints_set, nums_len, List.length_nil, List.length_cons, List.length_set, List.length_append, List.nil_append, List.cons_append, List.getElem?_cons_zero, List.getElem?_cons_succ, List.set_cons_zero, List.set_cons_succ, List.drop_zero, List.take_succ_cons, List.take_zero, List.take_length, Option.bind_some, true_and, and_true, Nat.zero_add, Nat.mul_one, Int.toNat_zero, Int.reduceToNat, Int.reduceAdd, Int.reduceSub, Int.reduceMul, Int.reduceNeg, Nat.reduceAdd, Nat.reduceSub, Nat.reduceMul, Nat.reducePow, Nat.min_eq_left, Int.reducePow, Nat.le_refl, Int.cast_ofNat_Int, Nat.reduceLT, Nat.reduceLeDiff, Nat.reduceEqDiff, Int.reduceLE, Int.reduceLT, Int.reduceEq, ne_eq, not_false_eq_true, not_true_eq_false, reduceCtorEq, decide_true, decide_false, and_self, and_false, false_and, Bool.not_true, Bool.not_false, Try.underlying0, Try.underlying1, Try.underlying2, Try.underlying3, Try.underlying4, Try.underlying5, Try.underlying6, Try.underlying7, Try.underlying8, Try.underlying9, Try.underlying10, Try.underlying11, Try.underlying12, Try.underlying13, Try.underlying14, Try.underlying15, Try.underlying16, Try.underlying17, Try.underlying18, Try.underlying19, Try.underlying20, Try.underlying21, Try.underlying22, Try.underlying23, Try.underlying24, Try.underlying25, Try.underlying26, Try.underlying27, Try.underlying28, Try.underlying29, Try.underlying30, Try.underlying31, Try.underlying32, Try.underlying33, Try.underlying34, Try.underlying35, Try.underlying36, Try.underlying37, Try.underlying38, Try.underlying39, Try.underlying40, Try.underlying41, Try.underlying42, Try.underlying43, Try.underlying44, Try.underlying45, Try.underlying46, Try.underlying47, Try.underlying48, Try.underlying49, Try.underlying50, Try.underlying51, Try.underlying52, Try.underlying53, Try.underlying54, Try.underlying55, Try.underlying56, Try.underlying57, Try.underlying58, Try.underlying59, Try.underlying60, Try.underlying61, Try.underlying62, Try.underlying63, Try.underlying64, Try.underlying65, Try.underlying66, Try.underlying67, Try.underlying68, Try.underlying69, Try.underlying70, Try.underlying71, Try.underlying72, Try.underlying73, Try.underlying74, Try.underlying75, Try.underlying76, Try.underlying77, Try.underlying78, Try.underlying79, Try.underlying80, Try.underlying81, Try.underlying82, Try.underlying83, Try.underlying84, Try.underlying85, Try.underlying86, Try.underlying87, Try.underlying88, Try.underlying89, Try.underlying90, Try.underlying91, Try.underlying92, Try.underlying93, Try.underlying94, Try.underlying95, Try.underlying96, Try.underlying97, Try.underlying98, Try.underlying99, Try.underlying100, Try.underlying101, Try.underlying102, Try.underlying103, Try.underlying104, Try.underlying105, Try.underlying106, Try.underlying107, Try.underlying108, Try.underlying109, Try.underlying110, Try.underlying111, Try.underlying112, Try.underlying113, Try.underlying114, tyOk0, agg0, cells0, tyOk1, agg1, cells1, tyOk2, agg2, cells2, zero2, info2, mk2, bs2_0, bs2_1, bs2_2, bs2_3, bs2_4, bs2_5, bs2_6, bs2_7, bs2_8, bs2_10, bs2_11, bs2_12, bs2_13, tyOk3, agg3, cells3, zero3, apS22, apN22, info3, mk3, bs3_0, bs3_1, bs3_2, bs3_3, bs3_4, bs3_5, bs3_6, bs3_7, bs3_8, bs3_10, bs3_11, bs3_12, bs3_13, tyOk4, agg4, cells4, zero4, info4, mk4, bs4_0, bs4_1, bs4_2, tyOk5, agg5, cells5, isU5, zero5, apS46, apN46, apStr46, info5, mk5, bs5_0, bs5_1, bs5_2, bs5_3, bs5_4, bs5_5, bs5_6, bs5_7, bs5_8, bs5_10, bs5_11, bs5_12, bs5_13, tyOk6, agg6, cells6, isU6, zero6, info6, mk6, bs6_0, bs6_1, bs6_2, bs6_3, bs6_4, bs6_5, bs6_6, bs6_7, bs6_8, bs6_10, bs6_11, bs6_12, bs6_13, tyOk7, agg7, cells7, zero7, fadr7_0, fld7_0, fadr7_1, fld7_1, fadr7_2, fld7_2, fadr7_3, fld7_3, bz7, bds7, tyOk8, agg8, cells8, zero8, fadr8_0, fld8_0, fadr8_1, fld8_1, fadr8_2, fld8_2, fadr8_3, fld8_3, bz8, bds8, tyOk9, agg9, cells9, zero9, info9, bs9_0, bs9_1, bs9_2, bs9_3, bs9_4, bs9_5, bs9_6, bs9_8, bs9_9, bs9_10, tyOk10, agg10, cells10, zero10, info10, bs10_0, bs10_1, bs10_2, bs10_3, bs10_4, bs10_5, bs10_6, bs10_8, bs10_9, bs10_10, tyOk11, agg11, cells11, zero11, info11, bs11_0, bs11_1, bs11_2, bs11_3, bs11_4, bs11_5, bs11_6, bs11_8, bs11_9, bs11_10, tyOk12, agg12, cells12, zero12, info12, mk12, bs12_0, bs12_1, bs12_2, bs12_3, bs12_4, bs12_5, bs12_6, bs12_7, bs12_8, bs12_10, bs12_11, bs12_12, bs12_13, tyOk13, agg13, cells13, zero13, fadr13_0, fld13_0, fadr13_1, fld13_1, bz13, bds13, tyOk14, agg14, cells14, zero14, fadr14_0, fld14_0, fadr14_1, fld14_1, bz14, bds14, tyOk15, agg15, cells15, zero15, tyOk16, agg16, cells16, zero16, tyOk17, agg17, cells17, zero17, tyOk18, agg18, cells18, zero18, fadr18_0, fld18_0, bz18, bds18, tyOk19, agg19, cells19, zero19, fadr19_0, fld19_0, bz19, bds19, tyOk20, agg20, cells20, tyOk21, agg21, cells21, zero21, info21, mk21, bs21_0, bs21_1, bs21_2, bs21_3, bs21_4, bs21_5, bs21_6, bs21_7, bs21_8, bs21_10, bs21_11, bs21_12, bs21_13, tyOk22, agg22, cells22, zero22, tyOk23, agg23, cells23, tyOk24, agg24, cells24, tyOk25, agg25, cells25, tyOk26, agg26, cells26, tyOk27, agg27, cells27, tyOk28, agg28, cells28, zero28, fadr28_0, fld28_0, fadr28_1, fld28_1, fadr28_2, fld28_2, bz28, bds28, tyOk29, agg29, cells29, zero29, fadr29_0, fld29_0, fadr29_1, fld29_1, fadr29_2, fld29_2, bz29, bds29, tyOk30, agg30, cells30, tyOk31, agg31, cells31, tyOk32, agg32, cells32, zero32, fadr32_0, fld32_0, fadr32_1, fld32_1, fadr32_2, fld32_2, bz32, bds32, tyOk33, agg33, cells33, tyOk34, agg34, cells34, tyOk35, agg35, cells35, tyOk36, agg36, cells36, tyOk37, agg37, cells37, tyOk38, agg38, cells38, tyOk39, agg39, cells39, tyOk40, agg40, cells40, tyOk41, agg41, cells41, tyOk42, agg42, cells42, tyOk43, agg43, cells43, tyOk44, agg44, cells44, tyOk45, agg45, cells45, tyOk46, agg46, cells46, zero46, tyOk47, agg47, cells47, tyOk48, agg48, cells48, tyOk49, agg49, cells49, tyOk50, agg50, cells50, tyOk51, agg51, cells51, tyOk52, agg52, cells52, tyOk53, agg53, cells53, tyOk54, agg54, cells54, tyOk55, agg55, cells55, tyOk56, agg56, cells56, tyOk57, agg57, cells57, tyOk58, agg58, cells58, tyOk59, agg59, cells59, tyOk60, agg60, cells60, tyOk61, agg61, cells61, zero61, tyOk62, agg62, cells62, tyOk63, agg63, cells63, tyOk64, agg64, cells64, tyOk65, agg65, cells65, tyOk66, agg66, cells66, tyOk67, agg67, cells67, tyOk68, agg68, cells68, tyOk69, agg69, cells69, tyOk70, agg70, cells70, zero70, fadr70_0, fld70_0, fadr70_1, fld70_1, fadr70_2, fld70_2, bz70, bds70, tyOk71, agg71, cells71, zero71, fadr71_0, fld71_0, fadr71_1, fld71_1, fadr71_2, fld71_2, bz71, bds71, tyOk72, agg72, cells72, zero72, info72, mk72, bs72_0, bs72_1, bs72_2, bs72_3, bs72_4, bs72_5, bs72_6, bs72_7, bs72_8, bs72_10, bs72_11, bs72_12, bs72_13, tyOk73, agg73, cells73, tyOk74, agg74, cells74, tyOk75, agg75, cells75, tyOk76, agg76, cells76, tyOk77, agg77, cells77, zero77, info77, mk77, bs77_0, bs77_1, bs77_2, bs77_3, bs77_4, bs77_5, bs77_6, bs77_7, bs77_8, bs77_10, bs77_11, bs77_12, bs77_13, tyOk78, agg78, cells78, tyOk79, agg79, cells79, tyOk80, agg80, cells80, tyOk81, agg81, cells81, tyOk82, agg82, cells82, tyOk83, agg83, cells83, tyOk84, agg84, cells84, tyOk85, agg85, cells85, tyOk86, agg86, cells86, zero86, info86, mk86, bs86_0, bs86_1, bs86_2, bs86_3, bs86_4, bs86_5, bs86_6, bs86_7, bs86_8, bs86_10, bs86_11, bs86_12, bs86_13, tyOk87, agg87, cells87, tyOk88, agg88, cells88, zero88, info88, mk88, bs88_0, bs88_1, bs88_2, bs88_3, bs88_4, bs88_5, bs88_6, bs88_7, bs88_8, bs88_10, bs88_11, bs88_12, bs88_13, tyOk89, agg89, cells89, zero89, info89, mk89, bs89_0, bs89_1, bs89_2, bs89_3, bs89_4, bs89_5, bs89_6, bs89_7, bs89_8, bs89_10, bs89_11, bs89_12, bs89_13, tyOk90, agg90, cells90, tyOk91, agg91, cells91, tyOk92, agg92, cells92, tyOk93, agg93, cells93, zero93, tyOk94, agg94, cells94, tyOk95, agg95, cells95, tyOk96, agg96, cells96, zero96, tyOk97, agg97, cells97, tyOk98, agg98, cells98, tyOk99, agg99, cells99, tyOk100, agg100, cells100, zero100, fadr100_0, fld100_0, fadr100_1, fld100_1, fadr100_2, fld100_2, fadr100_3, fld100_3, bz100, bds100, tyOk101, agg101, cells101, zero101, fadr101_0, fld101_0, fadr101_1, fld101_1, fadr101_2, fld101_2, fadr101_3, fld101_3, bz101, bds101, tyOk102, agg102, cells102, zero102, tyOk103, agg103, cells103, zero103, tyOk104, agg104, cells104, zero104, tyOk105, agg105, cells105, tyOk106, agg106, cells106, isU106, zero106, info106, mk106, bs106_0, bs106_1, bs106_2, bs106_3, bs106_4, bs106_5, bs106_6, bs106_7, bs106_8, bs106_10, bs106_11, bs106_12, bs106_13, tyOk107, agg107, cells107, isU107, zero107, info107, mk107, bs107_0, bs107_1, bs107_2, bs107_3, bs107_4, bs107_5, bs107_6, bs107_7, bs107_8, bs107_10, bs107_11, bs107_12, bs107_13, tyOk108, agg108, cells108, tyOk109, agg109, cells109, zero109, tyOk110, agg110, cells110, zero110, info110, mk110, bs110_0, bs110_1, bs110_2, bs110_3, bs110_4, bs110_5, bs110_6, bs110_7, bs110_8, bs110_10, bs110_11, bs110_12, bs110_13, tyOk111, agg111, cells111, zero111, info111, mk111, bs111_0, bs111_1, bs111_2, bs111_3, bs111_4, bs111_5, bs111_6, bs111_7, bs111_8, bs111_10, bs111_11, bs111_12, bs111_13, tyOk112, agg112, cells112, fadr112_0, fld112_0, fadr112_1, fld112_1, fadr112_2, fld112_2, fadr112_3, fld112_3, fadr112_4, fld112_4, fadr112_5, fld112_5, fadr112_6, fld112_6, fadr112_7, fld112_7, fadr112_8, fld112_8, fadr112_9, fld112_9, fadr112_10, fld112_10, tyOk113, agg113, cells113, fadr113_0, fld113_0, fadr113_1, fld113_1, fadr113_2, fld113_2, fadr113_3, fld113_3, fadr113_4, fld113_4, fadr113_5, fld113_5, fadr113_6, fld113_6, fadr113_7, fld113_7, fadr113_8, fld113_8, fadr113_9, fld113_9, fadr113_10, fld113_10, tyOk114, agg114, cells114, zero114] <;> rfl)) hc ?_
                simp -implicitDefEqProofs only [↓ops_cons, ↓g_unOp, Nat.reduceLT, ev_tab, upd_eq, u_not, Bool.not_false, Option.map_some, ↓ops_nil, ↓w_cond, ↓w_seq, ↓w_region, hbf, ↓g_assign, ↓w_ret, ev_const, of_bool, retP_1, res_tmp, onS_some, true_and, ↓w_skip, ↓g_binOp, ne_eq, Nat.reduceEqDiff, not_false_eq_true, upd_ne, a6, of_int, b_add, e1, ↓g_move, onB_true]
                exact e0
            · have k1 : ¬ (i : Int) < g.length := by omega
              have hbt : b = true := hb.2 ⟨c1, c2, c3, c4, fun v hv => by
                obtain ⟨j, j1, rfl⟩ := mem_get hv
                exact a2 j (by omega)⟩
              simp -implicitDefEqProofs only [↓w_seq, ↓w_region, hbt, ↓ops_cons, ↓g_binOp, Nat.reduceLT, ev_tab, a6, a5, b_lss, k1, decide_false, ↓ops_nil, ↓w_cond, upd_eq, ↓w_skip, ↓w_block, ↓g_indexAddr, Try.underlying22, ne_eq, Nat.reduceEqDiff, not_false_eq_true, upd_ne, a4, ↓g_load, ↓g_assign, ↓g_fieldAddrT, a3, fadr32_0, Nat.zero_add, ↓g_move, onS_some, rd_def, tyOk22, agg22, cells22, at_end, ↓w_exit, ↓w_ret, ev_const, of_bool, retP_1, res_tmp, true_and, if_true, onB_false]
              exact e0
          · refine ⟨_, rfl, by omega, fun j hj => by omega, ?_, ?_, ?_, ?_⟩ <;> simp -implicitDefEqProofs only [ne_eq, Nat.reduceEqDiff, not_false_eq_true, upd_ne, upd_eq, Int.cast_ofNat_Int] <;> rfl
        · have hbf := bF fun q => c4 q.2.2.2.1
          simp -implicitDefEqProofs only [↓w_seq, ↓w_region, ↓ops_cons, ↓g_box, Nat.reduceLT, ev_tab, par0, cells_agg, ↓g_assign, ↓ops_nil, ev_const, of_bool, ↓g_fieldAddrT, ne_eq, Nat.reduceEqDiff, not_false_eq_true, upd_ne, upd_eq, ↓g_load, alK_some, List.all_cons, x1, y1, one_int, List.all_nil, Bool.and_self, fadr32_0, Nat.zero_add, onS_some, rd_def, tyOk22, agg22, cells22, hap_0, List.getElem?_cons_zero, rd_onec, true_and]
          rw [← hA]
          refine call1S (by simp -implicitDefEqProofs only [List.map_cons, Nat.reduceLT, ev_tab, upd_eq, List.map_nil] <;> rfl) u1 ?_
          simp -implicitDefEqProofs only [↓ops_cons, ↓g_unOp, Nat.reduceLT, ev_tab, upd_eq, u_not, Bool.not_true, Option.map_some, ↓g_move, onS_some, yielded_tab, dstAt_s, dstAt_0, ybv_some, boolOf_b, ↓g_guard_t, ↓g_fieldAddrT, ne_eq, Nat.reduceEqDiff, not_false_eq_true, upd_ne, fadr32_1, Nat.zero_add, ↓g_load, rd_def, tyOk22, agg22, cells22, b0, rd_onec, List.getElem?_cons_succ, List.getElem?_cons_zero]
          refine call1S (by simp -implicitDefEqProofs only [List.map_cons, Nat.reduceLT, ev_tab, upd_eq, List.map_nil] <;> rfl) u2 ?_
          simp -implicitDefEqProofs only [↓ops_cons, yielded_tab, dstAt_s, dstAt_0, Nat.reduceLT, ybv_some, ne_eq, Nat.reduceEqDiff, not_false_eq_true, upd_ne, upd_eq, boolOf_b, ↓g_guard_t, ↓g_unOp, ev_tab, u_not, Bool.not_true, Option.map_some, ↓g_pick, ev_const, of_bool, pick_b, reduceCtorEq, if_false, ↓g_move, onS_some, ↓g_fieldAddrT, fadr32_0, Nat.zero_add, ↓g_load, ↓g_len, Try.underlying22, ↓g_binOp, of_int, rd_def, tyOk22, agg22, cells22, b0, rd_onec, List.getElem?_cons_zero, lx, b_gtr, k3, decide_false, fadr32_2, tyOk3, agg3, cells3, List.getElem?_cons_succ]
          refine call1 (by simp -implicitDefEqProofs only [List.map_cons, Nat.reduceLT, ev_tab, upd_eq, ev_const, of_int, List.map_nil] <;> rfl) (inI t 0 1000) ?_
          rw [decide_eq_false c4]
          simp -implicitDefEqProofs only [↓ops_cons, yielded_tab, dstAt_s, dstAt_0, Nat.reduceLT, ybv_some, ne_eq, Nat.reduceEqDiff, not_false_eq_true, upd_ne, upd_eq, boolOf_b, ↓g_guard_t, ↓g_unOp, ev_tab, u_not, Bool.not_false, Option.map_some, ↓g_pick, ev_const, of_bool, pick_b, reduceCtorEq, if_false, ↓ops_nil, ↓w_cond, ↓w_seq, ↓w_region, hbf, ↓g_assign, ↓w_ret, retP_1, res_tmp, onS_some, true_and, ↓w_skip, ↓g_fieldAddrT, fadr32_1, Nat.zero_add, ↓g_load, ↓g_len, Try.underlying22, ↓g_move, ↓w_block, of_int, rd_def, tyOk22, agg22, cells22, at_end, onB_true]
          exact e0
      · have k3 : (100 : Int) < s.length := by omega
        have hbf := bF fun q => c3 q.2.2.1
        simp -implicitDefEqProofs only [↓w_seq, ↓w_region, ↓ops_cons, ↓g_box, Nat.reduceLT, ev_tab, par0, cells_agg, ↓g_assign, ↓ops_nil, ev_const, of_bool, ↓g_fieldAddrT, ne_eq, Nat.reduceEqDiff, not_false_eq_true, upd_ne, upd_eq, ↓g_load, alK_some, List.all_cons, x1, y1, one_int, List.all_nil, Bool.and_self, fadr32_0, Nat.zero_add, onS_some, rd_def, tyOk22, agg22, cells22, hap_0, List.getElem?_cons_zero, rd_onec, true_and]
        rw [← hA]
        refine call1S (by simp -implicitDefEqProofs only [List.map_cons, Nat.reduceLT, ev_tab, upd_eq, List.map_nil] <;> rfl) u1 ?_
        simp -implicitDefEqProofs only [↓ops_cons, ↓g_unOp, Nat.reduceLT, ev_tab, upd_eq, u_not, Bool.not_true, Option.map_some, ↓g_move, onS_some, yielded_tab, dstAt_s, dstAt_0, ybv_some, boolOf_b, ↓g_guard_t, ↓g_fieldAddrT, ne_eq, Nat.reduceEqDiff, not_false_eq_true, upd_ne, fadr32_1, Nat.zero_add, ↓g_load, rd_def, tyOk22, agg22, cells22, b0, rd_onec, List.getElem?_cons_succ, List.getElem?_cons_zero]
        refine call1S (by simp -implicitDefEqProofs only [List.map_cons, Nat.reduceLT, ev_tab, upd_eq, List.map_nil] <;> rfl) u2 ?_
        simp -implicitDefEqProofs only [↓ops_cons, yielded_tab, dstAt_s, dstAt_0, Nat.reduceLT, ybv_some, ne_eq, Nat.reduceEqDiff, not_false_eq_true, upd_ne, upd_eq, boolOf_b, ↓g_guard_t, ↓g_unOp, ev_tab, u_not, Bool.not_true, Option.map_some, ↓g_pick, ev_const, of_bool, pick_b, reduceCtorEq, if_false, ↓g_move, hbf, onS_some, ↓g_fieldAddrT, fadr32_0, Nat.zero_add, ↓g_load, ↓g_len, Try.underlying22, ↓g_binOp, of_int, rd_def, tyOk22, agg22, cells22, b0, rd_onec, List.getElem?_cons_zero, lx, b_gtr, k3, decide_true, Bool.not_false, ↓g_guard_f, if_true, ↓ops_nil, ↓w_cond, ↓w_seq, ↓w_region, ↓g_assign, ↓w_ret, retP_1, res_tmp, true_and, ↓w_skip, fadr32_1, ↓w_block, List.getElem?_cons_succ, onB_true]
        exact e0
    · have u2 := upIF c2 (e0.isL hy) hg
      have hbf := bF fun q => c2 q.2.1
      simp -implicitDefEqProofs only [↓w_seq, ↓w_region, ↓ops_cons, ↓g_box, Nat.reduceLT, ev_tab, par0, cells_agg, ↓g_assign, ↓ops_nil, ev_const, of_bool, ↓g_fieldAddrT, ne_eq, Nat.reduceEqDiff, not_false_eq_true, upd_ne, upd_eq, ↓g_load, alK_some, List.all_cons, x1, y1, one_int, List.all_nil, Bool.and_self, fadr32_0, Nat.zero_add, onS_some, rd_def, tyOk22, agg22, cells22, hap_0, List.getElem?_cons_zero, rd_onec, true_and]
      rw [← hA]
      refine call1S (by simp -implicitDefEqProofs only [List.map_cons, Nat.reduceLT, ev_tab, upd_eq, List.map_nil] <;> rfl) u1 ?_
      simp -implicitDefEqProofs only [↓ops_cons, ↓g_unOp, Nat.reduceLT, ev_tab, upd_eq, u_not, Bool.not_true, Option.map_some, ↓g_move, onS_some, yielded_tab, dstAt_s, dstAt_0, ybv_some, boolOf_b, ↓g_guard_t, ↓g_fieldAddrT, ne_eq, Nat.reduceEqDiff, not_false_eq_true, upd_ne, fadr32_1, Nat.zero_add, ↓g_load, rd_def, tyOk22, agg22, cells22, b0, rd_onec, List.getElem?_cons_succ, List.getElem?_cons_zero]
      refine call1S (by simp -implicitDefEqProofs only [List.map_cons, Nat.reduceLT, ev_tab, upd_eq, List.map_nil] <;> rfl) u2 ?_
      simp -implicitDefEqProofs only [↓ops_cons, yielded_tab, dstAt_s, dstAt_0, Nat.reduceLT, ybv_some, ne_eq, Nat.reduceEqDiff, not_false_eq_true, upd_ne, upd_eq, boolOf_b, ↓g_guard_t, ↓g_unOp, ev_tab, u_not, Bool.not_false, Option.map_some, ↓g_pick, ev_const, of_bool, pick_b, reduceCtorEq, if_false, ↓g_move, hbf, onS_some, ↓g_guard_f, if_true, ↓ops_nil, ↓w_cond, ↓w_seq, ↓w_region, ↓g_assign, ↓w_ret, retP_1, res_tmp, true_and, ↓w_skip, ↓g_fieldAddrT, fadr32_1, Nat.zero_add, ↓g_load, ↓g_len, Try.underlying22, ↓w_block, of_int, rd_def, tyOk22, agg22, cells22, b0, rd_onec, List.getElem?_cons_succ, List.getElem?_cons_zero, onB_true]
      exact e0
  · have u1 := upIF c1 (e0.isL hx) hs
    have hbf := bF fun q => c1 q.1
    simp -implicitDefEqProofs only [↓w_seq, ↓w_region, ↓ops_cons, ↓g_box, Nat.reduceLT, ev_tab, par0, cells_agg, ↓g_assign, ↓ops_nil, ev_const, of_bool, ↓g_fieldAddrT, ne_eq, Nat.reduceEqDiff, not_false_eq_true, upd_ne, upd_eq, ↓g_load, alK_some, List.all_cons, x1, y1, one_int, List.all_nil, Bool.and_self, fadr32_0, Nat.zero_add, onS_some, rd_def, tyOk22, agg22, cells22, hap_0, List.getElem?_cons_zero, rd_onec, true_and]
    rw [← hA]
    refine call1S (by simp -implicitDefEqProofs only [List.map_cons, Nat.reduceLT, ev_tab, upd_eq, List.map_nil] <;> rfl) u1 ?_
    simp -implicitDefEqProofs only [↓ops_cons, ↓g_unOp, Nat.reduceLT, ev_tab, upd_eq, u_not, Bool.not_false, Option.map_some, ↓g_move, hbf, onS_some, yielded_tab, dstAt_s, dstAt_0, ybv_some, boolOf_b, ↓g_guard_f, ne_eq, Nat.reduceEqDiff, not_false_eq_true, upd_ne, ↓g_pick, ev_const, of_bool, pick_b, if_true, ↓ops_nil, ↓w_cond, ↓w_seq, ↓w_region, ↓g_assign, ↓w_ret, retP_1, res_tmp, true_and, ↓w_skip, ↓g_fieldAddrT, fadr32_1, Nat.zero_add, ↓g_load, ↓g_len, Try.underlying22, ↓w_block, of_int, rd_def, tyOk22, agg22, cells22, b0, rd_onec, List.getElem?_cons_succ, List.getElem?_cons_zero, onB_true]
    exact e0
theorem flOkS {H : AHeap} {x y : AV} {s g : List Int} (t : Int) (b : Bool) (hb : b = true ↔ FlOk s g t) (hx : IsL H x .i64 s) (hy : IsL H y .i64 g) (hs : s.length ≤ 1000000000) (hg : g.length ≤ 1000000000) : ∃ Z : AHeap, Sound Try.prog 24 [flt x y t] H (.sc (.bool b)) Z ∧ Ext H Z := by
  suffices h : ∃ v Z, Sound Try.prog 24 [flt x y t] H v Z ∧ v = .sc (.bool b) ∧ Ext H Z by
    obtain ⟨v, Z, h1, rfl, h2⟩ := h
    exact ⟨Z, h1, h2⟩
  unfold flt
  refine Sound.runP (args := [.agg [x, y, .sc (.int .i64 t)]]) 36 [.tmp 2] Try.func24 rfl rfl rfl rfl (by simp) (fun v Z => v = .sc (.bool b) ∧ Ext H Z) ?_
  have x1 := hx.one
  have y1 := hy.one
  have bF : ¬ FlOk s g t → b = false := fun h => by
    cases b with
    | false => rfl
    | true => exact absurd (hb.1 rfl) h
  obtain ⟨A, hA⟩ : ∃ A : Reg, A = ⟨[x, y, .sc (.int .i64 t)], true, true⟩ := ⟨_, rfl⟩
  have e0 := Ext.more H [A]
  have a0 := hap_0 H [A]
  have lx := fun e => (e0.isL hx).len e
  have ly := fun e => (e0.isL hy).len e
  have b0 : (H ++ [A])[H.length]? = some ⟨[x, y, .sc (.int .i64 t)], true, true⟩ := by rw [← hA]; exact a0
  clear a0
  by_cases c1 : UpL s ∧ s.length ≤ 100
  · have u1 := upST c1 (e0.isL hx) hs
    by_cases c2 : UpL g ∧ g.length ≤ 100
    · have u2 := upST c2 (e0.isL hy) hg
      by_cases c4 : 0 ≤ t ∧ t ≤ 1000
      · simp -implicitDefEqProofs only [↓w_seq, ↓w_region, ↓ops_cons, ↓g_box, Nat.reduceLT, ev_tab, par0, cells_agg, ↓g_assign, ↓ops_nil, ev_const, of_bool, ↓g_fieldAddrT, ne_eq, Nat.reduceEqDiff, not_false_eq_true, upd_ne, upd_eq, ↓g_load, alK_some, List.all_cons, x1, y1, one_int, List.all_nil, Bool.and_self, fadr32_0, Nat.zero_add, onS_some, rd_def, tyOk22, agg22, cells22, hap_0, List.getElem?_cons_zero, rd_onec, true_and]
        rw [← hA]
        refine call1S (by simp -implicitDefEqProofs only [List.map_cons, Nat.reduceLT, ev_tab, upd_eq, List.map_nil] <;> rfl) u1 ?_
        simp -implicitDefEqProofs only [↓ops_cons, ↓g_unOp, Nat.reduceLT, ev_tab, upd_eq, u_not, Bool.not_true, Option.map_some, ↓g_move, onS_some, yielded_tab, dstAt_s, dstAt_0, ybv_some, boolOf_b, ↓g_guard_t, ↓g_fieldAddrT, ne_eq, Nat.reduceEqDiff, not_false_eq_true, upd_ne, fadr32_1, Nat.zero_add, ↓g_load, rd_def, tyOk22, agg22, cells22, b0, rd_onec, List.getElem?_cons_succ, List.getElem?_cons_zero]
        refine call1S (by simp -implicitDefEqProofs only [List.map_cons, Nat.reduceLT, ev_tab, upd_eq, List.map_nil] <;> rfl) u2 ?_
        simp -implicitDefEqProofs only [↓ops_cons, yielded_tab, dstAt_s, dstAt_0, Nat.reduceLT, ybv_some, ne_eq, Nat.reduceEqDiff, not_false_eq_true, upd_ne, upd_eq, boolOf_b, ↓g_guard_t, ↓g_unOp, ev_tab, u_not, Bool.not_true, Option.map_some, ↓g_pick, ev_const, of_bool, pick_b, reduceCtorEq, if_false, ↓g_move, onS_some, ↓g_fieldAddrT, fadr32_2, Nat.zero_add, ↓g_load, rd_def, tyOk3, agg3, cells3, b0, rd_onec, List.getElem?_cons_succ, List.getElem?_cons_zero]
        refine call1 (by simp -implicitDefEqProofs only [List.map_cons, Nat.reduceLT, ev_tab, upd_eq, ev_const, of_int, List.map_nil] <;> rfl) (inS t 0 1000) ?_
        rw [decide_eq_true c4]
        simp -implicitDefEqProofs only [↓ops_cons, yielded_tab, dstAt_s, dstAt_0, Nat.reduceLT, ybv_some, ne_eq, Nat.reduceEqDiff, not_false_eq_true, upd_ne, upd_eq, boolOf_b, ↓g_guard_t, ↓g_unOp, ev_tab, u_not, Bool.not_true, Option.map_some, ↓g_pick, ev_const, of_bool, pick_b, reduceCtorEq, if_false, ↓ops_nil, ↓w_cond, ↓w_seq, ↓w_region, ↓g_assign, ↓w_ret, retP_1, res_tmp, onS_some, ↓w_skip, ↓w_block, of_int, onB_false]
        refine w_loop (ι := Nat) (fun i st => ∃ T : Nat → AV, st = ⟨tab 36 T, H ++ [A]⟩ ∧ i ≤ g.length ∧ (∀ j, j < i → g.getD j 0 ∈ s) ∧ T 1 = .ptr H.length 0 ∧ T 3 = .sc (.int .i64 i)) (fun i => g.length - i) ?_ (i := 0) ?_
        · rintro i st ⟨T, rfl, a1, a2, a3, a4⟩
          by_cases h : i < g.length
          · have k1 : (i : Int) < g.length := by omega
            have k2 : (0 : Int) ≤ i := by omega
            have e1 : IntKind.i64.wrap ((i : Int) + 1) = i + 1 := w64 (by omega) (by omega)
            obtain ⟨r, o, hyr, hr⟩ := (e0.isL hy).get (i := i) h
            have hc := inLS (g.getD i 0) (e0.isL hx) hs
            by_cases hm : g.getD i 0 ∈ s
            · rw [decide_eq_true hm] at hc
              simp -implicitDefEqProofs only [↓w_seq, ↓w_region, ↓ops_cons, ↓g_move, ↓g_fieldAddrT, Nat.reduceLT, ev_tab, a4, ne_eq, Nat.reduceEqDiff, not_false_eq_true, upd_ne, a3, fadr32_1, Nat.zero_add, ↓g_load, upd_eq, ↓g_len, Try.underlying22, ↓g_binOp, ↓ops_nil, ↓w_cond, ↓w_skip, ↓w_block, ↓w_exit, ↓g_assign, ↓w_ret, ev_const, of_bool, retP_1, res_tmp, onS_some, if_true, rd_def, tyOk22, agg22, cells22, b0, rd_onec, List.getElem?_cons_succ, List.getElem?_cons_zero, ly, b_lss, k1, decide_true, onB_true]
              refine drawn [(1, 0), (3, 0), (6, 0)] follows (by kernel_rfl) (by kernel_rfl) ?_
              simp -implicitDefEqProofs only [hyr, ↓dops_cons, ↓g_fieldAddrT, Nat.reduceLT, ev_tab, ne_eq, Nat.reduceEqDiff, not_false_eq_true, upd_ne, a3, fadr32_0, Nat.zero_add, ↓g_load, upd_eq, fadr32_1, ↓g_move, ↓g_indexAddr, Try.underlying22, a4, onS_some, rd_def, tyOk22, agg22, cells22, b0, rd_onec, List.getElem?_cons_succ, List.getElem?_cons_zero, adr_sl, k2, k1, cells3, tyOk3, and_self, Int.toNat_natCast, Nat.mul_one, if_true, agg3, hr, rd_ints, h]
              refine call1S (by simp -implicitDefEqProofs only [List.map_cons, Nat.reduceLT, ev_tab, ne_eq, Nat.reduceEqDiff, not_false_eq_true, upd_ne, upd_eq, List.map_nil] <;> rfl) hc ?_
              simp -implicitDefEqProofs only [↓dops_cons, ↓g_unOp, Nat.reduceLT, ev_tab, upd_eq, u_not, Bool.not_true, Option.map_some, ↓dops_p, ↓w_cond, ↓w_seq, ↓w_region, ↓ops_cons, ↓g_assign, ↓ops_nil, ↓w_ret, ev_const, of_bool, retP_1, res_tmp, onS_some, ↓w_skip, ↓g_move, ↓g_binOp, ne_eq, Nat.reduceEqDiff, not_false_eq_true, upd_ne, of_int, onB_false]
              refine ⟨pairs_cons (same_H rfl) (pairs_cons (same_H rfl) (pairs_cons (same_H rfl) (pairs_nil))), ?_⟩
              simp -implicitDefEqProofs only [a4, b_add, e1, onS_some]
              refine ⟨i + 1, by omega, _, rfl, by omega, ?_, ?_, ?_⟩
              · intro j hj
                rcases Nat.lt_or_ge j i with q | q
                · exact a2 j q
                · obtain rfl : j = i := by omega
                  exact hm
              all_goals (simp -implicitDefEqProofs only [ne_eq, Nat.reduceEqDiff, not_false_eq_true, upd_ne, a3, upd_eq] <;> rfl)
            · rw [decide_eq_false hm] at hc
              have hbf := bF fun q => hm (q.2.2.2.2 _ (get_mem g i h))
              simp -implicitDefEqProofs only [↓w_seq, ↓w_region, ↓ops_cons, ↓g_move, ↓g_fieldAddrT, Nat.reduceLT, ev_tab, a4, ne_eq, Nat.reduceEqDiff, not_false_eq_true, upd_ne, a3, fadr32_1, Nat.zero_add, ↓g_load, upd_eq, ↓g_len, Try.underlying22, ↓g_binOp, ↓ops_nil, ↓w_cond, ↓w_skip, ↓w_block, ↓w_exit, ↓g_assign, ↓w_ret, ev_const, of_bool, retP_1, res_tmp, onS_some, if_true, rd_def, tyOk22, agg22, cells22, b0, rd_onec, List.getElem?_cons_succ, List.getElem?_cons_zero, ly, b_lss, k1, decide_true, onB_true]
              refine drawn [(1, 0), (3, 0), (6, 0)] follows (by kernel_rfl) (by kernel_rfl) ?_
              simp -implicitDefEqProofs only [hyr, ↓dops_cons, ↓g_fieldAddrT, Nat.reduceLT, ev_tab, ne_eq, Nat.reduceEqDiff, not_false_eq_true, upd_ne, a3, fadr32_0, Nat.zero_add, ↓g_load, upd_eq, fadr32_1, ↓g_move, ↓g_indexAddr, Try.underlying22, a4, onS_some, rd_def, tyOk22, agg22, cells22, b0, rd_onec, List.getElem?_cons_succ, List.getElem?_cons_zero, adr_sl, k2, k1, cells3, tyOk3, and_self, Int.toNat_natCast, Nat.mul_one, if_true, agg3, hr, rd_ints, h]
              refine call1S (by simp -implicitDefEqProofs only [List.map_cons, Nat.reduceLT, ev_tab, ne_eq, Nat.reduceEqDiff, not_false_eq_true, upd_ne, upd_eq, List.map_nil] <;> rfl) hc ?_
              simp -implicitDefEqProofs only [↓dops_cons, ↓g_unOp, Nat.reduceLT, ev_tab, upd_eq, u_not, Bool.not_false, Option.map_some, ↓dops_p, ↓w_cond, ↓w_seq, ↓w_region, ↓ops_cons, ↓g_assign, ↓ops_nil, ↓w_ret, ev_const, of_bool, retP_1, res_tmp, onS_some, ↓w_skip, ↓g_move, ↓g_binOp, ne_eq, Nat.reduceEqDiff, not_false_eq_true, upd_ne, of_int, onB_true]
              refine ⟨pairs_cons (same_H rfl) (pairs_cons (same_H rfl) (pairs_cons (same_H rfl) (pairs_nil))), ?_⟩
              simp -implicitDefEqProofs only [hbf, true_and]
              exact e0
          · have k1 : ¬ (i : Int) < g.length := by omega
            have hbt : b = true := hb.2 ⟨c1.1, c2.1, c1.2, c4, fun v hv => by
              obtain ⟨j, j1, rfl⟩ := mem_get hv
              exact a2 j (by omega)⟩
            simp -implicitDefEqProofs only [↓w_seq, ↓w_region, hbt, ↓ops_cons, ↓g_move, ↓g_fieldAddrT, Nat.reduceLT, ev_tab, a4, ne_eq, Nat.reduceEqDiff, not_false_eq_true, upd_ne, a3, fadr32_1, Nat.zero_add, ↓g_load, upd_eq, ↓g_len, Try.underlying22, ↓g_binOp, ↓ops_nil, ↓w_cond, ↓w_skip, ↓w_block, ↓w_exit, ↓g_assign, ↓w_ret, ev_const, of_bool, retP_1, res_tmp, onS_some, true_and, if_true, rd_def, tyOk22, agg22, cells22, b0, rd_onec, List.getElem?_cons_succ, List.getElem?_cons_zero, ly, b_lss, k1, decide_false, onB_false]
            exact e0
        · refine ⟨_, rfl, by omega, fun j hj => by omega, ?_, ?_⟩ <;> simp -implicitDefEqProofs only [ne_eq, Nat.reduceEqDiff, not_false_eq_true, upd_ne, upd_eq, Int.cast_ofNat_Int] <;> rfl
      · have hbf := bF fun q => c4 q.2.2.2.1
        simp -implicitDefEqProofs only [↓w_seq, ↓w_region, ↓ops_cons, ↓g_box, Nat.reduceLT, ev_tab, par0, cells_agg, ↓g_assign, ↓ops_nil, ev_const, of_bool, ↓g_fieldAddrT, ne_eq, Nat.reduceEqDiff, not_false_eq_true, upd_ne, upd_eq, ↓g_load, alK_some, List.all_cons, x1, y1, one_int, List.all_nil, Bool.and_self, fadr32_0, Nat.zero_add, onS_some, rd_def, tyOk22, agg22, cells22, hap_0, List.getElem?_cons_zero, rd_onec, true_and]
        rw [← hA]
        refine call1S (by simp -implicitDefEqProofs only [List.map_cons, Nat.reduceLT, ev_tab, upd_eq, List.map_nil] <;> rfl) u1 ?_
        simp -implicitDefEqProofs only [↓ops_cons, ↓g_unOp, Nat.reduceLT, ev_tab, upd_eq, u_not, Bool.not_true, Option.map_some, ↓g_move, onS_some, yielded_tab, dstAt_s, dstAt_0, ybv_some, boolOf_b, ↓g_guard_t, ↓g_fieldAddrT, ne_eq, Nat.reduceEqDiff, not_false_eq_true, upd_ne, fadr32_1, Nat.zero_add, ↓g_load, rd_def, tyOk22, agg22, cells22, b0, rd_onec, List.getElem?_cons_succ, List.getElem?_cons_zero]
        refine call1S (by simp -implicitDefEqProofs only [List.map_cons, Nat.reduceLT, ev_tab, upd_eq, List.map_nil] <;> rfl) u2 ?_
        simp -implicitDefEqProofs only [↓ops_cons, yielded_tab, dstAt_s, dstAt_0, Nat.reduceLT, ybv_some, ne_eq, Nat.reduceEqDiff, not_false_eq_true, upd_ne, upd_eq, boolOf_b, ↓g_guard_t, ↓g_unOp, ev_tab, u_not, Bool.not_true, Option.map_some, ↓g_pick, ev_const, of_bool, pick_b, reduceCtorEq, if_false, ↓g_move, onS_some, ↓g_fieldAddrT, fadr32_2, Nat.zero_add, ↓g_load, rd_def, tyOk3, agg3, cells3, b0, rd_onec, List.getElem?_cons_succ, List.getElem?_cons_zero]
        refine call1 (by simp -implicitDefEqProofs only [List.map_cons, Nat.reduceLT, ev_tab, upd_eq, ev_const, of_int, List.map_nil] <;> rfl) (inS t 0 1000) ?_
        rw [decide_eq_false c4]
        simp -implicitDefEqProofs only [↓ops_cons, yielded_tab, dstAt_s, dstAt_0, Nat.reduceLT, ybv_some, ne_eq, Nat.reduceEqDiff, not_false_eq_true, upd_ne, upd_eq, boolOf_b, ↓g_guard_t, ↓g_unOp, ev_tab, u_not, Bool.not_false, Option.map_some, ↓g_pick, ev_const, of_bool, pick_b, reduceCtorEq, if_false, ↓ops_nil, ↓w_cond, ↓w_seq, ↓w_region, hbf, ↓g_assign, ↓w_ret, retP_1, res_tmp, onS_some, true_and, ↓w_skip, ↓w_block, of_int, onB_true]
        exact e0
    · have u2 := upSF c2 (e0.isL hy) hg
      have hbf := bF fun q => c2 ⟨q.2.1, Nat.le_trans (sub_len g s (up_ne q.2.1) q.2.2.2.2) q.2.2.1⟩
      simp -implicitDefEqProofs only [↓w_seq, ↓w_region, ↓ops_cons, ↓g_box, Nat.reduceLT, ev_tab, par0, cells_agg, ↓g_assign, ↓ops_nil, ev_const, of_bool, ↓g_fieldAddrT, ne_eq, Nat.reduceEqDiff, not_false_eq_true, upd_ne, upd_eq, ↓g_load, alK_some, List.all_cons, x1, y1, one_int, List.all_nil, Bool.and_self, fadr32_0, Nat.zero_add, onS_some, rd_def, tyOk22, agg22, cells22, hap_0, List.getElem?_cons_zero, rd_onec, true_and]
      rw [← hA]
      refine call1S (by simp -implicitDefEqProofs only [List.map_cons, Nat.reduceLT, ev_tab, upd_eq, List.map_nil] <;> rfl) u1 ?_
      simp -implicitDefEqProofs only [↓ops_cons, ↓g_unOp, Nat.reduceLT, ev_tab, upd_eq, u_not, Bool.not_true, Option.map_some, ↓g_move, onS_some, yielded_tab, dstAt_s, dstAt_0, ybv_some, boolOf_b, ↓g_guard_t, ↓g_fieldAddrT, ne_eq, Nat.reduceEqDiff, not_false_eq_true, upd_ne, fadr32_1, Nat.zero_add, ↓g_load, rd_def, tyOk22, agg22, cells22, b0, rd_onec, List.getElem?_cons_succ, List.getElem?_cons_zero]
      refine call1S (by simp -implicitDefEqProofs only [List.map_cons, Nat.reduceLT, ev_tab, upd_eq, List.map_nil] <;> rfl) u2 ?_
      simp -implicitDefEqProofs only [↓ops_cons, yielded_tab, dstAt_s, dstAt_0, Nat.reduceLT, ybv_some, ne_eq, Nat.reduceEqDiff, not_false_eq_true, upd_ne, upd_eq, boolOf_b, ↓g_guard_t, ↓g_unOp, ev_tab, u_not, Bool.not_false, Option.map_some, ↓g_pick, ev_const, of_bool, pick_b, reduceCtorEq, if_false, ↓g_move, hbf, onS_some, ↓g_guard_f, if_true, ↓ops_nil, ↓w_cond, ↓w_seq, ↓w_region, ↓g_assign, ↓w_ret, retP_1, res_tmp, true_and, ↓w_skip, ↓w_block, of_int, onB_true]
      exact e0
  · have u1 := upSF c1 (e0.isL hx) hs
    have hbf := bF fun q => c1 ⟨q.1, q.2.2.1⟩
    simp -implicitDefEqProofs only [↓w_seq, ↓w_region, ↓ops_cons, ↓g_box, Nat.reduceLT, ev_tab, par0, cells_agg, ↓g_assign, ↓ops_nil, ev_const, of_bool, ↓g_fieldAddrT, ne_eq, Nat.reduceEqDiff, not_false_eq_true, upd_ne, upd_eq, ↓g_load, alK_some, List.all_cons, x1, y1, one_int, List.all_nil, Bool.and_self, fadr32_0, Nat.zero_add, onS_some, rd_def, tyOk22, agg22, cells22, hap_0, List.getElem?_cons_zero, rd_onec, true_and]
    rw [← hA]
    refine call1S (by simp -implicitDefEqProofs only [List.map_cons, Nat.reduceLT, ev_tab, upd_eq, List.map_nil] <;> rfl) u1 ?_
    simp -implicitDefEqProofs only [↓ops_cons, ↓g_unOp, Nat.reduceLT, ev_tab, upd_eq, u_not, Bool.not_false, Option.map_some, ↓g_move, hbf, onS_some, yielded_tab, dstAt_s, dstAt_0, ybv_some, boolOf_b, ↓g_guard_f, ne_eq, Nat.reduceEqDiff, not_false_eq_true, upd_ne, ↓g_pick, ev_const, of_bool, pick_b, if_true, ↓ops_nil, ↓w_cond, ↓w_seq, ↓w_region, ↓g_assign, ↓w_ret, retP_1, res_tmp, true_and, ↓w_skip, ↓w_block, of_int, onB_true]
    exact e0
end Go.Proofs.Ytcjjcpdfnndenaa.Sim
namespace Go.Proofs.Ytcjjcpdfnndenaa.Sim
open Go
set_option maxRecDepth 100000
set_option maxHeartbeats 4000000
set_option linter.unusedSimpArgs false
set_option linter.unusedVariables false
theorem cpy_set (l : List Int) (i : Nat) (h : i < l.length) : (l.take i ++ List.replicate (l.length - i) 0).set i (l.getD i 0) = l.take (i + 1) ++ List.replicate (l.length - (i + 1)) 0 := by
  obtain ⟨m, hm⟩ : ∃ m, l.length - i = m + 1 := ⟨l.length - i - 1, by omega⟩
  rw [hm, show l.length - (i + 1) = m by omega, List.set_append_right _ _ (by rw [List.length_take]; omega), List.length_take, Nat.min_eq_left (by omega), Nat.sub_self, List.replicate_succ, List.set_cons_zero, List.take_add_one, List.getD_eq_getElem?_getD, List.getElem?_eq_getElem h, List.append_assoc]
  rfl
theorem toIntsS {H : AHeap} {x : AV} {l : List Int} (hx : IsL H x .i64 l) (hl : l.length ≤ 1000000000) : Sound Try.prog 13 [x] H (.sl H.length 0 l.length 1) (H ++ [⟨ints .i64 l, true, true⟩]) := by
  refine Sound.run 22 [.tmp 2] Try.func13 rfl rfl rfl rfl (by simp) ?_
  have lx := fun e => hx.len e
  have k0 : ∀ j : Nat, (0 : Int) ≤ (j : Int) := fun j => by omega
  have k1 : (l.length : Int) ≤ 1000000000000 := by omega
  simp -implicitDefEqProofs only [↓w_seq, ↓w_region, ↓ops_cons, ↓g_assign, ↓ops_nil, ev_const, ↓g_move, ↓g_len, Try.underlying22, Nat.reduceLT, ev_tab, ne_eq, reduceCtorEq, not_false_eq_true, upd_ne, par0, upd_eq, lx, ↓g_makeSlice, ↓w_block, of_int, onS_some, k0, k1, mk3, Int.toNat_natCast, alK_some, ints_one, true_and]
  refine w_loop (ι := Nat) (fun i s => ∃ T : Nat → AV, s = ⟨tab 22 T, H ++ [⟨ints .i64 (l.take i ++ List.replicate (l.length - i) 0), true, true⟩]⟩ ∧ i ≤ l.length ∧ T 0 = x ∧ T 3 = .sl H.length 0 l.length 1 ∧ T 4 = .sc (.int .i64 i)) (fun i => l.length - i) ?_ (i := 0) ?_
  · rintro i s ⟨T, rfl, a1, a2, a3, a4⟩
    by_cases h : i < l.length
    · have k2 : (i : Int) < l.length := by omega
      have k3 : i < min i l.length + (l.length - i) := by omega
      have e1 : IntKind.i64.wrap ((i : Int) + 1) = i + 1 := w64 (by omega) (by omega)
      obtain ⟨r, o, rfl, hr⟩ := hx.get h
      have hrl : r < H.length := (List.getElem?_eq_some_iff.1 hr).1
      have hm := at_more H [⟨ints .i64 (l.take i ++ List.replicate (l.length - i) 0), true, true⟩] r hrl
      rw [hr] at hm
      have hse : ∀ g h : Reg, (H ++ [g]).set H.length h = H ++ [h] := fun g h => by simp
      simp -implicitDefEqProofs only [↓w_seq, ↓w_region, ↓ops_cons, ↓g_move, ↓g_len, Try.underlying22, Nat.reduceLT, ev_tab, a4, ne_eq, reduceCtorEq, not_false_eq_true, upd_ne, a2, upd_eq, lx, ↓g_binOp, Nat.reduceEqDiff, ↓ops_nil, ↓w_cond, ↓w_skip, ↓w_block, ↓g_indexAddr, a3, adr_sl, k2, cells3, tyOk3, and_self, and_true, Nat.mul_one, Nat.zero_add, ↓g_load, ↓g_store, ev_const, of_int, b_add, ↓g_assign, onS_some, onS_ite, wr_def, at_end, rd_def, agg3, ↓w_exit, ↓w_ret, ret_one, true_and, if_true, b_lss, decide_true, onB_true]
      try refine drawn [(5, 0)] follows (by kernel_rfl) (by kernel_rfl) ?_
      simp -implicitDefEqProofs only [k0, hm, Int.toNat_natCast, rd_ints, h, if_true, e1, true_and, onS_some, wr_ints, List.length_append, List.length_take, List.length_replicate, k3, cpy_set l i h, hse]
      refine ⟨i + 1, by omega, _, rfl, by omega, ?_, ?_, ?_⟩ <;> simp -implicitDefEqProofs only [ne_eq, reduceCtorEq, not_false_eq_true, upd_ne, a2, Nat.reduceEqDiff, a3, upd_eq] <;> rfl
    · have k2 : ¬ (i : Int) < l.length := by omega
      have hi : i = l.length := by omega
      have e : l.take i ++ List.replicate (l.length - i) 0 = l := by rw [hi]; simp
      rw [e]
      simp -implicitDefEqProofs only [↓w_seq, ↓w_region, ↓ops_cons, ↓g_move, ↓g_len, Try.underlying22, Nat.reduceLT, ev_tab, a4, ne_eq, reduceCtorEq, not_false_eq_true, upd_ne, a2, upd_eq, lx, ↓g_binOp, Nat.reduceEqDiff, ↓ops_nil, ↓w_cond, ↓w_skip, ↓w_block, ↓g_indexAddr, a3, ↓g_load, adr_sl, k2, cells3, tyOk3, and_self, and_true, and_false, Nat.mul_one, Nat.zero_add, if_false, ↓g_store, ev_const, of_int, b_add, ↓g_assign, onS_some, ↓w_exit, ↓w_ret, ret_one, if_true, b_lss, decide_false, onB_false]
  · refine ⟨_, st_end (by simp), by omega, ?_, ?_, ?_⟩ <;> simp -implicitDefEqProofs only [ne_eq, reduceCtorEq, not_false_eq_true, upd_ne, par0, Nat.reduceEqDiff, upd_eq, Int.cast_ofNat_Int] <;> rfl
end Go.Proofs.Ytcjjcpdfnndenaa.Sim
namespace Go.Proofs.Ytcjjcpdfnndenaa.Sim
open Go
set_option maxRecDepth 100000
set_option maxHeartbeats 40000000
set_option linter.unusedSimpArgs false
set_option linter.unusedVariables false
theorem szIntsN {H : AHeap} {x : AV} {l : List Int} (n : Int) (hn : 0 ≤ n ∧ n ≤ 1048576) (hx : IsL H x .i64 l) (hl : l.length ≤ 9223372036854775807) : Sound Try.prog 48 [x, .sc (.int .i64 n)] H (.sc (.int .i64 (if n - (l.length : Int) < 0 then -1 else n - l.length))) H := by
  refine Sound.run 12 [.tmp 4] Try.func48 rfl rfl rfl rfl (by simp) ?_
  have lx := fun e => hx.len e
  have e1 : IntKind.i64.wrap (n - (l.length : Int)) = n - l.length := w64 (by omega) (by omega)
  simp -implicitDefEqProofs only [↓w_seq, ↓w_region, Int.reduceNeg, ↓ops_cons, ↓g_assign, ↓ops_nil, ev_const, of_int, ↓g_move, ↓g_len, Try.underlying22, Nat.reduceLT, ev_tab, ne_eq, Nat.reduceEqDiff, not_false_eq_true, upd_ne, par1, reduceCtorEq, par0, upd_eq, lx, ↓g_binOp, ↓w_cond, ↓w_ret, ret_one, and_true, ↓w_skip, onS_some, b_sub, e1, b_lss, onB_dec]
  split <;> rfl
theorem szFlightS {H : AHeap} {x y : AV} {s g : List Int} (t : Int) (hx : IsL H x .i64 s) (hy : IsL H y .i64 g) (hs : s.length ≤ 9223372036854775807) (hg : g.length ≤ 9223372036854775807) (m : Int) (hm : 0 ≤ m ∧ m ≤ 1048576) :
    ∃ (n : Int) (Z : AHeap), Sound Try.prog 16 [flt x y t, .sc (.int .i64 m)] H (.sc (.int .i64 n)) Z ∧ Ext H Z ∧ (¬ n < 0 → s.length ≤ 1000000000 ∧ g.length ≤ 1000000000) := by
  suffices h : ∃ v Z, Sound Try.prog 16 [flt x y t, .sc (.int .i64 m)] H v Z ∧ ∃ n : Int, v = .sc (.int .i64 n) ∧ Ext H Z ∧ (¬ n < 0 → s.length ≤ 1000000000 ∧ g.length ≤ 1000000000) by
    obtain ⟨v, Z, h1, n, rfl, h2⟩ := h
    exact ⟨n, Z, h1, h2⟩
  unfold flt
  refine Sound.runP (args := [.agg [x, y, .sc (.int .i64 t)], .sc (.int .i64 m)]) 18 [.tmp 4] Try.func16 rfl rfl rfl rfl (by simp) (fun v Z => ∃ n : Int, v = .sc (.int .i64 n) ∧ Ext H Z ∧ (¬ n < 0 → s.length ≤ 1000000000 ∧ g.length ≤ 1000000000)) ?_
  have x1 := hx.one
  have y1 := hy.one
  obtain ⟨A, hA⟩ : ∃ A : Reg, A = ⟨[x, y, .sc (.int .i64 t)], true, true⟩ := ⟨_, rfl⟩
  have e0 := Ext.more H [A]
  have b0 : (H ++ [A])[H.length]? = some ⟨[x, y, .sc (.int .i64 t)], true, true⟩ := by rw [← hA]; exact hap_0 H [A]
  have c1 := szIntsN m hm (e0.isL hx) hs
  by_cases h1 : m - (s.length : Int) < 0
  · rw [if_pos h1] at c1
    simp -implicitDefEqProofs only [↓w_seq, ↓w_region, Int.reduceNeg, ↓ops_cons, ↓g_box, Nat.reduceLT, ev_tab, par0, cells_agg, ↓g_assign, ↓ops_nil, ev_const, of_int, ↓g_fieldAddrT, ne_eq, Nat.reduceEqDiff, not_false_eq_true, upd_ne, upd_eq, ↓g_load, ↓g_move, par1, alK_some, List.all_cons, x1, y1, one_int, List.all_nil, Bool.and_self, fadr29_0, Nat.zero_add, onS_some, rd_def, tyOk22, agg22, cells22, hap_0, List.getElem?_cons_zero, rd_onec, true_and]
    rw [← hA]
    refine call1S (by simp -implicitDefEqProofs only [List.map_cons, Nat.reduceLT, ev_tab, ne_eq, Nat.reduceEqDiff, not_false_eq_true, upd_ne, upd_eq, List.map_nil] <;> rfl) c1 ?_
    simp -implicitDefEqProofs only [↓ops_cons, ↓g_assign, ↓ops_nil, ↓w_seq, ↓w_region, Int.reduceNeg, Nat.reduceLT, ev_tab, upd_eq, ↓g_move, ↓g_binOp, ev_const, of_int, b_lss, Int.reduceLT, decide_true, ↓w_cond, ↓w_ret, retP_1, res_tmp, onS_some, ↓w_skip, ↓g_fieldAddrT, ne_eq, Nat.reduceEqDiff, not_false_eq_true, upd_ne, fadr29_1, Nat.zero_add, ↓g_load, rd_def, tyOk22, agg22, cells22, at_end, onB_true]
    exact ⟨_, rfl, e0, fun h => absurd (by decide) h⟩
  · rw [if_neg h1] at c1
    have c2 := szIntsN (m - s.length) ⟨by omega, by omega⟩ (e0.isL hy) hg
    by_cases h2 : m - (s.length : Int) - (g.length : Int) < 0
    · rw [if_pos h2] at c2
      simp -implicitDefEqProofs only [↓w_seq, ↓w_region, Int.reduceNeg, ↓ops_cons, ↓g_box, Nat.reduceLT, ev_tab, par0, cells_agg, ↓g_assign, ↓ops_nil, ev_const, of_int, ↓g_fieldAddrT, ne_eq, Nat.reduceEqDiff, not_false_eq_true, upd_ne, upd_eq, ↓g_load, ↓g_move, par1, alK_some, List.all_cons, x1, y1, one_int, List.all_nil, Bool.and_self, fadr29_0, Nat.zero_add, onS_some, rd_def, tyOk22, agg22, cells22, hap_0, List.getElem?_cons_zero, rd_onec, true_and]
      rw [← hA]
      refine call1S (by simp -implicitDefEqProofs only [List.map_cons, Nat.reduceLT, ev_tab, ne_eq, Nat.reduceEqDiff, not_false_eq_true, upd_ne, upd_eq, List.map_nil] <;> rfl) c1 ?_
      simp -implicitDefEqProofs only [↓ops_cons, ↓g_assign, ↓ops_nil, ↓w_seq, ↓w_region, Int.reduceNeg, Nat.reduceLT, ev_tab, upd_eq, ↓g_move, ↓g_binOp, ev_const, of_int, b_lss, h1, decide_false, ↓w_cond, ↓w_ret, retP_1, res_tmp, onS_some, ↓w_skip, ↓g_fieldAddrT, ne_eq, Nat.reduceEqDiff, not_false_eq_true, upd_ne, fadr29_1, Nat.zero_add, ↓g_load, rd_def, tyOk22, agg22, cells22, b0, rd_onec, List.getElem?_cons_succ, List.getElem?_cons_zero, onB_false]
      refine call1S (by simp -implicitDefEqProofs only [List.map_cons, Nat.reduceLT, ev_tab, ne_eq, Nat.reduceEqDiff, not_false_eq_true, upd_ne, upd_eq, List.map_nil] <;> rfl) c2 ?_
      simp -implicitDefEqProofs only [↓ops_cons, ↓g_assign, ↓ops_nil, ↓w_seq, ↓w_region, Int.reduceNeg, Nat.reduceLT, ev_tab, upd_eq, ↓g_move, ↓g_binOp, ev_const, of_int, b_lss, Int.reduceLT, decide_true, ↓w_cond, ↓w_ret, retP_1, res_tmp, onS_some, ↓w_skip, ne_eq, Nat.reduceEqDiff, not_false_eq_true, upd_ne, onB_true]
      exact ⟨_, rfl, e0, fun h => absurd (by decide) h⟩
    · rw [if_neg h2] at c2
      simp -implicitDefEqProofs only [↓w_seq, ↓w_region, Int.reduceNeg, ↓ops_cons, ↓g_box, Nat.reduceLT, ev_tab, par0, cells_agg, ↓g_assign, ↓ops_nil, ev_const, of_int, ↓g_fieldAddrT, ne_eq, Nat.reduceEqDiff, not_false_eq_true, upd_ne, upd_eq, ↓g_load, ↓g_move, par1, alK_some, List.all_cons, x1, y1, one_int, List.all_nil, Bool.and_self, fadr29_0, Nat.zero_add, onS_some, rd_def, tyOk22, agg22, cells22, hap_0, List.getElem?_cons_zero, rd_onec, true_and]
      rw [← hA]
      refine call1S (by simp -implicitDefEqProofs only [List.map_cons, Nat.reduceLT, ev_tab, ne_eq, Nat.reduceEqDiff, not_false_eq_true, upd_ne, upd_eq, List.map_nil] <;> rfl) c1 ?_
      simp -implicitDefEqProofs only [↓ops_cons, ↓g_assign, ↓ops_nil, ↓w_seq, ↓w_region, Int.reduceNeg, Nat.reduceLT, ev_tab, upd_eq, ↓g_move, ↓g_binOp, ev_const, of_int, b_lss, h1, decide_false, ↓w_cond, ↓w_ret, retP_1, res_tmp, onS_some, ↓w_skip, ↓g_fieldAddrT, ne_eq, Nat.reduceEqDiff, not_false_eq_true, upd_ne, fadr29_1, Nat.zero_add, ↓g_load, rd_def, tyOk22, agg22, cells22, b0, rd_onec, List.getElem?_cons_succ, List.getElem?_cons_zero, onB_false]
      refine call1S (by simp -implicitDefEqProofs only [List.map_cons, Nat.reduceLT, ev_tab, ne_eq, Nat.reduceEqDiff, not_false_eq_true, upd_ne, upd_eq, List.map_nil] <;> rfl) c2 ?_
      simp -implicitDefEqProofs only [↓ops_cons, ↓g_assign, ↓ops_nil, ↓w_seq, ↓w_region, Int.reduceNeg, Nat.reduceLT, ev_tab, upd_eq, ↓g_move, ↓g_binOp, ev_const, of_int, b_lss, h2, decide_false, ↓w_cond, ↓w_ret, retP_1, res_tmp, onS_some, ↓w_skip, ne_eq, Nat.reduceEqDiff, not_false_eq_true, upd_ne, onB_false]
      exact ⟨_, rfl, e0, fun h => ⟨by omega, by omega⟩⟩
theorem toFlightS {H : AHeap} {x y : AV} {a b : List Int} (t : Int) (hx : IsL H x .i64 a) (hy : IsL H y .i64 b) (ha : a.length ≤ 1000000000) (hb : b.length ≤ 1000000000) : ∃ (p q : Nat) (Z : AHeap), Sound Try.prog 18 [flt x y t] H (flt (.sl p 0 a.length 1) (.sl q 0 b.length 1) t) Z ∧ Ext H Z ∧ H.length ≤ p ∧ p < q ∧ Z[p]? = some ⟨ints .i64 a, true, true⟩ ∧ Z[q]? = some ⟨ints .i64 b, true, true⟩ := by
  suffices h : ∃ v Z, Sound Try.prog 18 [flt x y t] H v Z ∧ ∃ p q, v = flt (.sl p 0 a.length 1) (.sl q 0 b.length 1) t ∧ Ext H Z ∧ H.length ≤ p ∧ p < q ∧ Z[p]? = some ⟨ints .i64 a, true, true⟩ ∧ Z[q]? = some ⟨ints .i64 b, true, true⟩ by
    obtain ⟨v, Z, h1, p, q, rfl, h2⟩ := h
    exact ⟨p, q, Z, h1, h2⟩
  unfold flt
  refine Sound.runP (args := [.agg [x, y, .sc (.int .i64 t)]]) 16 [.cell 2 32] Try.func18 rfl rfl rfl rfl (by simp) (fun v Z => ∃ p q, v = .agg [.sl p 0 a.length 1, .sl q 0 b.length 1, .sc (.int .i64 t)] ∧ Ext H Z ∧ H.length ≤ p ∧ p < q ∧ Z[p]? = some ⟨ints .i64 a, true, true⟩ ∧ Z[q]? = some ⟨ints .i64 b, true, true⟩) ?_
  have x1 := hx.one
  have y1 := hy.one
  have c1 := fun Y => toIntsS ((Ext.more H Y).isL hx) ha
  have c2 := fun Y => toIntsS ((Ext.more H Y).isL hy) hb
  simp -implicitDefEqProofs only [↓w_seq, ↓w_region, ↓ops_cons, ↓g_box, Nat.reduceLT, ev_tab, par0, cells_agg, ↓g_alloc, zero32, Option.map_some, ↓ops_nil, ↓g_fieldAddrT, ne_eq, Nat.reduceEqDiff, not_false_eq_true, upd_ne, upd_eq, ↓g_load, alK_some, List.all_cons, one_nil, one_int, List.all_nil, Bool.and_self, true_and, List.append_assoc, List.cons_append, List.nil_append, List.length_append, List.length_cons, List.length_nil, Nat.zero_add, x1, y1, fadr29_0, Nat.add_assoc, Nat.reduceAdd, onS_some, rd_def, tyOk22, agg22, cells22, hap_0, List.getElem?_cons_zero, rd_onec]
  refine call1S (by simp -implicitDefEqProofs only [List.map_cons, Nat.reduceLT, ev_tab, upd_eq, List.map_nil] <;> rfl) (c1 _) ?_
  simp -implicitDefEqProofs only [↓ops_cons, ↓g_fieldAddrT, List.length_append, List.length_cons, List.length_nil, Nat.zero_add, Nat.reduceAdd, Nat.reduceLT, ev_tab, ne_eq, Nat.reduceEqDiff, not_false_eq_true, upd_ne, upd_eq, fadr32_0, ↓g_store, List.append_assoc, List.cons_append, List.nil_append, ↓ops_nil, ↓w_seq, ↓w_region, fadr29_1, ↓g_load, onS_some, rd_def, tyOk22, agg22, cells22, wr_def, hap_k, List.getElem?_cons_succ, List.getElem?_cons_zero, wr_c, cells_sl, Nat.reduceLeDiff, List.all_cons, one_sl, List.all_nil, Bool.and_self, and_self, ovr_fm, ovr_fn, hset_k, List.set_cons_succ, List.set_cons_zero, if_true, hap_0, rd_onec]
  refine call1S (by simp -implicitDefEqProofs only [List.map_cons, Nat.reduceLT, ev_tab, upd_eq, List.map_nil] <;> rfl) (c2 _) ?_
  simp -implicitDefEqProofs only [↓ops_cons, ↓g_fieldAddrT, List.length_append, List.length_cons, List.length_nil, Nat.zero_add, Nat.reduceAdd, Nat.reduceLT, ev_tab, ne_eq, Nat.reduceEqDiff, not_false_eq_true, upd_ne, upd_eq, fadr32_1, ↓g_store, List.append_assoc, List.cons_append, List.nil_append, ↓ops_nil, ↓w_seq, ↓w_region, fadr29_2, ↓g_load, fadr32_2, rd_def, tyOk32, agg32, cells32, wr_def, ↓w_ret, retP_1, res_cell, onS_some, tyOk3, cells3, agg3, tyOk22, cells22, hap_k, List.getElem?_cons_succ, List.getElem?_cons_zero, wr_c, cells_sl, Nat.reduceLeDiff, List.all_cons, one_sl, List.all_nil, Bool.and_self, and_self, over_s, ovr_fm, ovr_fn, hset_k, List.set_cons_succ, List.set_cons_zero, if_true, hap_0, rd_onec, Nat.le_refl, true_and, onS_ite, rd_aggc, Nat.add_assoc, List.drop_zero, List.take_succ_cons, cells_agg, cells_int, one_int, List.take_zero]
  exact ⟨_, _, rfl, Ext.more _ _, by omega, by omega, hap_k _ _ 3, hap_k _ _ 4⟩
theorem eqFlightS {H : AHeap} {x y x' y' : AV} {s g : List Int} (t : Int) (hx : IsL H x .i64 s) (hy : IsL H y .i64 g) (hx' : IsL H x' .i64 s) (hy' : IsL H y' .i64 g) (hs : s.length ≤ 1000000000) (hg : g.length ≤ 1000000000) : ∃ Z : AHeap, Sound Try.prog 20 [flt x y t, flt x' y' t] H (.sc (.bool true)) Z ∧ Ext H Z := by
  suffices h : ∃ v Z, Sound Try.prog 20 [flt x y t, flt x' y' t] H v Z ∧ v = .sc (.bool true) ∧ Ext H Z by
    obtain ⟨v, Z, h1, rfl, h2⟩ := h
    exact ⟨Z, h1, h2⟩
  unfold flt
  refine Sound.runP (args := [.agg [x, y, .sc (.int .i64 t)], .agg [x', y', .sc (.int .i64 t)]]) 22 [.tmp 4] Try.func20 rfl rfl rfl rfl (by simp) (fun v Z => v = .sc (.bool true) ∧ Ext H Z) ?_
  have x1 := hx.one
  have y1 := hy.one
  have x2 := hx'.one
  have y2 := hy'.one
  have c1 := fun Y => eqS ((Ext.more H Y).isL hx) ((Ext.more H Y).isL hx') (by omega) (by omega)
  have c2 := fun Y => eqS ((Ext.more H Y).isL hy) ((Ext.more H Y).isL hy') (by omega) (by omega)
  simp only [decide_true] at c1 c2
  simp -implicitDefEqProofs only [↓w_seq, ↓w_region, ↓ops_cons, ↓g_box, Nat.reduceLT, ev_tab, par0, cells_agg, ne_eq, Nat.reduceEqDiff, not_false_eq_true, upd_ne, par1, ↓g_assign, ↓ops_nil, ev_const, of_bool, ↓g_fieldAddrT, upd_eq, ↓g_load, alK_some, List.all_cons, x2, y2, one_int, List.all_nil, Bool.and_self, fadr32_0, Nat.zero_add, onS_some, rd_def, tyOk22, agg22, cells22, hap_0, List.getElem?_cons_zero, rd_onec, true_and, x1, y1, List.append_assoc, List.cons_append, List.nil_append, List.length_append, List.length_cons, List.length_nil]
  refine call1S (by simp -implicitDefEqProofs only [List.map_cons, Nat.reduceLT, ev_tab, ne_eq, Nat.reduceEqDiff, not_false_eq_true, upd_ne, upd_eq, List.map_nil] <;> rfl) (c1 _) ?_
  simp -implicitDefEqProofs only [↓ops_cons, ↓g_unOp, Nat.reduceLT, ev_tab, upd_eq, u_not, Bool.not_true, Option.map_some, ↓ops_nil, ↓w_cond, ↓w_seq, ↓w_region, ↓g_assign, ↓w_ret, ev_const, of_bool, retP_1, res_tmp, onS_some, ↓w_skip, ↓g_fieldAddrT, ne_eq, Nat.reduceEqDiff, not_false_eq_true, upd_ne, fadr32_1, Nat.zero_add, ↓g_load, rd_def, tyOk22, agg22, cells22, hap_k, List.getElem?_cons_succ, List.getElem?_cons_zero, rd_onec, hap_0, onB_false]
  refine call1S (by simp -implicitDefEqProofs only [List.map_cons, Nat.reduceLT, ev_tab, ne_eq, Nat.reduceEqDiff, not_false_eq_true, upd_ne, upd_eq, List.map_nil] <;> rfl) (c2 _) ?_
  simp -implicitDefEqProofs only [↓ops_cons, ↓g_unOp, Nat.reduceLT, ev_tab, upd_eq, u_not, Bool.not_true, Option.map_some, ↓ops_nil, ↓w_cond, ↓w_seq, ↓w_region, ↓g_assign, ↓w_ret, ev_const, of_bool, retP_1, res_tmp, onS_some, ↓w_skip, ↓g_fieldAddrT, ne_eq, Nat.reduceEqDiff, not_false_eq_true, upd_ne, fadr32_2, Nat.zero_add, ↓g_load, ↓g_binOp, true_and, rd_def, tyOk3, agg3, cells3, hap_k, List.getElem?_cons_succ, List.getElem?_cons_zero, rd_onec, hap_0, b_neq, decide_true, onB_false]
  exact Ext.more _ _
/-- What one may write to: none, or a whole region of its own. -/
def Own (H : AHeap) (y : AV) (l : List Int) : Prop := (y = .sc (.slice none 0 0) ∧ l = []) ∨ ∃ r, y = .sl r 0 l.length 1 ∧ H[r]? = some ⟨ints .i64 l, true, true⟩
def Apart (y : AV) (i : Nat) : Prop := ∀ r o n k, y = .sl r o n k → i ≠ r
theorem Apart.sl {i r n : Nat} (h : i ≠ r) : Apart (.sl r 0 n 1) i := fun r' o n' k e => by
  injection e with e1
  exact e1 ▸ h
theorem Apart.nil (i : Nat) : Apart (.sc (.slice none 0 0)) i := fun r o n k e => by cases e
theorem Own.sl {H : AHeap} {r : Nat} {l : List Int} (h : H[r]? = some ⟨ints .i64 l, true, true⟩) : Own H (.sl r 0 l.length 1) l := .inr ⟨r, rfl, h⟩
theorem Own.isL {H : AHeap} {y : AV} {l : List Int} (h : Own H y l) : IsL H y .i64 l := by
  rcases h with ⟨rfl, rfl⟩ | ⟨r, rfl, h⟩
  · exact .nil _ _
  · exact IsL.mk h
theorem Own.ext {H Z : AHeap} {y : AV} {l : List Int} (h : Own H y l) (e : Ext H Z) : Own Z y l := by
  rcases h with h | ⟨r, rfl, h⟩
  · exact .inl h
  · exact .inr ⟨r, rfl, e.at h⟩
theorem Own.keep {H Z : AHeap} {y : AV} {l : List Int} (h : Own H y l) (e : ∀ r o n k, y = .sl r o n k → Z[r]? = H[r]?) : Own Z y l := by
  rcases h with h | ⟨r, rfl, h⟩
  · exact .inl h
  · exact .inr ⟨r, rfl, (e _ _ _ _ rfl).trans h⟩
theorem markSk {H : AHeap} {r : Nat} {l : List Int} (k : Int) (hk : 0 ≤ k ∧ k ≤ 1000000000000) (hr : H[r]? = some ⟨ints .i64 l, true, true⟩) (hl : l.length ≤ 1000000000) : Sound Try.prog 22 [.sl r 0 l.length 1, .sc (.int .i64 k)] H (.sc (.int .i64 (k + l.length))) (H.set r ⟨ints .i64 (marked k l.length), true, true⟩) := by
  refine Sound.run 19 [.tmp 4] Try.func22 rfl rfl rfl rfl (by simp) ?_
  have hrl : r < H.length := (List.getElem?_eq_some_iff.1 hr).1
  simp -implicitDefEqProofs only [↓w_seq, ↓w_region, ↓ops_cons, ↓g_assign, ↓ops_nil, ev_const, of_int, ↓w_block]
  refine w_loop (ι := Nat) (fun i s => ∃ (T : Nat → AV) (u : List Int), s = ⟨tab 19 T, H.set r ⟨ints .i64 u, true, true⟩⟩ ∧ u.length = l.length ∧ i ≤ l.length ∧ u.take i = (marked k l.length).take i ∧ T 0 = .sl r 0 l.length 1 ∧ T 1 = .sc (.int .i64 (k + i)) ∧ T 5 = .sc (.int .i64 i)) (fun i => l.length - i) ?_ (i := 0) ?_
  · rintro i s ⟨T, u, rfl, b1, a1, b2, a3, a4, a5⟩
    by_cases h : i < l.length
    · have k1 : (i : Int) < l.length := by omega
      have k2 : (0 : Int) ≤ i := by omega
      have e1 : IntKind.i64.wrap ((i : Int) + 1) = i + 1 := w64 (by omega) (by omega)
      have e2 : IntKind.i64.wrap (k + (i : Int) + 1) = k + (i : Int) + 1 := w64 (by omega) (by omega)
      simp -implicitDefEqProofs only [↓w_seq, ↓w_region, ↓ops_cons, ↓g_move, ↓g_len, Try.underlying22, Nat.reduceLT, ev_tab, a5, ne_eq, reduceCtorEq, not_false_eq_true, upd_ne, a3, upd_eq, len_sl, ↓g_binOp, Nat.reduceEqDiff, ↓ops_nil, ↓w_cond, ↓w_skip, ↓w_block, ↓g_indexAddr, a4, adr_sl, k2, k1, cells3, tyOk3, and_self, Int.toNat_natCast, Nat.mul_one, Nat.zero_add, if_true, ↓g_store, ev_const, of_int, b_add, e2, ↓g_assign, e1, onS_some, wr_def, at_set hrl, wr_ints, b1, h, List.set_set, ↓w_exit, ↓w_ret, ret_one, b_lss, decide_true, onB_true]
      refine ⟨i + 1, by omega, _, _, rfl, ?_, by omega, ?_, ?_, ?_, ?_⟩
      · rw [List.length_set, b1]
      · rw [List.take_add_one, List.take_add_one, List.take_set_of_le (by omega), b2, List.getElem?_set_self (by omega)]
        congr 1
        have := marked_get k l.length i h
        rw [List.getD_eq_getElem?_getD, List.getElem?_eq_getElem (by rw [marked_len]; exact h)] at this
        rw [List.getElem?_eq_getElem (by rw [marked_len]; exact h)]
        simpa using this.symm
      · simp -implicitDefEqProofs only [ne_eq, reduceCtorEq, not_false_eq_true, upd_ne, a3]
      · simp -implicitDefEqProofs only [ne_eq, Nat.reduceEqDiff, not_false_eq_true, upd_ne, upd_eq]
        congr 2
        try omega
      · simp -implicitDefEqProofs only [upd_eq] <;> rfl
    · have k1 : ¬ (i : Int) < l.length := by omega
      have e : i = l.length := by omega
      have hu : u = marked k l.length := by
        rw [e, ← b1, List.take_length, b1] at b2
        rw [b2, List.take_of_length_le (by rw [marked_len]; omega)]
      simp -implicitDefEqProofs only [↓w_seq, ↓w_region, hu, ↓ops_cons, ↓g_move, ↓g_len, Try.underlying22, Nat.reduceLT, ev_tab, a5, ne_eq, reduceCtorEq, not_false_eq_true, upd_ne, a3, upd_eq, len_sl, ↓g_binOp, Nat.reduceEqDiff, ↓ops_nil, ↓w_cond, ↓w_skip, ↓w_block, ↓g_indexAddr, a4, adr_sl, k1, cells3, tyOk3, and_self, and_true, and_false, Nat.mul_one, Nat.zero_add, if_false, ↓g_store, ev_const, of_int, b_add, ↓g_assign, onS_some, ↓w_exit, ↓w_ret, ret_one, if_true, b_lss, decide_false, onB_false]
      rw [e]
  · have hH : H = H.set r ⟨ints .i64 l, true, true⟩ := by
      have := (List.getElem?_eq_some_iff.1 hr).2
      rw [← this, List.set_getElem_self]
    refine ⟨_, l, congrArg (St.mk _) hH, rfl, by omega, by simp, ?_, ?_, ?_⟩
    · simp -implicitDefEqProofs only [ne_eq, reduceCtorEq, not_false_eq_true, upd_ne, par0]
    · simp -implicitDefEqProofs only [ne_eq, Nat.reduceEqDiff, not_false_eq_true, upd_ne, par1, Int.cast_ofNat_Int] <;> simp
    · simp -implicitDefEqProofs only [upd_eq, Int.cast_ofNat_Int] <;> rfl
theorem markNk (H : AHeap) (k : Int) : Sound Try.prog 22 [.sc (.slice none 0 0), .sc (.int .i64 k)] H (.sc (.int .i64 k)) H := by
  refine Sound.run 19 [.tmp 4] Try.func22 rfl rfl rfl rfl (by simp) ?_
  simp -implicitDefEqProofs only [↓w_seq, ↓w_region, ↓ops_cons, ↓g_assign, ↓ops_nil, ev_const, of_int, ↓w_block]
  refine w_loop (ι := Nat) (fun i s => ∃ T : Nat → AV, s = ⟨tab 19 T, H⟩ ∧ i = 0 ∧ T 0 = .sc (.slice none 0 0) ∧ T 1 = .sc (.int .i64 k) ∧ T 5 = .sc (.int .i64 0)) (fun i => i) ?_ (i := 0) ?_
  · rintro i s ⟨T, rfl, rfl, a3, a4, a5⟩
    simp -implicitDefEqProofs only [↓w_seq, ↓w_region, ↓ops_cons, ↓g_move, ↓g_len, Try.underlying22, Nat.reduceLT, ev_tab, a5, ne_eq, reduceCtorEq, not_false_eq_true, upd_ne, a3, upd_eq, len_nil, ↓g_binOp, Nat.reduceEqDiff, ↓ops_nil, ↓w_cond, ↓w_skip, ↓w_block, ↓g_indexAddr, a4, ↓g_store, ev_const, of_int, b_add, ↓g_assign, Int.reduceAdd, onS_some, ↓w_exit, ↓w_ret, ret_one, and_self, if_true, b_lss, Int.reduceLT, decide_false, onB_false]
  · refine ⟨_, rfl, rfl, ?_, ?_, ?_⟩ <;> simp -implicitDefEqProofs only [ne_eq, reduceCtorEq, not_false_eq_true, upd_ne, par0, Nat.reduceEqDiff, par1, upd_eq] <;> rfl
theorem markOwn {H : AHeap} {y : AV} {l : List Int} (k : Int) (hk : 0 ≤ k ∧ k ≤ 1000000000000) (hy : Own H y l) (hl : l.length ≤ 1000000000) : ∃ Z : AHeap, Sound Try.prog 22 [y, .sc (.int .i64 k)] H (.sc (.int .i64 (k + l.length))) Z ∧ Own Z y (marked k l.length) ∧ Z.length = H.length ∧ ∀ i, Apart y i → Z[i]? = H[i]? := by
  rcases hy with ⟨rfl, rfl⟩ | ⟨r, rfl, h⟩
  · refine ⟨H, ?_, .inl ⟨rfl, rfl⟩, rfl, fun _ _ => rfl⟩
    have := markNk H k
    simpa using this
  · refine ⟨_, markSk k hk h hl, ?_, List.length_set, fun i hi => List.getElem?_set_ne (fun e => hi _ _ _ _ rfl e.symm)⟩
    refine .inr ⟨r, by rw [marked_len], List.getElem?_set_self (at_lt h)⟩
theorem heldSk {H : AHeap} {x : AV} {n : Nat} (k : Int) (hk : 0 ≤ k ∧ k ≤ 1000000000000) (hx : IsL H x .i64 (marked k n)) (hn : n ≤ 1000000000) : Sound Try.prog 23 [x, .sc (.int .i64 k)] H (.sc (.int .i64 (k + n))) H := by
  refine Sound.run 21 [.tmp 4] Try.func23 rfl rfl rfl rfl (by simp) ?_
  have lx := fun e => hx.len e
  simp only [marked_len] at lx
  simp -implicitDefEqProofs only [↓w_seq, ↓w_region, Int.reduceNeg, ↓ops_cons, ↓g_assign, ↓ops_nil, ev_const, of_int, ↓w_block]
  refine w_loop (ι := Nat) (fun i s => ∃ T : Nat → AV, s = ⟨tab 21 T, H⟩ ∧ i ≤ n ∧ T 0 = x ∧ T 1 = .sc (.int .i64 (k + i)) ∧ T 5 = .sc (.int .i64 i)) (fun i => n - i) ?_ (i := 0) ?_
  · rintro i s ⟨T, rfl, a1, a3, a4, a5⟩
    by_cases h : i < n
    · have k1 : (i : Int) < n := by omega
      have k2 : (0 : Int) ≤ i := by omega
      obtain ⟨r, o, rfl, hr⟩ := hx.get (i := i) (by rw [marked_len]; exact h)
      have e1 : IntKind.i64.wrap ((i : Int) + 1) = i + 1 := w64 (by omega) (by omega)
      have e2 : IntKind.i64.wrap (k + (i : Int) + 1) = k + (i : Int) + 1 := w64 (by omega) (by omega)
      simp -implicitDefEqProofs only [↓w_seq, ↓w_region, Int.reduceNeg, marked_len, ↓ops_cons, ↓g_move, ↓g_len, Try.underlying22, Nat.reduceLT, ev_tab, a5, ne_eq, reduceCtorEq, not_false_eq_true, upd_ne, a3, upd_eq, len_sl, ↓g_binOp, Nat.reduceEqDiff, ↓ops_nil, ↓w_cond, ↓w_skip, ↓w_block, ↓g_indexAddr, adr_sl, k2, k1, cells3, tyOk3, and_self, Int.toNat_natCast, Nat.mul_one, Nat.zero_add, if_true, ↓g_load, a4, ↓g_assign, ↓w_ret, ev_const, of_int, ret_one, and_true, b_add, e2, e1, onS_some, rd_def, agg3, hr, rd_ints, h, marked_get, b_neq, decide_true, Bool.not_true, onB_false, ↓w_exit, b_lss, onB_true]
      refine ⟨i + 1, by omega, _, rfl, by omega, ?_, ?_, ?_⟩
      · simp -implicitDefEqProofs only [ne_eq, reduceCtorEq, not_false_eq_true, upd_ne, a3, marked_len]
      · simp -implicitDefEqProofs only [ne_eq, Nat.reduceEqDiff, not_false_eq_true, upd_ne, upd_eq]
        congr 2
        try omega
      · simp -implicitDefEqProofs only [upd_eq] <;> rfl
    · have k1 : ¬ (i : Int) < n := by omega
      have e : i = n := by omega
      subst e
      simp -implicitDefEqProofs only [↓w_seq, ↓w_region, Int.reduceNeg, ↓ops_cons, ↓g_move, ↓g_len, Try.underlying22, Nat.reduceLT, ev_tab, a5, ne_eq, reduceCtorEq, not_false_eq_true, upd_ne, a3, upd_eq, lx, ↓g_binOp, Nat.reduceEqDiff, ↓ops_nil, ↓w_cond, ↓w_skip, ↓w_block, ↓g_indexAddr, ↓g_load, a4, ↓g_assign, ↓w_ret, ev_const, of_int, ret_one, and_true, b_add, onS_some, ↓w_exit, and_self, if_true, b_lss, k1, decide_false, onB_false]
  · refine ⟨_, rfl, by omega, ?_, ?_, ?_⟩
    · simp -implicitDefEqProofs only [ne_eq, reduceCtorEq, not_false_eq_true, upd_ne, par0]
    · simp -implicitDefEqProofs only [ne_eq, Nat.reduceEqDiff, not_false_eq_true, upd_ne, par1, Int.cast_ofNat_Int] <;> simp
    · simp -implicitDefEqProofs only [upd_eq, Int.cast_ofNat_Int] <;> rfl
theorem markFlightS {H : AHeap} {x y : AV} {s g : List Int} (t : Int) (hx : Own H x s) (hy : Own H y g) (hs : s.length ≤ 1000000000) (hg : g.length ≤ 1000000000) (hxy : ∀ r o n k, y = .sl r o n k → Apart x r) : ∃ Z : AHeap, Sound Try.prog 21 [flt x y t, .sc (.int .i64 1)] H (.sc (.int .i64 (1 + s.length + g.length))) Z ∧ Own Z x (marked 1 s.length) ∧ Own Z y (marked (1 + s.length) g.length) ∧ H.length ≤ Z.length ∧ ∀ i, i < H.length → Apart x i → Apart y i → Z[i]? = H[i]? := by
  suffices h : ∃ v Z, Sound Try.prog 21 [flt x y t, .sc (.int .i64 1)] H v Z ∧ v = .sc (.int .i64 (1 + s.length + g.length)) ∧ Own Z x (marked 1 s.length) ∧ Own Z y (marked (1 + s.length) g.length) ∧ H.length ≤ Z.length ∧ ∀ i, i < H.length → Apart x i → Apart y i → Z[i]? = H[i]? by
    obtain ⟨v, Z, h1, rfl, h2⟩ := h
    exact ⟨Z, h1, h2⟩
  unfold flt
  refine Sound.runP (args := [.agg [x, y, .sc (.int .i64 t)], .sc (.int .i64 1)]) 14 [.tmp 4] Try.func21 rfl rfl rfl rfl (by simp) (fun v Z => v = .sc (.int .i64 (1 + s.length + g.length)) ∧ Own Z x (marked 1 s.length) ∧ Own Z y (marked (1 + s.length) g.length) ∧ H.length ≤ Z.length ∧ ∀ i, i < H.length → Apart x i → Apart y i → Z[i]? = H[i]?) ?_
  have x1 := hx.isL.one
  have y1 := hy.isL.one
  obtain ⟨A, hA⟩ : ∃ A : Reg, A = ⟨[x, y, .sc (.int .i64 t)], true, true⟩ := ⟨_, rfl⟩
  have e0 := Ext.more H [A]
  have b0 : (H ++ [A])[H.length]? = some ⟨[x, y, .sc (.int .i64 t)], true, true⟩ := by rw [← hA]; exact hap_0 H [A]
  obtain ⟨Z1, c1, c2, c3, c4⟩ := markOwn 1 (by omega) (hx.ext e0) hs
  have ax : Apart x H.length := fun r o n k e => by
    rcases hx with ⟨rfl, _⟩ | ⟨r', rfl, h⟩
    · cases e
    · injection e with e1
      subst e1
      have := at_lt h
      omega
  have b1 := (c4 _ ax).trans b0
  have hy1 : Own Z1 y g := (hy.ext e0).keep fun r o n k e => c4 r (hxy r o n k e)
  obtain ⟨Z2, d1, d2, d3, d4⟩ := markOwn (1 + s.length) (by omega) hy1 hg
  have hx2 : Own Z2 x (marked 1 s.length) := c2.keep fun r o n k e => d4 r fun r' o' n' k' e' h => hxy r' o' n' k' e' r o n k e h.symm
  simp -implicitDefEqProofs only [↓w_seq, ↓w_region, ↓ops_cons, ↓g_box, Nat.reduceLT, ev_tab, par0, cells_agg, ↓g_assign, ↓ops_nil, ev_const, of_int, ↓g_fieldAddrT, ne_eq, Nat.reduceEqDiff, not_false_eq_true, upd_ne, upd_eq, ↓g_load, ↓g_move, par1, alK_some, List.all_cons, x1, y1, one_int, List.all_nil, Bool.and_self, fadr32_0, Nat.zero_add, onS_some, rd_def, tyOk22, agg22, cells22, hap_0, List.getElem?_cons_zero, rd_onec, true_and]
  rw [← hA]
  refine call1S (by simp -implicitDefEqProofs only [List.map_cons, Nat.reduceLT, ev_tab, ne_eq, Nat.reduceEqDiff, not_false_eq_true, upd_ne, upd_eq, List.map_nil] <;> rfl) c1 ?_
  simp -implicitDefEqProofs only [↓ops_cons, ↓g_assign, ↓ops_nil, ↓w_seq, ↓w_region, Nat.reduceLT, ev_tab, upd_eq, ↓g_fieldAddrT, ne_eq, Nat.reduceEqDiff, not_false_eq_true, upd_ne, fadr32_1, Nat.zero_add, ↓g_load, ↓g_move, onS_some, rd_def, tyOk22, agg22, cells22, b1, rd_onec, List.getElem?_cons_succ, List.getElem?_cons_zero]
  refine call1S (by simp -implicitDefEqProofs only [List.map_cons, Nat.reduceLT, ev_tab, ne_eq, Nat.reduceEqDiff, not_false_eq_true, upd_ne, upd_eq, List.map_nil] <;> rfl) d1 ?_
  simp -implicitDefEqProofs only [↓ops_cons, ↓g_assign, ↓ops_nil, ↓w_seq, ↓w_region, Nat.reduceLT, ev_tab, upd_eq, ↓g_move, ↓w_ret, retP_1, res_tmp, onS_some, true_and]
  refine ⟨hx2, d2, ?_, fun i hi h1 h2 => ?_⟩
  · rw [d3, c3, List.length_append]
    omega
  · rw [d4 i h2, c4 i h1]
    exact e0.2 i hi
theorem heldFlightS {H : AHeap} {x y : AV} {a b : Nat} (t : Int) (hx : IsL H x .i64 (marked 1 a)) (hy : IsL H y .i64 (marked (1 + a) b)) (ha : a ≤ 1000000000) (hb : b ≤ 1000000000) : ∃ Z : AHeap, Sound Try.prog 30 [flt x y t, .sc (.int .i64 1)] H (.sc (.int .i64 (1 + a + b))) Z ∧ Ext H Z := by
  suffices h : ∃ v Z, Sound Try.prog 30 [flt x y t, .sc (.int .i64 1)] H v Z ∧ v = .sc (.int .i64 (1 + a + b)) ∧ Ext H Z by
    obtain ⟨v, Z, h1, rfl, h2⟩ := h
    exact ⟨Z, h1, h2⟩
  unfold flt
  refine Sound.runP (args := [.agg [x, y, .sc (.int .i64 t)], .sc (.int .i64 1)]) 18 [.tmp 4] Try.func30 rfl rfl rfl rfl (by simp) (fun v Z => v = .sc (.int .i64 (1 + a + b)) ∧ Ext H Z) ?_
  have x1 := hx.one
  have y1 := hy.one
  have c1 := fun Y => heldSk 1 (by omega) ((Ext.more H Y).isL hx) ha
  have c2 := fun Y => heldSk (1 + a) (by omega) ((Ext.more H Y).isL hy) hb
  have k1 : ¬ (1 : Int) + a < 0 := by omega
  have k2 : ¬ (1 : Int) + a + b < 0 := by omega
  simp -implicitDefEqProofs only [↓w_seq, ↓w_region, Int.reduceNeg, ↓ops_cons, ↓g_box, Nat.reduceLT, ev_tab, par0, cells_agg, ↓g_assign, ↓ops_nil, ev_const, of_int, ↓g_fieldAddrT, ne_eq, Nat.reduceEqDiff, not_false_eq_true, upd_ne, upd_eq, ↓g_load, ↓g_move, par1, alK_some, List.all_cons, x1, y1, one_int, List.all_nil, Bool.and_self, fadr32_0, Nat.zero_add, onS_some, rd_def, tyOk22, agg22, cells22, hap_0, List.getElem?_cons_zero, rd_onec, true_and]
  refine call1S (by simp -implicitDefEqProofs only [List.map_cons, Nat.reduceLT, ev_tab, ne_eq, Nat.reduceEqDiff, not_false_eq_true, upd_ne, upd_eq, List.map_nil] <;> rfl) (c1 _) ?_
  simp -implicitDefEqProofs only [↓ops_cons, ↓g_assign, ↓ops_nil, ↓w_seq, ↓w_region, Int.reduceNeg, Nat.reduceLT, ev_tab, upd_eq, ↓g_move, ↓g_binOp, ev_const, of_int, b_lss, k1, decide_false, ↓w_cond, ↓w_ret, retP_1, res_tmp, onS_some, ↓w_skip, ↓g_fieldAddrT, ne_eq, Nat.reduceEqDiff, not_false_eq_true, upd_ne, fadr32_1, Nat.zero_add, ↓g_load, rd_def, tyOk22, agg22, cells22, hap_0, List.getElem?_cons_zero, rd_onec, List.getElem?_cons_succ, onB_false]
  refine call1S (by simp -implicitDefEqProofs only [List.map_cons, Nat.reduceLT, ev_tab, ne_eq, Nat.reduceEqDiff, not_false_eq_true, upd_ne, upd_eq, List.map_nil] <;> rfl) (c2 _) ?_
  simp -implicitDefEqProofs only [↓ops_cons, ↓g_assign, ↓ops_nil, ↓w_seq, ↓w_region, Int.reduceNeg, Nat.reduceLT, ev_tab, upd_eq, ↓g_move, ↓g_binOp, ev_const, of_int, b_lss, k2, decide_false, ↓w_cond, ↓w_ret, retP_1, res_tmp, onS_some, ↓w_skip, ne_eq, Nat.reduceEqDiff, not_false_eq_true, upd_ne, true_and, onB_false]
  exact Ext.more _ _
end Go.Proofs.Ytcjjcpdfnndenaa.Sim
namespace Go.Proofs.Ytcjjcpdfnndenaa.Sim
open Go
set_option maxRecDepth 100000
set_option maxHeartbeats 40000000
set_option linter.unusedSimpArgs false
set_option linter.unusedVariables false
def Stop (s g : List Int) (t : Int) : Prop := ¬ FlOk s g t ∨ leftL s g = [] ∨ 1000 ≤ t
theorem saidI {H : AHeap} {x y : AV} {s g : List Int} (t t' : Int) (M : List Int) (hM : (Stop s g t ∧ t' = t ∧ M = []) ∨ (¬ Stop s g t ∧ t' = t + 1 ∧ M = leftL s g)) (hx : IsL H x .i64 s) (hy : IsL H y .i64 g) (hs : s.length ≤ 1000000000) (hg : g.length ≤ 1000000000) :
    ∃ (p q : Nat) (v : AV) (Z : AHeap), Sound Try.prog 32 [flt x y t] H (.tup [flt (.sl p 0 s.length 1) (.sl q 0 g.length 1) t', v]) Z ∧ Ext H Z ∧ H.length ≤ p ∧ p < q ∧ Z[p]? = some ⟨ints .i64 s, true, true⟩ ∧ Z[q]? = some ⟨ints .i64 g, true, true⟩ ∧ Own Z v M ∧ ∀ r o n k, v = .sl r o n k → q < r := by
  suffices h : ∃ w Z, Sound Try.prog 32 [flt x y t] H w Z ∧ ∃ p q v, w = .tup [flt (.sl p 0 s.length 1) (.sl q 0 g.length 1) t', v] ∧ Ext H Z ∧ H.length ≤ p ∧ p < q ∧ Z[p]? = some ⟨ints .i64 s, true, true⟩ ∧ Z[q]? = some ⟨ints .i64 g, true, true⟩ ∧ Own Z v M ∧ ∀ r o n k, v = .sl r o n k → q < r by
    obtain ⟨w, Z, h1, p, q, v, rfl, h2⟩ := h
    exact ⟨p, q, v, Z, h1, h2⟩
  refine Sound.runP (args := [flt x y t]) 30 [.cell 2 32, .tmp 3] Try.func32 rfl rfl rfl rfl (by simp) (fun w Z => ∃ p q v, w = .tup [flt (.sl p 0 s.length 1) (.sl q 0 g.length 1) t', v] ∧ Ext H Z ∧ H.length ≤ p ∧ p < q ∧ Z[p]? = some ⟨ints .i64 s, true, true⟩ ∧ Z[q]? = some ⟨ints .i64 g, true, true⟩ ∧ Own Z v M ∧ ∀ r o n k, v = .sl r o n k → q < r) ?_
  have x1 := hx.one
  have y1 := hy.one
  obtain ⟨A, hA⟩ : ∃ A : Reg, A = ⟨[x, y, .sc (.int .i64 t)], true, true⟩ := ⟨_, rfl⟩
  obtain ⟨B, hB⟩ : ∃ B : Reg, B = ⟨[.sc (.slice none 0 0), .sc (.slice none 0 0), .sc (.int .i64 0)], true, true⟩ := ⟨_, rfl⟩
  have e0 := Ext.more H [A, B]
  have a0 := hap_0 H [A, B]
  have b0 := hap_k H [A, B] 1
  have hll := leftL_len s g
  obtain ⟨b, hb⟩ : ∃ b : Bool, b = true ↔ FlOk s g t := by
    by_cases h : FlOk s g t
    · exact ⟨true, fun _ => h, fun _ => rfl⟩
    · exact ⟨false, fun h => Bool.noConfusion h, fun q => absurd q h⟩
  obtain ⟨p, q, Z1, c1, c2, c3, c4, c5, c6⟩ := copyFlI t (e0.isL hx) (e0.isL hy) hs hg
  have a1 := c2.at a0
  have b1 := c2.at b0
  obtain ⟨C, hC⟩ : ∃ C : Reg, C = ⟨[.sl p 0 s.length 1, .sl q 0 g.length 1, .sc (.int .i64 t)], true, true⟩ := ⟨_, rfl⟩
  have e1 := Ext.more Z1 [C]
  have w1 := at_end Z1 C
  have a1' := e1.at a1
  obtain ⟨r, Z2, d1, d2, d3, d4⟩ := leftI t (((e0.trans c2).trans e1).isL hx) (((e0.trans c2).trans e1).isL hy) hs hg
  obtain ⟨Z3, f1, f2⟩ := flOkI t b hb ((((e0.trans c2).trans e1).trans d2).isL hx) ((((e0.trans c2).trans e1).trans d2).isL hy) hs hg
  have e3 := (((e0.trans c2).trans e1).trans d2).trans f2
  have a2 := d2.at (e1.at a1)
  have w2 := d2.at w1
  have a3 := f2.at a2
  have w3 := f2.at w2
  have b3 := f2.at (d2.at (e1.at b1))
  have p3 := f2.at (d2.at (e1.at c5))
  have q3 := f2.at (d2.at (e1.at c6))
  have r3 := f2.at d4
  have z1 : H.length + 2 ≤ p := by rw [List.length_append] at c3; exact c3
  have z2 : q < Z1.length := at_lt c6
  have z3 : Z1.length + 1 ≤ r := by rw [List.length_append] at d3; exact d3
  have z4 : Z1.length < Z3.length := at_lt w3
  have z5 : H.length + 1 < Z3.length := at_lt b3
  subst hA hB hC
  have eS := fun Y : Reg => (e3.set (q := H.length + 1) (by omega) Y)
  unfold flt at c1 d1 f1 ⊢
  by_cases hok : FlOk s g t
  · have hbt : b = true := hb.2 hok
    subst hbt
    by_cases hL : leftL s g = []
    · obtain ⟨_, rfl, rfl⟩ | ⟨h, _⟩ := hM
      · have kl : (leftL s g).length = 0 := by rw [hL]; rfl
        have kl2 : ((leftL s g).length : Int) = 0 := by rw [kl]; rfl
        simp -implicitDefEqProofs only [↓w_seq, ↓w_region, ↓ops_cons, ↓g_box, Nat.reduceLT, ev_tab, par0, cells_agg, ↓g_alloc, zero32, Option.map_some, ↓g_assign, ↓ops_nil, ev_const, ↓g_load, ne_eq, Nat.reduceEqDiff, not_false_eq_true, upd_ne, upd_eq, alK_some, List.all_cons, one_nil, one_int, List.all_nil, Bool.and_self, true_and, x1, y1, List.append_assoc, List.cons_append, List.nil_append, rd_def, tyOk32, agg32, cells32, hap_0, List.getElem?_cons_zero, rd_aggc, Nat.zero_add, List.length_cons, List.length_nil, Nat.reduceAdd, Nat.le_refl, List.drop_zero, List.take_succ_cons, List.take_zero, if_true, List.length_append, onS_some]
        refine call1S (by simp -implicitDefEqProofs only [List.map_cons, Nat.reduceLT, ev_tab, upd_eq, List.map_nil] <;> rfl) c1 ?_
        simp -implicitDefEqProofs only [↓ops_cons, ↓g_alloc, zero32, Option.map_some, ↓g_store, Nat.reduceLT, ev_tab, upd_eq, ne_eq, Nat.reduceEqDiff, not_false_eq_true, upd_ne, ↓ops_nil, ↓w_seq, ↓w_region, ↓g_load, rd_def, tyOk32, agg32, cells32, alK_some, List.all_cons, one_nil, one_int, List.all_nil, Bool.and_self, wr_def, hap_0, List.getElem?_cons_zero, wr_c, cells_agg, List.length_cons, List.length_nil, Nat.zero_add, Nat.reduceAdd, Nat.le_refl, one_sl, and_self, ovr_fm, ovr_fn, hset_0, List.set_cons_zero, if_true, onS_some, a1', rd_aggc, List.drop_zero, List.take_succ_cons, List.take_zero, true_and]
        refine call1S (by simp -implicitDefEqProofs only [List.map_cons, Nat.reduceLT, ev_tab, upd_eq, List.map_nil] <;> rfl) d1 ?_
        simp -implicitDefEqProofs only [↓ops_cons, ↓g_assign, ↓ops_nil, ↓w_seq, ↓w_region, Nat.reduceLT, ev_tab, upd_eq, ↓g_load, ne_eq, Nat.reduceEqDiff, not_false_eq_true, upd_ne, rd_def, tyOk32, agg32, cells32, a2, rd_aggc, Nat.zero_add, List.length_cons, List.length_nil, Nat.reduceAdd, Nat.le_refl, List.drop_zero, List.take_succ_cons, List.take_zero, if_true, onS_some]
        refine call1S (by simp -implicitDefEqProofs only [List.map_cons, Nat.reduceLT, ev_tab, upd_eq, List.map_nil] <;> rfl) f1 ?_
        simp -implicitDefEqProofs only [↓ops_cons, ↓g_unOp, Nat.reduceLT, ev_tab, upd_eq, u_not, Bool.not_true, Option.map_some, ↓g_move, onS_some, yielded_tab, dstAt_s, dstAt_0, ybv_some, boolOf_b, ↓g_guard_t, ne_eq, Nat.reduceEqDiff, not_false_eq_true, upd_ne, ↓g_len, Try.underlying22, len_sl, kl2, ↓g_binOp, ev_const, of_int, ↓g_pick, of_bool, pick_b, reduceCtorEq, if_false, b_eql, decide_true, Bool.not_false, ↓g_guard_f, if_true, ↓ops_nil, ↓w_cond, ↓w_seq, ↓w_region, ↓g_load, rd_def, tyOk32, agg32, cells32, w3, rd_aggc, Nat.zero_add, List.length_cons, List.length_nil, Nat.reduceAdd, Nat.le_refl, List.drop_zero, List.take_succ_cons, List.take_zero, ↓g_store, wr_def, b3, wr_c, true_and, ↓g_assign, ↓w_ret, retP_2, res_cell, res_tmp, onS_ite, at_set z5, cells_agg, List.all_cons, one_sl, one_int, List.all_nil, Bool.and_self, and_self, ovr_fm, ovr_fn, ↓w_skip, ↓g_fieldAddrT, fadr32_2, tyOk3, cells3, over_s, agg3, rd_onec, List.getElem?_cons_succ, List.getElem?_cons_zero, b_add, cells_int, onB_true]
        exact ⟨p, q, _, rfl, eS _, by omega, c4, (List.getElem?_set_ne (by omega)).trans p3, (List.getElem?_set_ne (by omega)).trans q3, .inl ⟨rfl, rfl⟩, fun r o n k e => by cases e⟩
      · exact absurd (.inr (.inl hL)) h
    · have kl : ¬ ((leftL s g).length : Int) = 0 := fun h => hL (List.length_eq_zero_iff.1 (by omega))
      by_cases ht : t = 1000
      · obtain ⟨_, rfl, rfl⟩ | ⟨h, _⟩ := hM
        · simp -implicitDefEqProofs only [↓w_seq, ↓w_region, ↓ops_cons, ↓g_box, Nat.reduceLT, ev_tab, par0, cells_agg, ↓g_alloc, zero32, Option.map_some, ↓g_assign, ↓ops_nil, ev_const, ↓g_load, ne_eq, Nat.reduceEqDiff, not_false_eq_true, upd_ne, upd_eq, alK_some, List.all_cons, one_nil, one_int, List.all_nil, Bool.and_self, true_and, x1, y1, List.append_assoc, List.cons_append, List.nil_append, rd_def, tyOk32, agg32, cells32, hap_0, List.getElem?_cons_zero, rd_aggc, Nat.zero_add, List.length_cons, List.length_nil, Nat.reduceAdd, Nat.le_refl, List.drop_zero, List.take_succ_cons, List.take_zero, if_true, List.length_append, onS_some]
          refine call1S (by simp -implicitDefEqProofs only [List.map_cons, Nat.reduceLT, ev_tab, upd_eq, List.map_nil] <;> rfl) c1 ?_
          simp -implicitDefEqProofs only [↓ops_cons, ↓g_alloc, zero32, Option.map_some, ↓g_store, Nat.reduceLT, ev_tab, upd_eq, ne_eq, Nat.reduceEqDiff, not_false_eq_true, upd_ne, ↓ops_nil, ↓w_seq, ↓w_region, ↓g_load, rd_def, tyOk32, agg32, cells32, alK_some, List.all_cons, one_nil, one_int, List.all_nil, Bool.and_self, wr_def, hap_0, List.getElem?_cons_zero, wr_c, cells_agg, List.length_cons, List.length_nil, Nat.zero_add, Nat.reduceAdd, Nat.le_refl, one_sl, and_self, ovr_fm, ovr_fn, hset_0, List.set_cons_zero, if_true, onS_some, a1', rd_aggc, List.drop_zero, List.take_succ_cons, List.take_zero, true_and]
          refine call1S (by simp -implicitDefEqProofs only [List.map_cons, Nat.reduceLT, ev_tab, upd_eq, List.map_nil] <;> rfl) d1 ?_
          simp -implicitDefEqProofs only [↓ops_cons, ↓g_assign, ↓ops_nil, ↓w_seq, ↓w_region, Nat.reduceLT, ev_tab, upd_eq, ↓g_load, ne_eq, Nat.reduceEqDiff, not_false_eq_true, upd_ne, rd_def, tyOk32, agg32, cells32, a2, rd_aggc, Nat.zero_add, List.length_cons, List.length_nil, Nat.reduceAdd, Nat.le_refl, List.drop_zero, List.take_succ_cons, List.take_zero, if_true, onS_some]
          refine call1S (by simp -implicitDefEqProofs only [List.map_cons, Nat.reduceLT, ev_tab, upd_eq, List.map_nil] <;> rfl) f1 ?_
          simp -implicitDefEqProofs only [↓ops_cons, ↓g_unOp, ht, Nat.reduceLT, ev_tab, upd_eq, u_not, Bool.not_true, Option.map_some, ↓g_move, onS_some, yielded_tab, dstAt_s, dstAt_0, ybv_some, boolOf_b, ↓g_guard_t, ne_eq, Nat.reduceEqDiff, not_false_eq_true, upd_ne, ↓g_len, Try.underlying22, len_sl, ↓g_binOp, ev_const, of_int, ↓g_pick, of_bool, pick_b, reduceCtorEq, if_false, b_eql, kl, decide_false, ↓g_fieldAddrT, fadr32_2, Nat.zero_add, ↓g_load, ↓ops_nil, ↓w_cond, ↓w_seq, ↓w_region, rd_def, tyOk32, agg32, cells32, w3, rd_aggc, List.length_cons, List.length_nil, Nat.reduceAdd, Nat.le_refl, List.drop_zero, List.take_succ_cons, List.take_zero, if_true, ↓g_store, wr_def, b3, wr_c, true_and, ↓g_assign, ↓w_ret, retP_2, res_cell, res_tmp, onS_ite, at_set z5, cells_agg, List.all_cons, one_sl, one_int, List.all_nil, Bool.and_self, and_self, ovr_fm, ovr_fn, ↓w_skip, tyOk3, cells3, over_s, agg3, rd_onec, List.getElem?_cons_succ, List.getElem?_cons_zero, b_add, Int.reduceAdd, cells_int, a3, decide_true, onB_true]
          exact ⟨p, q, _, rfl, eS _, by omega, c4, (List.getElem?_set_ne (by omega)).trans p3, (List.getElem?_set_ne (by omega)).trans q3, .inl ⟨rfl, rfl⟩, fun r o n k e => by cases e⟩
        · exact absurd (.inr (.inr (by omega))) h
      · obtain ⟨h, _⟩ | ⟨_, rfl, rfl⟩ := hM
        · exact absurd h (by
            rintro (h | h | h)
            · exact h hok
            · exact hL h
            · exact ht (by have := hok.2.2.2.1.2; omega))
        · have e4 : IntKind.i64.wrap (t + 1) = t + 1 := by
            have := hok.2.2.2.1
            exact w64 (by omega) (by omega)
          have b4 : ∀ g : Reg, (Z3.set Z1.length g)[H.length + 1]? = some ⟨[.sc (.slice none 0 0), .sc (.slice none 0 0), .sc (.int .i64 0)], true, true⟩ := fun g => (List.getElem?_set_ne (by omega)).trans b3
          have w5 : ∀ C g : Reg, ((Z3.set Z1.length C).set (H.length + 1) g)[H.length + 1]? = some g := fun C g => List.getElem?_set_self (by rw [List.length_set]; omega)
          have w4 : ∀ g : Reg, (Z3.set Z1.length g)[Z1.length]? = some g := fun g => List.getElem?_set_self z4
          simp -implicitDefEqProofs only [↓w_seq, ↓w_region, ↓ops_cons, ↓g_box, Nat.reduceLT, ev_tab, par0, cells_agg, ↓g_alloc, zero32, Option.map_some, ↓g_assign, ↓ops_nil, ev_const, ↓g_load, ne_eq, Nat.reduceEqDiff, not_false_eq_true, upd_ne, upd_eq, alK_some, List.all_cons, one_nil, one_int, List.all_nil, Bool.and_self, true_and, x1, y1, List.append_assoc, List.cons_append, List.nil_append, rd_def, tyOk32, agg32, cells32, hap_0, List.getElem?_cons_zero, rd_aggc, Nat.zero_add, List.length_cons, List.length_nil, Nat.reduceAdd, Nat.le_refl, List.drop_zero, List.take_succ_cons, List.take_zero, if_true, List.length_append, onS_some]
          refine call1S (by simp -implicitDefEqProofs only [List.map_cons, Nat.reduceLT, ev_tab, upd_eq, List.map_nil] <;> rfl) c1 ?_
          simp -implicitDefEqProofs only [↓ops_cons, ↓g_alloc, zero32, Option.map_some, ↓g_store, Nat.reduceLT, ev_tab, upd_eq, ne_eq, Nat.reduceEqDiff, not_false_eq_true, upd_ne, ↓ops_nil, ↓w_seq, ↓w_region, ↓g_load, rd_def, tyOk32, agg32, cells32, alK_some, List.all_cons, one_nil, one_int, List.all_nil, Bool.and_self, wr_def, hap_0, List.getElem?_cons_zero, wr_c, cells_agg, List.length_cons, List.length_nil, Nat.zero_add, Nat.reduceAdd, Nat.le_refl, one_sl, and_self, ovr_fm, ovr_fn, hset_0, List.set_cons_zero, if_true, onS_some, a1', rd_aggc, List.drop_zero, List.take_succ_cons, List.take_zero, true_and]
          refine call1S (by simp -implicitDefEqProofs only [List.map_cons, Nat.reduceLT, ev_tab, upd_eq, List.map_nil] <;> rfl) d1 ?_
          simp -implicitDefEqProofs only [↓ops_cons, ↓g_assign, ↓ops_nil, ↓w_seq, ↓w_region, Nat.reduceLT, ev_tab, upd_eq, ↓g_load, ne_eq, Nat.reduceEqDiff, not_false_eq_true, upd_ne, rd_def, tyOk32, agg32, cells32, a2, rd_aggc, Nat.zero_add, List.length_cons, List.length_nil, Nat.reduceAdd, Nat.le_refl, List.drop_zero, List.take_succ_cons, List.take_zero, if_true, onS_some]
          refine call1S (by simp -implicitDefEqProofs only [List.map_cons, Nat.reduceLT, ev_tab, upd_eq, List.map_nil] <;> rfl) f1 ?_
          simp -implicitDefEqProofs only [↓ops_cons, ↓g_unOp, Nat.reduceLT, ev_tab, upd_eq, u_not, Bool.not_true, Option.map_some, ↓g_move, onS_some, yielded_tab, dstAt_s, dstAt_0, ybv_some, boolOf_b, ↓g_guard_t, ne_eq, Nat.reduceEqDiff, not_false_eq_true, upd_ne, ↓g_len, Try.underlying22, len_sl, ↓g_binOp, ev_const, of_int, ↓g_pick, of_bool, pick_b, reduceCtorEq, if_false, b_eql, kl, decide_false, ↓g_fieldAddrT, fadr32_2, Nat.zero_add, ↓g_load, ↓ops_nil, ↓w_cond, ↓w_seq, ↓w_region, rd_def, tyOk32, agg32, cells32, w3, rd_aggc, List.length_cons, List.length_nil, Nat.reduceAdd, Nat.le_refl, List.drop_zero, List.take_succ_cons, List.take_zero, if_true, ↓g_store, wr_def, ↓g_assign, ↓w_ret, retP_2, res_cell, res_tmp, ↓w_skip, tyOk3, cells3, wr_c, true_and, over_s, onS_ite, w4, Nat.reduceLeDiff, b4, w5, cells_agg, List.all_cons, one_sl, ovr_fm, agg3, rd_onec, List.getElem?_cons_succ, List.getElem?_cons_zero, b_add, e4, cells_int, one_int, List.all_nil, Bool.and_self, and_self, ovr_fn, a3, ht, onB_false]
          refine ⟨p, q, _, rfl, (e3.set (by omega) _).set (by omega) _, by omega, c4, ?_, ?_, ?_, fun r o n k e => ?_⟩
          · exact (List.getElem?_set_ne (by omega)).trans ((List.getElem?_set_ne (by omega)).trans p3)
          · exact (List.getElem?_set_ne (by omega)).trans ((List.getElem?_set_ne (by omega)).trans q3)
          · exact Own.sl ((List.getElem?_set_ne (by omega)).trans ((List.getElem?_set_ne (by omega)).trans r3))
          · injection e with e1
            omega
  · have hbf : b = false := by
      cases b with
      | false => rfl
      | true => exact absurd (hb.1 rfl) hok
    subst hbf
    obtain ⟨_, rfl, rfl⟩ | ⟨h, _⟩ := hM
    · simp -implicitDefEqProofs only [↓w_seq, ↓w_region, ↓ops_cons, ↓g_box, Nat.reduceLT, ev_tab, par0, cells_agg, ↓g_alloc, zero32, Option.map_some, ↓g_assign, ↓ops_nil, ev_const, ↓g_load, ne_eq, Nat.reduceEqDiff, not_false_eq_true, upd_ne, upd_eq, alK_some, List.all_cons, one_nil, one_int, List.all_nil, Bool.and_self, true_and, x1, y1, List.append_assoc, List.cons_append, List.nil_append, rd_def, tyOk32, agg32, cells32, hap_0, List.getElem?_cons_zero, rd_aggc, Nat.zero_add, List.length_cons, List.length_nil, Nat.reduceAdd, Nat.le_refl, List.drop_zero, List.take_succ_cons, List.take_zero, if_true, List.length_append, onS_some]
      refine call1S (by simp -implicitDefEqProofs only [List.map_cons, Nat.reduceLT, ev_tab, upd_eq, List.map_nil] <;> rfl) c1 ?_
      simp -implicitDefEqProofs only [↓ops_cons, ↓g_alloc, zero32, Option.map_some, ↓g_store, Nat.reduceLT, ev_tab, upd_eq, ne_eq, Nat.reduceEqDiff, not_false_eq_true, upd_ne, ↓ops_nil, ↓w_seq, ↓w_region, ↓g_load, rd_def, tyOk32, agg32, cells32, alK_some, List.all_cons, one_nil, one_int, List.all_nil, Bool.and_self, wr_def, hap_0, List.getElem?_cons_zero, wr_c, cells_agg, List.length_cons, List.length_nil, Nat.zero_add, Nat.reduceAdd, Nat.le_refl, one_sl, and_self, ovr_fm, ovr_fn, hset_0, List.set_cons_zero, if_true, onS_some, a1', rd_aggc, List.drop_zero, List.take_succ_cons, List.take_zero, true_and]
      refine call1S (by simp -implicitDefEqProofs only [List.map_cons, Nat.reduceLT, ev_tab, upd_eq, List.map_nil] <;> rfl) d1 ?_
      simp -implicitDefEqProofs only [↓ops_cons, ↓g_assign, ↓ops_nil, ↓w_seq, ↓w_region, Nat.reduceLT, ev_tab, upd_eq, ↓g_load, ne_eq, Nat.reduceEqDiff, not_false_eq_true, upd_ne, rd_def, tyOk32, agg32, cells32, a2, rd_aggc, Nat.zero_add, List.length_cons, List.length_nil, Nat.reduceAdd, Nat.le_refl, List.drop_zero, List.take_succ_cons, List.take_zero, if_true, onS_some]
      refine call1S (by simp -implicitDefEqProofs only [List.map_cons, Nat.reduceLT, ev_tab, upd_eq, List.map_nil] <;> rfl) f1 ?_
      simp -implicitDefEqProofs only [↓ops_cons, ↓g_unOp, Nat.reduceLT, ev_tab, upd_eq, u_not, Bool.not_false, Option.map_some, ↓g_move, onS_some, yielded_tab, dstAt_s, dstAt_0, ybv_some, boolOf_b, ↓g_guard_f, ne_eq, Nat.reduceEqDiff, not_false_eq_true, upd_ne, ↓g_pick, ev_const, of_bool, pick_b, if_true, ↓ops_nil, ↓w_cond, ↓w_seq, ↓w_region, ↓g_load, rd_def, tyOk32, agg32, cells32, w3, rd_aggc, Nat.zero_add, List.length_cons, List.length_nil, Nat.reduceAdd, Nat.le_refl, List.drop_zero, List.take_succ_cons, List.take_zero, ↓g_store, wr_def, b3, wr_c, true_and, ↓g_assign, ↓w_ret, retP_2, res_cell, res_tmp, onS_ite, at_set z5, cells_agg, List.all_cons, one_sl, one_int, List.all_nil, Bool.and_self, and_self, ovr_fm, ovr_fn, ↓w_skip, ↓g_fieldAddrT, fadr32_2, ↓g_binOp, of_int, tyOk3, cells3, over_s, agg3, rd_onec, List.getElem?_cons_succ, List.getElem?_cons_zero, b_add, cells_int, onB_true]
      exact ⟨p, q, _, rfl, eS _, by omega, c4, (List.getElem?_set_ne (by omega)).trans p3, (List.getElem?_set_ne (by omega)).trans q3, .inl ⟨rfl, rfl⟩, fun r o n k e => by cases e⟩
    · exact absurd (.inl hok) h
theorem saidS {H : AHeap} {x y : AV} {s g : List Int} (t t' : Int) (M : List Int) (hM : (Stop s g t ∧ t' = t ∧ M = []) ∨ (¬ Stop s g t ∧ t' = t + 1 ∧ M = leftL s g)) (hx : IsL H x .i64 s) (hy : IsL H y .i64 g) (hs : s.length ≤ 1000000000) (hg : g.length ≤ 1000000000) :
    ∃ (p q : Nat) (v : AV) (Z : AHeap), Sound Try.prog 31 [flt x y t] H (.tup [flt (.sl p 0 s.length 1) (.sl q 0 g.length 1) t', v]) Z ∧ Ext H Z ∧ H.length ≤ p ∧ p < q ∧ Z[p]? = some ⟨ints .i64 s, true, true⟩ ∧ Z[q]? = some ⟨ints .i64 g, true, true⟩ ∧ Own Z v M ∧ ∀ r o n k, v = .sl r o n k → q < r := by
  suffices h : ∃ w Z, Sound Try.prog 31 [flt x y t] H w Z ∧ ∃ p q v, w = .tup [flt (.sl p 0 s.length 1) (.sl q 0 g.length 1) t', v] ∧ Ext H Z ∧ H.length ≤ p ∧ p < q ∧ Z[p]? = some ⟨ints .i64 s, true, true⟩ ∧ Z[q]? = some ⟨ints .i64 g, true, true⟩ ∧ Own Z v M ∧ ∀ r o n k, v = .sl r o n k → q < r by
    obtain ⟨w, Z, h1, p, q, v, rfl, h2⟩ := h
    exact ⟨p, q, v, Z, h1, h2⟩
  refine Sound.runP (args := [flt x y t]) 31 [.cell 2 32, .tmp 3] Try.func31 rfl rfl rfl rfl (by simp) (fun w Z => ∃ p q v, w = .tup [flt (.sl p 0 s.length 1) (.sl q 0 g.length 1) t', v] ∧ Ext H Z ∧ H.length ≤ p ∧ p < q ∧ Z[p]? = some ⟨ints .i64 s, true, true⟩ ∧ Z[q]? = some ⟨ints .i64 g, true, true⟩ ∧ Own Z v M ∧ ∀ r o n k, v = .sl r o n k → q < r) ?_
  have x1 := hx.one
  have y1 := hy.one
  obtain ⟨A, hA⟩ : ∃ A : Reg, A = ⟨[x, y, .sc (.int .i64 t)], true, true⟩ := ⟨_, rfl⟩
  obtain ⟨B, hB⟩ : ∃ B : Reg, B = ⟨[.sc (.slice none 0 0), .sc (.slice none 0 0), .sc (.int .i64 0)], true, true⟩ := ⟨_, rfl⟩
  have e0 := Ext.more H [A, B]
  have a0 := hap_0 H [A, B]
  have b0 := hap_k H [A, B] 1
  have hll := leftL_len s g
  obtain ⟨b, hb⟩ : ∃ b : Bool, b = true ↔ FlOk s g t := by
    by_cases h : FlOk s g t
    · exact ⟨true, fun _ => h, fun _ => rfl⟩
    · exact ⟨false, fun h => Bool.noConfusion h, fun q => absurd q h⟩
  obtain ⟨p, q, Z1, c1, c2, c3, c4, c5, c6⟩ := copyFlS t (e0.isL hx) (e0.isL hy) hs hg
  have a1 := c2.at a0
  have b1 := c2.at b0
  obtain ⟨C, hC⟩ : ∃ C : Reg, C = ⟨[.sl p 0 s.length 1, .sl q 0 g.length 1, .sc (.int .i64 t)], true, true⟩ := ⟨_, rfl⟩
  have e1 := Ext.more Z1 [C]
  have w1 := at_end Z1 C
  have a1' := e1.at a1
  obtain ⟨r, Z2, d1, d2, d3, d4⟩ := leftS t (((e0.trans c2).trans e1).isL hx) (((e0.trans c2).trans e1).isL hy) hs hg
  obtain ⟨Z3, f1, f2⟩ := flOkS t b hb ((((e0.trans c2).trans e1).trans d2).isL hx) ((((e0.trans c2).trans e1).trans d2).isL hy) hs hg
  have e3 := (((e0.trans c2).trans e1).trans d2).trans f2
  have a2 := d2.at (e1.at a1)
  have w2 := d2.at w1
  have a3 := f2.at a2
  have w3 := f2.at w2
  have b3 := f2.at (d2.at (e1.at b1))
  have p3 := f2.at (d2.at (e1.at c5))
  have q3 := f2.at (d2.at (e1.at c6))
  have r3 := f2.at d4
  have z1 : H.length + 2 ≤ p := by rw [List.length_append] at c3; exact c3
  have z2 : q < Z1.length := at_lt c6
  have z3 : Z1.length + 1 ≤ r := by rw [List.length_append] at d3; exact d3
  have z4 : Z1.length < Z3.length := at_lt w3
  have z5 : H.length + 1 < Z3.length := at_lt b3
  subst hA hB hC
  have b3' : ∀ g : Reg, (Z3 ++ [g])[H.length + 1]? = some ⟨[.sc (.slice none 0 0), .sc (.slice none 0 0), .sc (.int .i64 0)], true, true⟩ := fun g => (at_more _ _ _ z5).trans b3
  have s5 : ∀ E g : Reg, ((Z3 ++ [E]).set (H.length + 1) g)[H.length + 1]? = some g := fun E g => List.getElem?_set_self (by rw [List.length_append]; omega)
  have q5 : q < Z3.length := at_lt q3
  have eS := fun Y : Reg => (e3.set (q := H.length + 1) (by omega) Y)
  unfold flt at c1 d1 f1 ⊢
  by_cases hok : FlOk s g t
  · have hbt : b = true := hb.2 hok
    subst hbt
    by_cases hL : leftL s g = []
    · obtain ⟨_, rfl, rfl⟩ | ⟨h, _⟩ := hM
      · have kl : (leftL s g).length = 0 := by rw [hL]; rfl
        have kl2 : ((leftL s g).length : Int) = 0 := by rw [kl]; rfl
        simp -implicitDefEqProofs only [↓w_seq, ↓w_region, ↓ops_cons, ↓g_box, Nat.reduceLT, ev_tab, par0, cells_agg, ↓g_alloc, zero32, Option.map_some, ↓g_assign, ↓ops_nil, ev_const, ↓g_load, ne_eq, Nat.reduceEqDiff, not_false_eq_true, upd_ne, upd_eq, alK_some, List.all_cons, one_nil, one_int, List.all_nil, Bool.and_self, true_and, x1, y1, List.append_assoc, List.cons_append, List.nil_append, rd_def, tyOk32, agg32, cells32, hap_0, List.getElem?_cons_zero, rd_aggc, Nat.zero_add, List.length_cons, List.length_nil, Nat.reduceAdd, Nat.le_refl, List.drop_zero, List.take_succ_cons, List.take_zero, if_true, List.length_append, onS_some]
        refine call1S (by simp -implicitDefEqProofs only [List.map_cons, Nat.reduceLT, ev_tab, upd_eq, List.map_nil] <;> rfl) c1 ?_
        simp -implicitDefEqProofs only [↓ops_cons, ↓g_alloc, zero32, Option.map_some, ↓g_store, Nat.reduceLT, ev_tab, upd_eq, ne_eq, Nat.reduceEqDiff, not_false_eq_true, upd_ne, ↓ops_nil, ↓w_seq, ↓w_region, ↓g_load, rd_def, tyOk32, agg32, cells32, alK_some, List.all_cons, one_nil, one_int, List.all_nil, Bool.and_self, wr_def, hap_0, List.getElem?_cons_zero, wr_c, cells_agg, List.length_cons, List.length_nil, Nat.zero_add, Nat.reduceAdd, Nat.le_refl, one_sl, and_self, ovr_fm, ovr_fn, hset_0, List.set_cons_zero, if_true, onS_some, a1', rd_aggc, List.drop_zero, List.take_succ_cons, List.take_zero, true_and]
        refine call1S (by simp -implicitDefEqProofs only [List.map_cons, Nat.reduceLT, ev_tab, upd_eq, List.map_nil] <;> rfl) d1 ?_
        simp -implicitDefEqProofs only [↓ops_cons, ↓g_assign, ↓ops_nil, ↓w_seq, ↓w_region, Nat.reduceLT, ev_tab, upd_eq, ↓g_load, ne_eq, Nat.reduceEqDiff, not_false_eq_true, upd_ne, rd_def, tyOk32, agg32, cells32, a2, rd_aggc, Nat.zero_add, List.length_cons, List.length_nil, Nat.reduceAdd, Nat.le_refl, List.drop_zero, List.take_succ_cons, List.take_zero, if_true, onS_some]
        refine call1S (by simp -implicitDefEqProofs only [List.map_cons, Nat.reduceLT, ev_tab, upd_eq, List.map_nil] <;> rfl) f1 ?_
        simp -implicitDefEqProofs only [↓ops_cons, ↓g_unOp, Nat.reduceLT, ev_tab, upd_eq, u_not, Bool.not_true, Option.map_some, ↓g_move, onS_some, yielded_tab, dstAt_s, dstAt_0, ybv_some, boolOf_b, ↓g_guard_t, ne_eq, Nat.reduceEqDiff, not_false_eq_true, upd_ne, ↓g_len, Try.underlying22, len_sl, kl2, ↓g_binOp, ev_const, of_int, ↓g_pick, of_bool, pick_b, reduceCtorEq, if_false, b_eql, decide_true, Bool.not_false, ↓g_guard_f, if_true, ↓ops_nil, ↓w_cond, ↓w_seq, ↓w_region, ↓g_load, rd_def, tyOk32, agg32, cells32, w3, rd_aggc, Nat.zero_add, List.length_cons, List.length_nil, Nat.reduceAdd, Nat.le_refl, List.drop_zero, List.take_succ_cons, List.take_zero, ↓g_buildSlice, List.map_nil, bs3_0, ↓g_store, wr_def, ↓g_assign, ↓w_ret, retP_2, res_cell, res_tmp, alK_some, ints_one, b3', wr_c, true_and, onS_ite, s5, cells_agg, List.all_cons, one_sl, one_int, List.all_nil, Bool.and_self, and_self, ovr_fm, ovr_fn, ↓w_skip, ↓g_fieldAddrT, fadr32_2, tyOk3, cells3, over_s, agg3, onB_true]
        exact ⟨p, q, _, rfl, (e3.add _).set (by omega) _, by omega, c4, (List.getElem?_set_ne (by omega)).trans ((at_more _ _ _ (at_lt p3)).trans p3), (List.getElem?_set_ne (by omega)).trans ((at_more _ _ _ (at_lt q3)).trans q3), .inr ⟨_, rfl, (List.getElem?_set_ne (by omega)).trans (at_end _ _)⟩, fun r o n k e => by (injection e with e1; omega)⟩
      · exact absurd (.inr (.inl hL)) h
    · have kl : ¬ ((leftL s g).length : Int) = 0 := fun h => hL (List.length_eq_zero_iff.1 (by omega))
      by_cases ht : t = 1000
      · have kt : 1000 ≤ t := by omega
        obtain ⟨_, rfl, rfl⟩ | ⟨h, _⟩ := hM
        · simp -implicitDefEqProofs only [↓w_seq, ↓w_region, ↓ops_cons, ↓g_box, Nat.reduceLT, ev_tab, par0, cells_agg, ↓g_alloc, zero32, Option.map_some, ↓g_assign, ↓ops_nil, ev_const, ↓g_load, ne_eq, Nat.reduceEqDiff, not_false_eq_true, upd_ne, upd_eq, alK_some, List.all_cons, one_nil, one_int, List.all_nil, Bool.and_self, true_and, x1, y1, List.append_assoc, List.cons_append, List.nil_append, rd_def, tyOk32, agg32, cells32, hap_0, List.getElem?_cons_zero, rd_aggc, Nat.zero_add, List.length_cons, List.length_nil, Nat.reduceAdd, Nat.le_refl, List.drop_zero, List.take_succ_cons, List.take_zero, if_true, List.length_append, onS_some]
          refine call1S (by simp -implicitDefEqProofs only [List.map_cons, Nat.reduceLT, ev_tab, upd_eq, List.map_nil] <;> rfl) c1 ?_
          simp -implicitDefEqProofs only [↓ops_cons, ↓g_alloc, zero32, Option.map_some, ↓g_store, Nat.reduceLT, ev_tab, upd_eq, ne_eq, Nat.reduceEqDiff, not_false_eq_true, upd_ne, ↓ops_nil, ↓w_seq, ↓w_region, ↓g_load, rd_def, tyOk32, agg32, cells32, alK_some, List.all_cons, one_nil, one_int, List.all_nil, Bool.and_self, wr_def, hap_0, List.getElem?_cons_zero, wr_c, cells_agg, List.length_cons, List.length_nil, Nat.zero_add, Nat.reduceAdd, Nat.le_refl, one_sl, and_self, ovr_fm, ovr_fn, hset_0, List.set_cons_zero, if_true, onS_some, a1', rd_aggc, List.drop_zero, List.take_succ_cons, List.take_zero, true_and]
          refine call1S (by simp -implicitDefEqProofs only [List.map_cons, Nat.reduceLT, ev_tab, upd_eq, List.map_nil] <;> rfl) d1 ?_
          simp -implicitDefEqProofs only [↓ops_cons, ↓g_assign, ↓ops_nil, ↓w_seq, ↓w_region, Nat.reduceLT, ev_tab, upd_eq, ↓g_load, ne_eq, Nat.reduceEqDiff, not_false_eq_true, upd_ne, rd_def, tyOk32, agg32, cells32, a2, rd_aggc, Nat.zero_add, List.length_cons, List.length_nil, Nat.reduceAdd, Nat.le_refl, List.drop_zero, List.take_succ_cons, List.take_zero, if_true, onS_some]
          refine call1S (by simp -implicitDefEqProofs only [List.map_cons, Nat.reduceLT, ev_tab, upd_eq, List.map_nil] <;> rfl) f1 ?_
          simp -implicitDefEqProofs only [↓ops_cons, ↓g_unOp, Nat.reduceLT, ev_tab, upd_eq, u_not, Bool.not_true, Option.map_some, ↓g_move, onS_some, yielded_tab, dstAt_s, dstAt_0, ybv_some, boolOf_b, ↓g_guard_t, ne_eq, Nat.reduceEqDiff, not_false_eq_true, upd_ne, ↓g_len, Try.underlying22, len_sl, ↓g_binOp, ev_const, of_int, ↓g_pick, of_bool, pick_b, reduceCtorEq, if_false, b_eql, kl, decide_false, ↓g_fieldAddrT, fadr32_2, Nat.zero_add, ↓g_load, ↓ops_nil, ↓w_cond, ↓w_seq, ↓w_region, rd_def, tyOk32, agg32, cells32, w3, rd_aggc, List.length_cons, List.length_nil, Nat.reduceAdd, Nat.le_refl, List.drop_zero, List.take_succ_cons, List.take_zero, if_true, ↓g_buildSlice, List.map_nil, bs3_0, ↓g_store, wr_def, ↓g_assign, ↓w_ret, retP_2, res_cell, res_tmp, alK_some, ints_one, b3', wr_c, true_and, onS_ite, s5, cells_agg, List.all_cons, one_sl, one_int, List.all_nil, Bool.and_self, and_self, ovr_fm, ovr_fn, ↓w_skip, tyOk3, cells3, over_s, agg3, a3, rd_onec, List.getElem?_cons_succ, List.getElem?_cons_zero, b_add, cells_int, b_geq, kt, decide_true, onB_true]
          exact ⟨p, q, _, rfl, (e3.add _).set (by omega) _, by omega, c4, (List.getElem?_set_ne (by omega)).trans ((at_more _ _ _ (at_lt p3)).trans p3), (List.getElem?_set_ne (by omega)).trans ((at_more _ _ _ (at_lt q3)).trans q3), .inr ⟨_, rfl, (List.getElem?_set_ne (by omega)).trans (at_end _ _)⟩, fun r o n k e => by (injection e with e1; omega)⟩
        · exact absurd (.inr (.inr (by omega))) h
      · obtain ⟨h, _⟩ | ⟨_, rfl, rfl⟩ := hM
        · exact absurd h (by
            rintro (h | h | h)
            · exact h hok
            · exact hL h
            · exact ht (by have := hok.2.2.2.1.2; omega))
        · have kt : ¬ 1000 ≤ t := by have := hok.2.2.2.1.2; omega
          have e4 : IntKind.i64.wrap (t + 1) = t + 1 := by
            have := hok.2.2.2.1
            exact w64 (by omega) (by omega)
          have b4 : ∀ g : Reg, (Z3.set Z1.length g)[H.length + 1]? = some ⟨[.sc (.slice none 0 0), .sc (.slice none 0 0), .sc (.int .i64 0)], true, true⟩ := fun g => (List.getElem?_set_ne (by omega)).trans b3
          have w5 : ∀ C g : Reg, ((Z3.set Z1.length C).set (H.length + 1) g)[H.length + 1]? = some g := fun C g => List.getElem?_set_self (by rw [List.length_set]; omega)
          have w4 : ∀ g : Reg, (Z3.set Z1.length g)[Z1.length]? = some g := fun g => List.getElem?_set_self z4
          simp -implicitDefEqProofs only [↓w_seq, ↓w_region, ↓ops_cons, ↓g_box, Nat.reduceLT, ev_tab, par0, cells_agg, ↓g_alloc, zero32, Option.map_some, ↓g_assign, ↓ops_nil, ev_const, ↓g_load, ne_eq, Nat.reduceEqDiff, not_false_eq_true, upd_ne, upd_eq, alK_some, List.all_cons, one_nil, one_int, List.all_nil, Bool.and_self, true_and, x1, y1, List.append_assoc, List.cons_append, List.nil_append, rd_def, tyOk32, agg32, cells32, hap_0, List.getElem?_cons_zero, rd_aggc, Nat.zero_add, List.length_cons, List.length_nil, Nat.reduceAdd, Nat.le_refl, List.drop_zero, List.take_succ_cons, List.take_zero, if_true, List.length_append, onS_some]
          refine call1S (by simp -implicitDefEqProofs only [List.map_cons, Nat.reduceLT, ev_tab, upd_eq, List.map_nil] <;> rfl) c1 ?_
          simp -implicitDefEqProofs only [↓ops_cons, ↓g_alloc, zero32, Option.map_some, ↓g_store, Nat.reduceLT, ev_tab, upd_eq, ne_eq, Nat.reduceEqDiff, not_false_eq_true, upd_ne, ↓ops_nil, ↓w_seq, ↓w_region, ↓g_load, rd_def, tyOk32, agg32, cells32, alK_some, List.all_cons, one_nil, one_int, List.all_nil, Bool.and_self, wr_def, hap_0, List.getElem?_cons_zero, wr_c, cells_agg, List.length_cons, List.length_nil, Nat.zero_add, Nat.reduceAdd, Nat.le_refl, one_sl, and_self, ovr_fm, ovr_fn, hset_0, List.set_cons_zero, if_true, onS_some, a1', rd_aggc, List.drop_zero, List.take_succ_cons, List.take_zero, true_and]
          refine call1S (by simp -implicitDefEqProofs only [List.map_cons, Nat.reduceLT, ev_tab, upd_eq, List.map_nil] <;> rfl) d1 ?_
          simp -implicitDefEqProofs only [↓ops_cons, ↓g_assign, ↓ops_nil, ↓w_seq, ↓w_region, Nat.reduceLT, ev_tab, upd_eq, ↓g_load, ne_eq, Nat.reduceEqDiff, not_false_eq_true, upd_ne, rd_def, tyOk32, agg32, cells32, a2, rd_aggc, Nat.zero_add, List.length_cons, List.length_nil, Nat.reduceAdd, Nat.le_refl, List.drop_zero, List.take_succ_cons, List.take_zero, if_true, onS_some]
          refine call1S (by simp -implicitDefEqProofs only [List.map_cons, Nat.reduceLT, ev_tab, upd_eq, List.map_nil] <;> rfl) f1 ?_
          simp -implicitDefEqProofs only [↓ops_cons, ↓g_unOp, Nat.reduceLT, ev_tab, upd_eq, u_not, Bool.not_true, Option.map_some, ↓g_move, onS_some, yielded_tab, dstAt_s, dstAt_0, ybv_some, boolOf_b, ↓g_guard_t, ne_eq, Nat.reduceEqDiff, not_false_eq_true, upd_ne, ↓g_len, Try.underlying22, len_sl, ↓g_binOp, ev_const, of_int, ↓g_pick, of_bool, pick_b, reduceCtorEq, if_false, b_eql, kl, decide_false, ↓g_fieldAddrT, fadr32_2, Nat.zero_add, ↓g_load, ↓ops_nil, ↓w_cond, ↓w_seq, ↓w_region, rd_def, tyOk32, agg32, cells32, w3, rd_aggc, List.length_cons, List.length_nil, Nat.reduceAdd, Nat.le_refl, List.drop_zero, List.take_succ_cons, List.take_zero, if_true, ↓g_buildSlice, List.map_nil, bs3_0, ↓g_store, wr_def, ↓g_assign, ↓w_ret, retP_2, res_cell, res_tmp, alK_some, ints_one, true_and, ↓w_skip, tyOk3, cells3, wr_c, over_s, onS_ite, w4, Nat.reduceLeDiff, b4, w5, cells_agg, List.all_cons, one_sl, ovr_fm, agg3, a3, rd_onec, List.getElem?_cons_succ, List.getElem?_cons_zero, b_add, e4, cells_int, one_int, List.all_nil, Bool.and_self, and_self, ovr_fn, b_geq, kt, onB_false]
          refine ⟨p, q, _, rfl, (e3.set (by omega) _).set (by omega) _, by omega, c4, ?_, ?_, ?_, fun r o n k e => ?_⟩
          · exact (List.getElem?_set_ne (by omega)).trans ((List.getElem?_set_ne (by omega)).trans p3)
          · exact (List.getElem?_set_ne (by omega)).trans ((List.getElem?_set_ne (by omega)).trans q3)
          · exact Own.sl ((List.getElem?_set_ne (by omega)).trans ((List.getElem?_set_ne (by omega)).trans r3))
          · injection e with e1
            omega
  · have hbf : b = false := by
      cases b with
      | false => rfl
      | true => exact absurd (hb.1 rfl) hok
    subst hbf
    obtain ⟨_, rfl, rfl⟩ | ⟨h, _⟩ := hM
    · simp -implicitDefEqProofs only [↓w_seq, ↓w_region, ↓ops_cons, ↓g_box, Nat.reduceLT, ev_tab, par0, cells_agg, ↓g_alloc, zero32, Option.map_some, ↓g_assign, ↓ops_nil, ev_const, ↓g_load, ne_eq, Nat.reduceEqDiff, not_false_eq_true, upd_ne, upd_eq, alK_some, List.all_cons, one_nil, one_int, List.all_nil, Bool.and_self, true_and, x1, y1, List.append_assoc, List.cons_append, List.nil_append, rd_def, tyOk32, agg32, cells32, hap_0, List.getElem?_cons_zero, rd_aggc, Nat.zero_add, List.length_cons, List.length_nil, Nat.reduceAdd, Nat.le_refl, List.drop_zero, List.take_succ_cons, List.take_zero, if_true, List.length_append, onS_some]
      refine call1S (by simp -implicitDefEqProofs only [List.map_cons, Nat.reduceLT, ev_tab, upd_eq, List.map_nil] <;> rfl) c1 ?_
      simp -implicitDefEqProofs only [↓ops_cons, ↓g_alloc, zero32, Option.map_some, ↓g_store, Nat.reduceLT, ev_tab, upd_eq, ne_eq, Nat.reduceEqDiff, not_false_eq_true, upd_ne, ↓ops_nil, ↓w_seq, ↓w_region, ↓g_load, rd_def, tyOk32, agg32, cells32, alK_some, List.all_cons, one_nil, one_int, List.all_nil, Bool.and_self, wr_def, hap_0, List.getElem?_cons_zero, wr_c, cells_agg, List.length_cons, List.length_nil, Nat.zero_add, Nat.reduceAdd, Nat.le_refl, one_sl, and_self, ovr_fm, ovr_fn, hset_0, List.set_cons_zero, if_true, onS_some, a1', rd_aggc, List.drop_zero, List.take_succ_cons, List.take_zero, true_and]
      refine call1S (by simp -implicitDefEqProofs only [List.map_cons, Nat.reduceLT, ev_tab, upd_eq, List.map_nil] <;> rfl) d1 ?_
      simp -implicitDefEqProofs only [↓ops_cons, ↓g_assign, ↓ops_nil, ↓w_seq, ↓w_region, Nat.reduceLT, ev_tab, upd_eq, ↓g_load, ne_eq, Nat.reduceEqDiff, not_false_eq_true, upd_ne, rd_def, tyOk32, agg32, cells32, a2, rd_aggc, Nat.zero_add, List.length_cons, List.length_nil, Nat.reduceAdd, Nat.le_refl, List.drop_zero, List.take_succ_cons, List.take_zero, if_true, onS_some]
      refine call1S (by simp -implicitDefEqProofs only [List.map_cons, Nat.reduceLT, ev_tab, upd_eq, List.map_nil] <;> rfl) f1 ?_
      simp -implicitDefEqProofs only [↓ops_cons, ↓g_unOp, Nat.reduceLT, ev_tab, upd_eq, u_not, Bool.not_false, Option.map_some, ↓g_move, onS_some, yielded_tab, dstAt_s, dstAt_0, ybv_some, boolOf_b, ↓g_guard_f, ne_eq, Nat.reduceEqDiff, not_false_eq_true, upd_ne, ↓g_pick, ev_const, of_bool, pick_b, if_true, ↓ops_nil, ↓w_cond, ↓w_seq, ↓w_region, ↓g_load, rd_def, tyOk32, agg32, cells32, w3, rd_aggc, Nat.zero_add, List.length_cons, List.length_nil, Nat.reduceAdd, Nat.le_refl, List.drop_zero, List.take_succ_cons, List.take_zero, ↓g_buildSlice, Try.underlying22, List.map_nil, bs3_0, ↓g_store, wr_def, ↓g_assign, ↓w_ret, retP_2, res_cell, res_tmp, alK_some, ints_one, b3', wr_c, true_and, onS_ite, s5, cells_agg, List.all_cons, one_sl, one_int, List.all_nil, Bool.and_self, and_self, ovr_fm, ovr_fn, ↓w_skip, ↓g_fieldAddrT, fadr32_2, ↓g_binOp, of_int, tyOk3, cells3, over_s, agg3, onB_true]
      exact ⟨p, q, _, rfl, (e3.add _).set (by omega) _, by omega, c4, (List.getElem?_set_ne (by omega)).trans ((at_more _ _ _ (at_lt p3)).trans p3), (List.getElem?_set_ne (by omega)).trans ((at_more _ _ _ (at_lt q3)).trans q3), .inr ⟨_, rfl, (List.getElem?_set_ne (by omega)).trans (at_end _ _)⟩, fun r o n k e => by (injection e with e1; omega)⟩
    · exact absurd (.inl hok) h
end Go.Proofs.Ytcjjcpdfnndenaa.Sim
