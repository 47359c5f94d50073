/- Texts of this proof, put together. -/
import Derived.Test.YtcjjcpdfnndenaaMFnAcksTold3
import Derived.Test.YtcjjcpdfnndenaaS26
import Derived.Test.YtcjjcpdfnndenaaShelf
import Derived.Test.YtcjjcpdfnndenaaMFnAcksTold2
import Derived.Test.YtcjjcpdfnndenaaTy
import Derived.Test.YtcjjcpdfnndenaaChecked
import Derived.Test.YtcjjcpdfnndenaaMFnAcksTold1
import Derived.ChangeSlices
import Derived.ChangeShapes
import Derived.WideShapes
import Derived.ChangeArms
import Derived.ChangeOld
import Derived.ChangeStays
namespace Go.Proofs.Ytcjjcpdfnndenaa.Sim
open Go
set_option maxRecDepth 100000
set_option maxHeartbeats 40000000
set_option linter.unusedSimpArgs false
set_option linter.unusedVariables false
theorem kd_lit (k : IntKind) (H : AHeap) (q : Nat) (g : Reg) (l : List Int) (h : H[q]? = some ⟨ints k l, true, true⟩) (Y : Reg) : (H ++ [Y])[q]? = some ⟨ints k l, true, true⟩ := (at_more _ _ _ (at_lt h)).trans h
theorem bdFl (p n q m : Nat) : buildV Try.prog 32 [(0, .sl p 0 n 1), (1, .sl q 0 m 1)] = some (.agg [.sl p 0 n 1, .sl q 0 m 1, .sc (.int .i64 0)]) := by
  have c1 : (AV.sl p 0 n 1).cells = [AV.sl p 0 n 1] := rfl
  have c2 : (AV.sl q 0 m 1).cells = [AV.sl q 0 m 1] := rfl
  simp [buildV, fillA, placeS, overA, cells_int, c1, c2, Try.underlying0, Try.underlying1, Try.underlying2, Try.underlying3, Try.underlying4, Try.underlying5, Try.underlying6, Try.underlying7, Try.underlying8, Try.underlying9, Try.underlying10, Try.underlying11, Try.underlying12, Try.underlying13, Try.underlying14, Try.underlying15, Try.underlying16, Try.underlying17, Try.underlying18, Try.underlying19, Try.underlying20, Try.underlying21, Try.underlying22, Try.underlying23, Try.underlying24, Try.underlying25, Try.underlying26, Try.underlying27, Try.underlying28, Try.underlying29, Try.underlying30, Try.underlying31, Try.underlying32, Try.underlying33, Try.underlying34, Try.underlying35, Try.underlying36, Try.underlying37, Try.underlying38, Try.underlying39, Try.underlying40, Try.underlying41, Try.underlying42, Try.underlying43, Try.underlying44, Try.underlying45, Try.underlying46, Try.underlying47, Try.underlying48, Try.underlying49, Try.underlying50, Try.underlying51, Try.underlying52, Try.underlying53, Try.underlying54, Try.underlying55, Try.underlying56, Try.underlying57, Try.underlying58, Try.underlying59, Try.underlying60, Try.underlying61, Try.underlying62, Try.underlying63, Try.underlying64, Try.underlying65, Try.underlying66, Try.underlying67, Try.underlying68, Try.underlying69, Try.underlying70, Try.underlying71, Try.underlying72, Try.underlying73, Try.underlying74, Try.underlying75, Try.underlying76, Try.underlying77, Try.underlying78, Try.underlying79, Try.underlying80, Try.underlying81, Try.underlying82, Try.underlying83, Try.underlying84, Try.underlying85, Try.underlying86, Try.underlying87, Try.underlying88, Try.underlying89, Try.underlying90, Try.underlying91, Try.underlying92, Try.underlying93, Try.underlying94, Try.underlying95, Try.underlying96, Try.underlying97, Try.underlying98, Try.underlying99, Try.underlying100, Try.underlying101, Try.underlying102, Try.underlying103, Try.underlying104, Try.underlying105, Try.underlying106, Try.underlying107, Try.underlying108, Try.underlying109, Try.underlying110, Try.underlying111, Try.underlying112, Try.underlying113, Try.underlying114, tyOk0, agg0, cells0, tyOk1, agg1, cells1, tyOk2, agg2, cells2, zero2, info2, mk2, bs2_0, bs2_1, bs2_2, bs2_3, bs2_4, bs2_5, bs2_6, bs2_7, bs2_8, bs2_10, bs2_11, bs2_12, bs2_13, tyOk3, agg3, cells3, zero3, apS22, apN22, info3, mk3, bs3_0, bs3_1, bs3_2, bs3_3, bs3_4, bs3_5, bs3_6, bs3_7, bs3_8, bs3_10, bs3_11, bs3_12, bs3_13, tyOk4, agg4, cells4, zero4, info4, mk4, bs4_0, bs4_1, bs4_2, tyOk5, agg5, cells5, isU5, zero5, apS46, apN46, apStr46, info5, mk5, bs5_0, bs5_1, bs5_2, bs5_3, bs5_4, bs5_5, bs5_6, bs5_7, bs5_8, bs5_10, bs5_11, bs5_12, bs5_13, tyOk6, agg6, cells6, isU6, zero6, info6, mk6, bs6_0, bs6_1, bs6_2, bs6_3, bs6_4, bs6_5, bs6_6, bs6_7, bs6_8, bs6_10, bs6_11, bs6_12, bs6_13, tyOk7, agg7, cells7, zero7, fadr7_0, fld7_0, fadr7_1, fld7_1, fadr7_2, fld7_2, fadr7_3, fld7_3, bz7, bds7, tyOk8, agg8, cells8, zero8, fadr8_0, fld8_0, fadr8_1, fld8_1, fadr8_2, fld8_2, fadr8_3, fld8_3, bz8, bds8, tyOk9, agg9, cells9, zero9, info9, bs9_0, bs9_1, bs9_2, bs9_3, bs9_4, bs9_5, bs9_6, bs9_8, bs9_9, bs9_10, tyOk10, agg10, cells10, zero10, info10, bs10_0, bs10_1, bs10_2, bs10_3, bs10_4, bs10_5, bs10_6, bs10_8, bs10_9, bs10_10, tyOk11, agg11, cells11, zero11, info11, bs11_0, bs11_1, bs11_2, bs11_3, bs11_4, bs11_5, bs11_6, bs11_8, bs11_9, bs11_10, tyOk12, agg12, cells12, zero12, info12, mk12, bs12_0, bs12_1, bs12_2, bs12_3, bs12_4, bs12_5, bs12_6, bs12_7, bs12_8, bs12_10, bs12_11, bs12_12, bs12_13, tyOk13, agg13, cells13, zero13, fadr13_0, fld13_0, fadr13_1, fld13_1, bz13, bds13, tyOk14, agg14, cells14, zero14, fadr14_0, fld14_0, fadr14_1, fld14_1, bz14, bds14, tyOk15, agg15, cells15, zero15, tyOk16, agg16, cells16, zero16, tyOk17, agg17, cells17, zero17, tyOk18, agg18, cells18, zero18, fadr18_0, fld18_0, bz18, bds18, tyOk19, agg19, cells19, zero19, fadr19_0, fld19_0, bz19, bds19, tyOk20, agg20, cells20, tyOk21, agg21, cells21, zero21, info21, mk21, bs21_0, bs21_1, bs21_2, bs21_3, bs21_4, bs21_5, bs21_6, bs21_7, bs21_8, bs21_10, bs21_11, bs21_12, bs21_13, tyOk22, agg22, cells22, zero22, tyOk23, agg23, cells23, tyOk24, agg24, cells24, tyOk25, agg25, cells25, tyOk26, agg26, cells26, tyOk27, agg27, cells27, tyOk28, agg28, cells28, zero28, fadr28_0, fld28_0, fadr28_1, fld28_1, fadr28_2, fld28_2, bz28, bds28, tyOk29, agg29, cells29, zero29, fadr29_0, fld29_0, fadr29_1, fld29_1, fadr29_2, fld29_2, bz29, bds29, tyOk30, agg30, cells30, tyOk31, agg31, cells31, tyOk32, agg32, cells32, zero32, fadr32_0, fld32_0, fadr32_1, fld32_1, fadr32_2, fld32_2, bz32, bds32, tyOk33, agg33, cells33, tyOk34, agg34, cells34, tyOk35, agg35, cells35, tyOk36, agg36, cells36, tyOk37, agg37, cells37, tyOk38, agg38, cells38, tyOk39, agg39, cells39, tyOk40, agg40, cells40, tyOk41, agg41, cells41, tyOk42, agg42, cells42, tyOk43, agg43, cells43, tyOk44, agg44, cells44, tyOk45, agg45, cells45, tyOk46, agg46, cells46, zero46, tyOk47, agg47, cells47, tyOk48, agg48, cells48, tyOk49, agg49, cells49, tyOk50, agg50, cells50, tyOk51, agg51, cells51, tyOk52, agg52, cells52, tyOk53, agg53, cells53, tyOk54, agg54, cells54, tyOk55, agg55, cells55, tyOk56, agg56, cells56, tyOk57, agg57, cells57, tyOk58, agg58, cells58, tyOk59, agg59, cells59, tyOk60, agg60, cells60, tyOk61, agg61, cells61, zero61, tyOk62, agg62, cells62, tyOk63, agg63, cells63, tyOk64, agg64, cells64, tyOk65, agg65, cells65, tyOk66, agg66, cells66, tyOk67, agg67, cells67, tyOk68, agg68, cells68, tyOk69, agg69, cells69, tyOk70, agg70, cells70, zero70, fadr70_0, fld70_0, fadr70_1, fld70_1, fadr70_2, fld70_2, bz70, bds70, tyOk71, agg71, cells71, zero71, fadr71_0, fld71_0, fadr71_1, fld71_1, fadr71_2, fld71_2, bz71, bds71, tyOk72, agg72, cells72, zero72, info72, mk72, bs72_0, bs72_1, bs72_2, bs72_3, bs72_4, bs72_5, bs72_6, bs72_7, bs72_8, bs72_10, bs72_11, bs72_12, bs72_13, tyOk73, agg73, cells73, tyOk74, agg74, cells74, tyOk75, agg75, cells75, tyOk76, agg76, cells76, tyOk77, agg77, cells77, zero77, info77, mk77, bs77_0, bs77_1, bs77_2, bs77_3, bs77_4, bs77_5, bs77_6, bs77_7, bs77_8, bs77_10, bs77_11, bs77_12, bs77_13, tyOk78, agg78, cells78, tyOk79, agg79, cells79, tyOk80, agg80, cells80, tyOk81, agg81, cells81, tyOk82, agg82, cells82, tyOk83, agg83, cells83, tyOk84, agg84, cells84, tyOk85, agg85, cells85, tyOk86, agg86, cells86, zero86, info86, mk86, bs86_0, bs86_1, bs86_2, bs86_3, bs86_4, bs86_5, bs86_6, bs86_7, bs86_8, bs86_10, bs86_11, bs86_12, bs86_13, tyOk87, agg87, cells87, tyOk88, agg88, cells88, zero88, info88, mk88, bs88_0, bs88_1, bs88_2, bs88_3, bs88_4, bs88_5, bs88_6, bs88_7, bs88_8, bs88_10, bs88_11, bs88_12, bs88_13, tyOk89, agg89, cells89, zero89, info89, mk89, bs89_0, bs89_1, bs89_2, bs89_3, bs89_4, bs89_5, bs89_6, bs89_7, bs89_8, bs89_10, bs89_11, bs89_12, bs89_13, tyOk90, agg90, cells90, tyOk91, agg91, cells91, tyOk92, agg92, cells92, tyOk93, agg93, cells93, zero93, tyOk94, agg94, cells94, tyOk95, agg95, cells95, tyOk96, agg96, cells96, zero96, tyOk97, agg97, cells97, tyOk98, agg98, cells98, tyOk99, agg99, cells99, tyOk100, agg100, cells100, zero100, fadr100_0, fld100_0, fadr100_1, fld100_1, fadr100_2, fld100_2, fadr100_3, fld100_3, bz100, bds100, tyOk101, agg101, cells101, zero101, fadr101_0, fld101_0, fadr101_1, fld101_1, fadr101_2, fld101_2, fadr101_3, fld101_3, bz101, bds101, tyOk102, agg102, cells102, zero102, tyOk103, agg103, cells103, zero103, tyOk104, agg104, cells104, zero104, tyOk105, agg105, cells105, tyOk106, agg106, cells106, isU106, zero106, info106, mk106, bs106_0, bs106_1, bs106_2, bs106_3, bs106_4, bs106_5, bs106_6, bs106_7, bs106_8, bs106_10, bs106_11, bs106_12, bs106_13, tyOk107, agg107, cells107, isU107, zero107, info107, mk107, bs107_0, bs107_1, bs107_2, bs107_3, bs107_4, bs107_5, bs107_6, bs107_7, bs107_8, bs107_10, bs107_11, bs107_12, bs107_13, tyOk108, agg108, cells108, tyOk109, agg109, cells109, zero109, tyOk110, agg110, cells110, zero110, info110, mk110, bs110_0, bs110_1, bs110_2, bs110_3, bs110_4, bs110_5, bs110_6, bs110_7, bs110_8, bs110_10, bs110_11, bs110_12, bs110_13, tyOk111, agg111, cells111, zero111, info111, mk111, bs111_0, bs111_1, bs111_2, bs111_3, bs111_4, bs111_5, bs111_6, bs111_7, bs111_8, bs111_10, bs111_11, bs111_12, bs111_13, tyOk112, agg112, cells112, fadr112_0, fld112_0, fadr112_1, fld112_1, fadr112_2, fld112_2, fadr112_3, fld112_3, fadr112_4, fld112_4, fadr112_5, fld112_5, fadr112_6, fld112_6, fadr112_7, fld112_7, fadr112_8, fld112_8, fadr112_9, fld112_9, fadr112_10, fld112_10, tyOk113, agg113, cells113, fadr113_0, fld113_0, fadr113_1, fld113_1, fadr113_2, fld113_2, fadr113_3, fld113_3, fadr113_4, fld113_4, fadr113_5, fld113_5, fadr113_6, fld113_6, fadr113_7, fld113_7, fadr113_8, fld113_8, fadr113_9, fld113_9, fadr113_10, fld113_10, tyOk114, agg114, cells114, zero114]
theorem flOfS {H : AHeap} {x : AV} {l : List Int} (hx : IsL H x .i64 l) (hl : l.length ≤ 1000000000) : ∃ (p q : Nat) (Z : AHeap), Sound Try.prog 38 [x] H (flt (.sl p 0 (flOf l).length 1) (.sl q 0 0 1) 0) Z ∧ Ext H Z ∧ H.length ≤ p ∧ p < q ∧ Z[p]? = some ⟨ints .i64 (flOf l), true, true⟩ ∧ Z[q]? = some ⟨ints .i64 [], true, true⟩ := by
  suffices h : ∃ v Z, Sound Try.prog 38 [x] H v Z ∧ ∃ p q, v = flt (.sl p 0 (flOf l).length 1) (.sl q 0 0 1) 0 ∧ Ext H Z ∧ H.length ≤ p ∧ p < q ∧ Z[p]? = some ⟨ints .i64 (flOf l), true, true⟩ ∧ Z[q]? = some ⟨ints .i64 [], true, true⟩ by
    obtain ⟨v, Z, h1, p, q, rfl, h2⟩ := h
    exact ⟨p, q, Z, h1, h2⟩
  unfold flt
  refine Sound.runP (args := [x]) 76 [.cell 2 32] Try.func38 rfl rfl rfl rfl (by simp) (fun v Z => ∃ p q, v = .agg [.sl p 0 (flOf l).length 1, .sl q 0 0 1, .sc (.int .i64 0)] ∧ Ext H Z ∧ H.length ≤ p ∧ p < q ∧ Z[p]? = some ⟨ints .i64 (flOf l), true, true⟩ ∧ Z[q]? = some ⟨ints .i64 [], true, true⟩) ?_
  have x1 := hx.one
  obtain ⟨B, hB⟩ : ∃ B : Reg, B = ⟨[.sc (.slice none 0 0), .sc (.slice none 0 0), .sc (.int .i64 0)], true, true⟩ := ⟨_, rfl⟩
  have e0 := Ext.more H [B]
  have b0 : (H ++ [B])[H.length]? = some ⟨[.sc (.slice none 0 0), .sc (.slice none 0 0), .sc (.int .i64 0)], true, true⟩ := by rw [← hB]; exact hap_0 H [B]
  simp -implicitDefEqProofs only [↓w_seq, ↓w_region, ↓ops_cons, ↓g_alloc, zero32, Option.map_some, ↓ops_nil, ↓g_buildSlice, Try.underlying22, List.map_nil, bs3_0, ↓g_assign, Nat.reduceLT, ev_tab, upd_eq, ↓w_block, ev_const, of_int, alK_some, ints_one, true_and, List.all_cons, one_nil, one_int, List.all_nil, Bool.and_self, List.length_append, List.length_cons, List.length_nil, Nat.zero_add, List.append_assoc, List.cons_append, List.nil_append]
  rw [← hB]
  refine w_loop (ι := Nat) (fun i st => ∃ (T : Nat → AV) (Z : AHeap) (q : Nat), st = ⟨tab 76 T, Z⟩ ∧ i ≤ l.length ∧ Ext (H ++ [B]) Z ∧ H.length + 1 ≤ q ∧ Z[q]? = some ⟨ints .i64 (flOf (l.take i)), true, true⟩ ∧ T 0 = x ∧ T 2 = .ptr H.length 0 ∧ T 3 = .sl q 0 (flOf (l.take i)).length 1 ∧ T 4 = .sc (.int .i64 i)) (fun i => l.length - i) ?_ (i := 0) ?_
  · rintro i st ⟨T, Z, q, rfl, a1, ez, hq, a2, t0, t2, t3, t4⟩
    have lx := fun e => ((e0.trans ez).isL hx).len e
    by_cases h : i < l.length
    · have k1 : (i : Int) < l.length := by omega
      have k2 : (0 : Int) ≤ i := by omega
      have e1 : IntKind.i64.wrap ((i : Int) + 1) = i + 1 := w64 (by omega) (by omega)
      obtain ⟨r, o, hxr, hr⟩ := ((e0.trans ez).isL hx).get (i := i) h
      have hfs := flOf_s l i h
      have hfo := flOf_ok (l.take i)
      have htl : (l.take i).length = i := by rw [List.length_take]; omega
      generalize flOf (l.take i) = O at *
      have hOl : O.length ≤ 1000000000 := by omega
      generalize hv : l.getD i 0 = v at *
      have hc := inLS v (IsL.mk a2) hOl
      by_cases c1 : 0 ≤ v ∧ v ≤ 9999
      · by_cases c2 : v ∈ O
        · rw [decide_eq_true c2] at hc
          rw [flStep, if_neg (fun h => h.2 c2)] at hfs
          simp -implicitDefEqProofs only [↓w_seq, ↓w_region, hxr, ↓ops_cons, ↓g_move, ↓g_len, Try.underlying22, Nat.reduceLT, ev_tab, t4, ne_eq, reduceCtorEq, not_false_eq_true, upd_ne, t0, upd_eq, len_sl, ↓g_binOp, Nat.reduceEqDiff, ↓ops_nil, ↓w_cond, ↓w_skip, ↓w_block, ↓g_indexAddr, adr_sl, k2, k1, cells3, tyOk3, and_self, Int.toNat_natCast, Nat.mul_one, Nat.zero_add, if_true, ↓g_load, onS_some, rd_def, agg3, hr, rd_ints, h, hv, ↓w_exit, ↓g_buildSlice, List.map_nil, bs3_0, ↓g_buildV, List.map_cons, ↓g_store, ↓w_ret, retP_1, res_cell, alK_some, ints_one, true_and, b_lss, decide_true, onB_true]
          refine call1 (by simp -implicitDefEqProofs only [List.map_cons, Nat.reduceLT, ev_tab, upd_eq, ev_const, of_int, List.map_nil] <;> rfl) (inS v 0 9999) ?_
          rw [decide_eq_true c1]
          simp -implicitDefEqProofs only [↓ops_cons, ↓g_unOp, Nat.reduceLT, ev_tab, upd_eq, u_not, Bool.not_true, Option.map_some, ↓g_move, onS_some, yielded_tab, dstAt_s, dstAt_0, ybv_some, boolOf_b, ↓g_guard_t, ne_eq, Nat.reduceEqDiff, not_false_eq_true, upd_ne, t3, reduceCtorEq, t0, hxr, t4, ↓g_indexAddr, Try.underlying22, adr_sl, k2, k1, cells3, tyOk3, and_self, Int.toNat_natCast, Nat.mul_one, Nat.zero_add, if_true, ↓g_load, rd_def, agg3, hr, rd_ints, h, hv]
          refine call1S (by simp -implicitDefEqProofs only [List.map_cons, Nat.reduceLT, ev_tab, ne_eq, Nat.reduceEqDiff, not_false_eq_true, upd_ne, upd_eq, List.map_nil] <;> rfl) hc ?_
          simp -implicitDefEqProofs only [↓ops_cons, ↓g_pick, Nat.reduceLT, ev_tab, ne_eq, Nat.reduceEqDiff, not_false_eq_true, upd_ne, upd_eq, ev_const, of_bool, pick_b, reduceCtorEq, if_false, ↓ops_nil, ↓w_cond, ↓w_exit, ↓w_region, ↓g_move, ↓g_binOp, t4, of_int, b_add, e1, ↓g_assign, onS_some, ↓w_seq, ↓g_buildSlice, Try.underlying22, List.map_nil, bs3_0, ↓g_buildV, List.map_cons, ↓g_store, ↓w_ret, retP_1, res_cell, alK_some, ints_one, true_and, if_true, ↓w_skip, ↓w_block, onB_true]
          refine ⟨i + 1, by omega, _, _, q, rfl, by omega, ez, hq, by rw [hfs]; exact a2, ?_, ?_, ?_, ?_⟩ <;> simp -implicitDefEqProofs only [ne_eq, reduceCtorEq, not_false_eq_true, upd_ne, t0, hxr, Nat.reduceEqDiff, t2, t3, hfs, upd_eq] <;> rfl
        · rw [decide_eq_false c2] at hc
          rw [flStep, if_pos ⟨c1, c2⟩] at hfs
          have ql := at_lt a2
          simp -implicitDefEqProofs only [↓w_seq, ↓w_region, hxr, ↓ops_cons, ↓g_move, ↓g_len, Try.underlying22, Nat.reduceLT, ev_tab, t4, ne_eq, reduceCtorEq, not_false_eq_true, upd_ne, t0, upd_eq, len_sl, ↓g_binOp, Nat.reduceEqDiff, ↓ops_nil, ↓w_cond, ↓w_skip, ↓w_block, ↓g_indexAddr, adr_sl, k2, k1, cells3, tyOk3, and_self, Int.toNat_natCast, Nat.mul_one, Nat.zero_add, if_true, ↓g_load, onS_some, rd_def, agg3, hr, rd_ints, h, hv, ↓w_exit, ↓g_buildSlice, List.map_nil, bs3_0, ↓g_buildV, List.map_cons, ↓g_store, ↓w_ret, retP_1, res_cell, alK_some, ints_one, true_and, b_lss, decide_true, onB_true]
          refine call1 (by simp -implicitDefEqProofs only [List.map_cons, Nat.reduceLT, ev_tab, upd_eq, ev_const, of_int, List.map_nil] <;> rfl) (inS v 0 9999) ?_
          rw [decide_eq_true c1]
          simp -implicitDefEqProofs only [↓ops_cons, ↓g_unOp, Nat.reduceLT, ev_tab, upd_eq, u_not, Bool.not_true, Option.map_some, ↓g_move, onS_some, yielded_tab, dstAt_s, dstAt_0, ybv_some, boolOf_b, ↓g_guard_t, ne_eq, Nat.reduceEqDiff, not_false_eq_true, upd_ne, t3, reduceCtorEq, t0, hxr, t4, ↓g_indexAddr, Try.underlying22, adr_sl, k2, k1, cells3, tyOk3, and_self, Int.toNat_natCast, Nat.mul_one, Nat.zero_add, if_true, ↓g_load, rd_def, agg3, hr, rd_ints, h, hv]
          refine call1S (by simp -implicitDefEqProofs only [List.map_cons, Nat.reduceLT, ev_tab, ne_eq, Nat.reduceEqDiff, not_false_eq_true, upd_ne, upd_eq, List.map_nil] <;> rfl) hc ?_
          simp -implicitDefEqProofs only [↓ops_cons, ↓g_pick, Nat.reduceLT, ev_tab, ne_eq, Nat.reduceEqDiff, not_false_eq_true, upd_ne, upd_eq, ev_const, of_bool, pick_b, reduceCtorEq, if_false, ↓ops_nil, ↓w_cond, ↓w_exit, ↓w_region, ↓g_move, ↓g_binOp, t4, of_int, b_add, e1, ↓g_assign, onS_some, ↓w_seq, ↓g_buildSlice, Try.underlying22, List.map_nil, bs3_0, ↓g_buildV, List.map_cons, ↓g_store, ↓w_ret, retP_1, res_cell, alK_some, ints_one, true_and, if_true, ↓w_skip, ↓w_block, onB_false]
          refine w_loop (ι := Nat) (fun k st => ∃ (T : Nat → AV) (Y : AHeap) (q5 : Nat) (N : List Int) (put : Bool), st = ⟨tab 76 T, Y⟩ ∧ k ≤ O.length ∧ Ext Z Y ∧ Z.length ≤ q5 ∧ Y[q5]? = some ⟨ints .i64 N, true, true⟩ ∧ ((put = false ∧ N = O.take k ∧ ∀ y ∈ O.take k, ¬ v < y) ∨ (put = true ∧ N = ins v (O.take k) ∧ ∃ y ∈ O.take k, v < y)) ∧ T 0 = x ∧ T 2 = .ptr H.length 0 ∧ T 3 = .sl q 0 O.length 1 ∧ T 4 = .sc (.int .i64 i) ∧ T 5 = .sl q5 0 N.length 1 ∧ T 6 = .sc (.bool put) ∧ T 7 = .sc (.int .i64 k)) (fun k => O.length - k) ?_ (i := 0) ?_
          · rintro k st ⟨T, Y, q5, N, put, rfl, d1, ey, hq5, d2, hp, s0, s2, s3, s4, s5, s6, s7⟩
            have hyx := ((e0.trans ez).trans ey).isL hx
            have hY := ey.at a2
            by_cases hk : k < O.length
            · have m1 : (k : Int) < O.length := by omega
              have m2 : (0 : Int) ≤ k := by omega
              have e2 : IntKind.i64.wrap ((k : Int) + 1) = k + 1 := w64 (by omega) (by omega)
              obtain ⟨r', o', hxr', hr'⟩ := hyx.get (i := i) h
              have hN : N.length ≤ 1000000001 := by
                rcases hp with ⟨_, rfl, _⟩ | ⟨_, rfl, _⟩
                · rw [List.length_take]; omega
                · rw [ins_len, List.length_take]; omega
              have htk := take_s O k hk
              generalize hw : O.getD k 0 = w at *
              have b1 : (N.length + 1) * 8 ≤ 140737488355328 := by omega
              have b2 : N.length + 1 ≤ 140737488355328 := by omega
              have b3 : (N.length + 1 + 1) * 8 ≤ 140737488355328 := by omega
              have b4 : N.length + 1 + 1 ≤ 140737488355328 := by omega
              have ql5 := at_lt d2
              have hq2 : ∀ g : Reg, (Y ++ [g])[q5]? = some ⟨ints .i64 N, true, true⟩ := fun g => (at_more _ _ _ ql5).trans d2
              rcases hp with ⟨rfl, hN1, hN2⟩ | ⟨rfl, hN1, hN2⟩
              · by_cases hvw : v < w
                · simp -implicitDefEqProofs only [↓w_seq, ↓w_region, ↓ops_cons, ↓g_move, ↓g_len, Try.underlying22, Nat.reduceLT, ev_tab, s7, ne_eq, Nat.reduceEqDiff, not_false_eq_true, upd_ne, s3, upd_eq, len_sl, ↓g_binOp, ↓ops_nil, ↓w_cond, ↓w_skip, ↓w_block, ↓w_exit, ↓g_unOp, s6, u_not, Bool.not_false, Option.map_some, ↓g_indexAddr, s5, reduceCtorEq, s0, s4, ↓g_load, ↓g_buildSlice, List.map_cons, List.map_nil, ↓g_append, apS22, ↓g_assign, ev_const, of_int, b_add, onS_some, onB_true, bs3_0, ↓g_buildV, ↓g_store, ↓w_ret, retP_1, res_cell, alK_some, ints_one, true_and, if_false, if_true, b_lss, m1, decide_true]
                  refine drawn [(6, 0), (10, 0)] follows (by kernel_rfl) (by kernel_rfl) ?_
                  simp -implicitDefEqProofs only [hxr', ↓dops_cons, ↓g_move, ↓g_unOp, Nat.reduceLT, ev_tab, ne_eq, Nat.reduceEqDiff, not_false_eq_true, upd_ne, s6, upd_eq, u_not, Bool.not_false, Option.map_some, onS_some, yielded_tab, dstAt_s, dstAt_0, ybv_some, boolOf_b, ↓g_guard_t, reduceCtorEq, s0, s4, ↓g_indexAddr, Try.underlying22, adr_sl, k2, k1, cells3, tyOk3, and_self, Int.toNat_natCast, Nat.mul_one, Nat.zero_add, if_true, ↓g_load, s3, s7, m2, m1, ↓g_binOp, ↓g_pick, ev_const, of_bool, pick_b, ↓dops_p, ↓w_cond, ↓w_seq, ↓w_region, ↓ops_cons, s5, ↓g_buildSlice, List.map_cons, List.map_nil, ↓g_append, apS22, ↓g_assign, ↓ops_nil, of_int, b_add, rd_def, agg3, hr', rd_ints, h, hv, bs3_1, alK_some, ints_one, src_sl, at_end, at_ints, List.length_cons, List.length_nil, Nat.le_refl, List.drop_zero, List.take_succ_cons, List.take_zero, true_and, ↓w_skip, hY, hk, hw, b_lss, hvw, decide_true, onB_true]
                  refine ⟨pairs_cons (same_H rfl) (pairs_cons (same_H rfl) (pairs_nil)), ?_⟩
                  have b5 : List.take (N.length + 1) (N ++ [v]) = N ++ [v] := List.take_of_length_le (by simp)
                  have kl : (killReg (Y ++ [⟨ints .i64 [v], true, true⟩]) q5).length = Y.length + 1 := by rw [kill_len, List.length_append]; rfl
                  have hY3 : (killReg (Y ++ [⟨ints .i64 [v], true, true⟩]) q5 ++ [⟨ints .i64 (N ++ [v]), true, true⟩])[q]? = some ⟨ints .i64 O, true, true⟩ := (at_more _ _ _ (by omega)).trans ((kill_at _ _ _ (by omega)).trans ((at_more _ _ _ (by omega)).trans hY))
                  have hs3 : (killReg (Y ++ [⟨ints .i64 [v], true, true⟩]) q5 ++ [⟨ints .i64 (N ++ [v]), true, true⟩] ++ [⟨ints .i64 [w], true, true⟩])[Y.length + 1 + 1]? = some ⟨ints .i64 [w], true, true⟩ := by
                    have := at_end (killReg (Y ++ [⟨ints .i64 [v], true, true⟩]) q5 ++ [⟨ints .i64 (N ++ [v]), true, true⟩]) ⟨ints .i64 [w], true, true⟩
                    rwa [List.length_append, kl] at this
                  have hq3 : ∀ g : Reg, (killReg (Y ++ [⟨ints .i64 [v], true, true⟩]) q5 ++ [⟨ints .i64 (N ++ [v]), true, true⟩] ++ [g])[Y.length + 1]? = some ⟨ints .i64 (N ++ [v]), true, true⟩ := fun g => (at_more _ _ _ (by rw [List.length_append, kl]; simp)).trans (by rw [← kl]; exact at_end _ _)
                  simp -implicitDefEqProofs only [hq2, ap_ints, Nat.le_refl, List.length_cons, List.length_nil, Nat.zero_add, b1, b2, and_self, List.length_append, List.take_length, if_true, e2, onS_some, hY3, rd_ints, hk, hw, apS22, bs3_1, alK_some, ints_one, hq3, kl, src_sl, hs3, at_ints, List.drop_zero, List.take_succ_cons, List.take_zero, b3, b4, b5, true_and]
                  refine ⟨k + 1, by omega, _, _, Y.length + 1 + 1 + 1, N ++ [v] ++ [w], true, rfl, by omega, ((((((ey.add _).kill hq5).add _).add _).kill (by have := ey.1; omega)).add _), by have := ey.1; omega, ?_, .inr ⟨rfl, by rw [htk, hN1, ins_here v w hvw _ hN2], w, by rw [htk]; exact List.mem_append_right _ (List.mem_singleton.2 rfl), hvw⟩, ?_, ?_, ?_, ?_, ?_, ?_, ?_⟩
                  · have := at_end (killReg (killReg (Y ++ [⟨ints .i64 [v], true, true⟩]) q5 ++ [⟨ints .i64 (N ++ [v]), true, true⟩] ++ [⟨ints .i64 [w], true, true⟩]) (Y.length + 1)) ⟨ints .i64 (N ++ [v] ++ [w]), true, true⟩
                    rwa [kill_len, List.length_append, List.length_append, kl, List.length_singleton, List.length_singleton] at this
                  all_goals (simp -implicitDefEqProofs only [ne_eq, reduceCtorEq, not_false_eq_true, upd_ne, s0, Nat.reduceEqDiff, s2, s3, s4, upd_eq, List.length_append, List.length_cons, List.length_nil, Nat.zero_add] <;> first | rfl | exact hxr' | exact hxr)
                · simp -implicitDefEqProofs only [↓w_seq, ↓w_region, ↓ops_cons, ↓g_move, ↓g_len, Try.underlying22, Nat.reduceLT, ev_tab, s7, ne_eq, Nat.reduceEqDiff, not_false_eq_true, upd_ne, s3, upd_eq, len_sl, ↓g_binOp, ↓ops_nil, ↓w_cond, ↓w_skip, ↓w_block, ↓w_exit, ↓g_unOp, s6, u_not, Bool.not_false, Option.map_some, ↓g_indexAddr, s5, reduceCtorEq, s0, s4, ↓g_load, ↓g_buildSlice, List.map_cons, List.map_nil, ↓g_append, apS22, ↓g_assign, ev_const, of_int, b_add, onS_some, onB_true, bs3_0, ↓g_buildV, ↓g_store, ↓w_ret, retP_1, res_cell, alK_some, ints_one, true_and, if_false, if_true, b_lss, m1, decide_true]
                  refine drawn [(6, 0), (10, 0)] follows (by kernel_rfl) (by kernel_rfl) ?_
                  simp -implicitDefEqProofs only [hxr', ↓dops_cons, ↓g_move, ↓g_unOp, Nat.reduceLT, ev_tab, ne_eq, Nat.reduceEqDiff, not_false_eq_true, upd_ne, s6, upd_eq, u_not, Bool.not_false, Option.map_some, onS_some, yielded_tab, dstAt_s, dstAt_0, ybv_some, boolOf_b, ↓g_guard_t, reduceCtorEq, s0, s4, ↓g_indexAddr, Try.underlying22, adr_sl, k2, k1, cells3, tyOk3, and_self, Int.toNat_natCast, Nat.mul_one, Nat.zero_add, if_true, ↓g_load, s3, s7, m2, m1, ↓g_binOp, ↓g_pick, ev_const, of_bool, pick_b, ↓dops_p, ↓w_cond, ↓w_seq, ↓w_region, ↓ops_cons, s5, ↓g_buildSlice, List.map_cons, List.map_nil, ↓g_append, apS22, ↓g_assign, ↓ops_nil, of_int, b_add, rd_def, agg3, hr', rd_ints, h, hv, bs3_1, alK_some, ints_one, src_sl, at_end, at_ints, List.length_cons, List.length_nil, Nat.le_refl, List.drop_zero, List.take_succ_cons, List.take_zero, true_and, ↓w_skip, hY, hk, hw, b_lss, hvw, decide_false, onB_false]
                  refine ⟨pairs_cons (same_H rfl) (pairs_cons (same_H rfl) (pairs_nil)), ?_⟩
                  simp -implicitDefEqProofs only [hq2, ap_ints, Nat.le_refl, List.length_cons, List.length_nil, Nat.zero_add, b1, b2, and_self, List.length_append, List.take_length, if_true, e2, onS_some]
                  refine ⟨k + 1, by omega, _, _, Y.length + 1, N ++ [w], false, rfl, by omega, (((ey.add _).kill hq5).add _), by have := ey.1; omega, ?_, .inl ⟨rfl, by rw [htk, hN1], ?_⟩, ?_, ?_, ?_, ?_, ?_, ?_, ?_⟩
                  · have := at_end (killReg (Y ++ [⟨ints .i64 [w], true, true⟩]) q5) ⟨ints .i64 (N ++ [w]), true, true⟩
                    rwa [kill_len, List.length_append, List.length_singleton] at this
                  · intro y hy
                    rw [htk] at hy
                    rcases List.mem_append.1 hy with hy | hy
                    · exact hN2 y hy
                    · rw [List.mem_singleton.1 hy]
                      exact hvw
                  all_goals (simp -implicitDefEqProofs only [ne_eq, reduceCtorEq, not_false_eq_true, upd_ne, s0, Nat.reduceEqDiff, s2, s3, s4, upd_eq, List.length_append, List.length_cons, List.length_nil, Nat.zero_add, s6] <;> first | rfl | exact hxr' | exact hxr)
              · simp -implicitDefEqProofs only [↓w_seq, ↓w_region, ↓ops_cons, ↓g_move, ↓g_len, Try.underlying22, Nat.reduceLT, ev_tab, s7, ne_eq, Nat.reduceEqDiff, not_false_eq_true, upd_ne, s3, upd_eq, len_sl, ↓g_binOp, ↓ops_nil, ↓w_cond, ↓w_skip, ↓w_block, ↓w_exit, ↓g_unOp, s6, u_not, Bool.not_true, Option.map_some, ↓g_indexAddr, s5, reduceCtorEq, s0, s4, ↓g_load, ↓g_buildSlice, List.map_cons, List.map_nil, ↓g_append, apS22, ↓g_assign, ev_const, of_int, b_add, onS_some, onB_false, bs3_0, ↓g_buildV, ↓g_store, ↓w_ret, retP_1, res_cell, alK_some, ints_one, true_and, if_false, if_true, b_lss, m1, decide_true, onB_true]
                refine drawn [(6, 0), (10, 0)] follows (by kernel_rfl) (by kernel_rfl) ?_
                simp -implicitDefEqProofs only [↓dops_cons, ↓g_move, ↓g_unOp, Nat.reduceLT, ev_tab, ne_eq, Nat.reduceEqDiff, not_false_eq_true, upd_ne, s6, upd_eq, u_not, Bool.not_true, Option.map_some, onS_some, yielded_tab, dstAt_s, dstAt_0, ybv_some, boolOf_b, ↓g_guard_f, ↓g_pick, ev_const, of_bool, pick_b, Bool.false_eq_true, if_false, ↓dops_p, ↓w_cond, ↓w_seq, ↓w_region, ↓ops_cons, ↓g_indexAddr, Try.underlying22, s5, reduceCtorEq, s0, s4, ↓g_load, ↓g_buildSlice, List.map_cons, List.map_nil, ↓g_append, apS22, ↓g_assign, ↓ops_nil, s3, s7, adr_sl, m2, m1, cells3, tyOk3, and_self, Int.toNat_natCast, Nat.mul_one, Nat.zero_add, if_true, ↓g_binOp, of_int, b_add, rd_def, agg3, ↓w_skip, hY, rd_ints, hk, hw, bs3_1, alK_some, ints_one, src_sl, at_end, at_ints, List.length_cons, List.length_nil, Nat.le_refl, List.drop_zero, List.take_succ_cons, List.take_zero, true_and, onB_false]
                refine ⟨pairs_cons (same_H rfl) (pairs_cons (same_H rfl) (pairs_nil)), ?_⟩
                simp -implicitDefEqProofs only [hq2, ap_ints, Nat.le_refl, List.length_cons, List.length_nil, Nat.zero_add, b1, b2, and_self, List.length_append, List.take_length, if_true, e2, onS_some]
                refine ⟨k + 1, by omega, _, _, Y.length + 1, N ++ [w], true, rfl, by omega, (((ey.add _).kill hq5).add _), by have := ey.1; omega, ?_, .inr ⟨rfl, by rw [htk, hN1, ins_past v w _ hN2], ?_⟩, ?_, ?_, ?_, ?_, ?_, ?_, ?_⟩
                · have := at_end (killReg (Y ++ [⟨ints .i64 [w], true, true⟩]) q5) ⟨ints .i64 (N ++ [w]), true, true⟩
                  rwa [kill_len, List.length_append, List.length_singleton] at this
                · obtain ⟨y, y1, y2⟩ := hN2
                  exact ⟨y, by rw [htk]; exact List.mem_append_left _ y1, y2⟩
                all_goals (simp -implicitDefEqProofs only [ne_eq, reduceCtorEq, not_false_eq_true, upd_ne, s0, Nat.reduceEqDiff, s2, s3, s4, upd_eq, List.length_append, List.length_cons, List.length_nil, Nat.zero_add, s6] <;> first | rfl | exact hxr' | exact hxr)
            · have m1 : ¬ (k : Int) < O.length := by omega
              have hk2 : O.take k = O := List.take_of_length_le (by omega)
              rw [hk2] at hp
              have ql5 := at_lt d2
              have hq2 : ∀ g : Reg, (Y ++ [g])[q5]? = some ⟨ints .i64 N, true, true⟩ := fun g => (at_more _ _ _ ql5).trans d2
              obtain ⟨r', o', hxr', hr'⟩ := hyx.get (i := i) h
              have zy := ey.1
              rcases hp with ⟨rfl, hN1, hN2⟩ | ⟨rfl, hN1, hN2⟩
              · have b1 : (N.length + 1) * 8 ≤ 140737488355328 := by rw [hN1]; omega
                have b2 : N.length + 1 ≤ 140737488355328 := by rw [hN1]; omega
                have hie : flOf (l.take (i + 1)) = N ++ [v] := by rw [hfs, hN1, ins_end v O hN2]
                simp -implicitDefEqProofs only [↓w_seq, ↓w_region, hxr', ↓ops_cons, ↓g_move, ↓g_len, Try.underlying22, Nat.reduceLT, ev_tab, s7, ne_eq, Nat.reduceEqDiff, not_false_eq_true, upd_ne, s3, upd_eq, len_sl, ↓g_binOp, ↓ops_nil, ↓w_cond, ↓w_skip, ↓w_block, ↓w_exit, ↓g_unOp, s6, u_not, Bool.not_false, Option.map_some, ↓g_indexAddr, s5, reduceCtorEq, s0, s4, adr_sl, k2, k1, cells3, tyOk3, and_self, Int.toNat_natCast, Nat.mul_one, Nat.zero_add, if_true, ↓g_load, ↓g_buildSlice, List.map_cons, List.map_nil, ↓g_append, apS22, ↓g_assign, ev_const, of_int, b_add, e1, onS_some, rd_def, agg3, hr', rd_ints, h, hv, bs3_1, alK_some, ints_one, hq2, src_sl, at_end, at_ints, List.length_cons, List.length_nil, Nat.le_refl, List.drop_zero, List.take_succ_cons, List.take_zero, ap_ints, b1, b2, List.length_append, List.take_length, true_and, onB_true, bs3_0, ↓g_buildV, ↓g_store, ↓w_ret, retP_1, res_cell, if_false, b_lss, m1, decide_false, onB_false]
                refine ⟨i + 1, by omega, _, _, Y.length + 1, rfl, by omega, ((((ez.trans ey).add _).kill (by rw [List.length_append]; have := ez.1; rw [List.length_append] at this; simp at this ⊢; omega)).add _), by omega, ?_, ?_, ?_, ?_, ?_⟩
                · rw [hie]
                  have := at_end (killReg (Y ++ [⟨ints .i64 [v], true, true⟩]) q5) ⟨ints .i64 (N ++ [v]), true, true⟩
                  rwa [kill_len, List.length_append, List.length_singleton] at this
                all_goals (simp -implicitDefEqProofs only [ne_eq, reduceCtorEq, not_false_eq_true, upd_ne, s0, Nat.reduceEqDiff, s2, upd_eq, hie, List.length_append, List.length_cons, List.length_nil, Nat.zero_add] <;> first | rfl | exact hxr' | exact hxr | exact hxr'.symm.trans hxr)
              · have hie : flOf (l.take (i + 1)) = N := by rw [hfs, hN1]
                simp -implicitDefEqProofs only [↓w_seq, ↓w_region, ↓ops_cons, ↓g_move, ↓g_len, Try.underlying22, Nat.reduceLT, ev_tab, s7, ne_eq, Nat.reduceEqDiff, not_false_eq_true, upd_ne, s3, upd_eq, len_sl, ↓g_binOp, ↓ops_nil, ↓w_cond, ↓w_skip, ↓w_block, ↓w_exit, ↓g_unOp, s6, u_not, Bool.not_true, Option.map_some, ↓g_indexAddr, s5, reduceCtorEq, s0, s4, ↓g_load, ↓g_buildSlice, List.map_cons, List.map_nil, ↓g_append, apS22, ↓g_assign, ev_const, of_int, b_add, e1, onS_some, onB_false, bs3_0, ↓g_buildV, ↓g_store, ↓w_ret, retP_1, res_cell, alK_some, ints_one, true_and, if_false, if_true, b_lss, m1, decide_false]
                refine ⟨i + 1, by omega, _, _, q5, rfl, by omega, ez.trans ey, by omega, by rw [hie]; exact d2, ?_, ?_, ?_, ?_⟩ <;> simp -implicitDefEqProofs only [ne_eq, reduceCtorEq, not_false_eq_true, upd_ne, s0, Nat.reduceEqDiff, s2, upd_eq, hie] <;> first | rfl | exact hxr' | exact hxr | exact hxr'.symm.trans hxr
          · refine ⟨_, _, Z.length, [], false, rfl, by omega, Ext.more _ _, Nat.le_refl _, at_end _ _, .inl ⟨rfl, rfl, fun y hy => by cases hy⟩, ?_, ?_, ?_, ?_, ?_, ?_, ?_⟩ <;> simp -implicitDefEqProofs only [ne_eq, reduceCtorEq, not_false_eq_true, upd_ne, t0, hxr, Nat.reduceEqDiff, t2, t3, t4, upd_eq, List.length_nil, Int.cast_ofNat_Int] <;> rfl
      · rw [flStep, if_neg (fun h => c1 h.1)] at hfs
        simp -implicitDefEqProofs only [↓w_seq, ↓w_region, hxr, ↓ops_cons, ↓g_move, ↓g_len, Try.underlying22, Nat.reduceLT, ev_tab, t4, ne_eq, reduceCtorEq, not_false_eq_true, upd_ne, t0, upd_eq, len_sl, ↓g_binOp, Nat.reduceEqDiff, ↓ops_nil, ↓w_cond, ↓w_skip, ↓w_block, ↓g_indexAddr, adr_sl, k2, k1, cells3, tyOk3, and_self, Int.toNat_natCast, Nat.mul_one, Nat.zero_add, if_true, ↓g_load, onS_some, rd_def, agg3, hr, rd_ints, h, hv, ↓w_exit, ↓g_buildSlice, List.map_nil, bs3_0, ↓g_buildV, List.map_cons, ↓g_store, ↓w_ret, retP_1, res_cell, alK_some, ints_one, true_and, b_lss, decide_true, onB_true]
        refine call1 (by simp -implicitDefEqProofs only [List.map_cons, Nat.reduceLT, ev_tab, upd_eq, ev_const, of_int, List.map_nil] <;> rfl) (inS v 0 9999) ?_
        rw [decide_eq_false c1]
        simp -implicitDefEqProofs only [↓ops_cons, ↓g_unOp, Nat.reduceLT, ev_tab, upd_eq, u_not, Bool.not_false, Option.map_some, ↓g_move, onS_some, yielded_tab, dstAt_s, dstAt_0, ybv_some, boolOf_b, ↓g_guard_f, ne_eq, Nat.reduceEqDiff, not_false_eq_true, upd_ne, ↓g_pick, ev_const, of_bool, pick_b, if_true, ↓ops_nil, ↓w_cond, ↓w_exit, ↓w_region, ↓g_binOp, t4, of_int, b_add, e1, ↓g_assign, reduceCtorEq, ↓w_seq, ↓g_buildSlice, Try.underlying22, List.map_nil, bs3_0, ↓g_buildV, List.map_cons, ↓g_store, ↓w_ret, retP_1, res_cell, alK_some, ints_one, true_and, if_false, ↓w_skip, ↓w_block, onB_true]
        refine ⟨i + 1, by omega, _, _, q, rfl, by omega, ez, hq, by rw [hfs]; exact a2, ?_, ?_, ?_, ?_⟩ <;> simp -implicitDefEqProofs only [ne_eq, reduceCtorEq, not_false_eq_true, upd_ne, t0, hxr, Nat.reduceEqDiff, t2, t3, hfs, upd_eq] <;> rfl
    · have k1 : ¬ (i : Int) < l.length := by omega
      have hi : l.take i = l := List.take_of_length_le (by omega)
      rw [hi] at a2 t3
      have b1 := ez.at b0
      have b2 : (Z ++ [⟨ints .i64 [], true, true⟩])[H.length]? = some ⟨[.sc (.slice none 0 0), .sc (.slice none 0 0), .sc (.int .i64 0)], true, true⟩ := (at_more _ _ _ (at_lt b1)).trans b1
      have b3 : ∀ g : Reg, ((Z ++ [(⟨ints .i64 [], true, true⟩ : Reg)]).set H.length g)[H.length]? = some g := fun g => List.getElem?_set_self (at_lt b2)
      have ql := at_lt a2
      simp -implicitDefEqProofs only [↓w_seq, ↓w_region, ↓ops_cons, ↓g_move, ↓g_len, Try.underlying22, Nat.reduceLT, ev_tab, t4, ne_eq, reduceCtorEq, not_false_eq_true, upd_ne, t0, upd_eq, lx, ↓g_binOp, Nat.reduceEqDiff, ↓ops_nil, ↓w_cond, ↓w_skip, ↓w_block, ↓g_indexAddr, ↓g_load, ↓w_exit, ↓g_buildSlice, t3, List.map_nil, bs3_0, ↓g_buildV, List.map_cons, ↓g_store, t2, wr_def, tyOk32, cells32, ↓w_ret, retP_1, res_cell, rd_def, agg32, alK_some, ints_one, bdFl, b2, wr_c, Nat.zero_add, List.length_cons, List.length_nil, Nat.reduceAdd, Nat.le_refl, true_and, onS_ite, b3, onS_some, cells_agg, List.all_cons, one_sl, one_int, List.all_nil, Bool.and_self, and_self, ovr_fm, ovr_fn, rd_aggc, List.drop_zero, List.take_succ_cons, List.take_zero, if_true, b_lss, k1, decide_false, onB_false]
      exact ⟨q, Z.length, rfl, ((e0.trans ez).add _).set (Nat.le_refl _) _, by omega, ql, (List.getElem?_set_ne (by omega)).trans ((at_more _ _ _ ql).trans a2), (List.getElem?_set_ne (by omega)).trans (at_end _ _)⟩
  · refine ⟨_, _, H.length + 1, rfl, by omega, (by simpa only [List.append_assoc, List.cons_append, List.nil_append] using Ext.more (H ++ [B]) [⟨ints .i64 [], true, true⟩]), Nat.le_refl _, ?_, ?_, ?_, ?_, ?_⟩
    · exact hap_k _ _ 1
    all_goals (simp -implicitDefEqProofs only [ne_eq, reduceCtorEq, not_false_eq_true, upd_ne, par0, Nat.reduceEqDiff, upd_eq, List.take_zero, Int.cast_ofNat_Int] <;> rfl)
end Go.Proofs.Ytcjjcpdfnndenaa.Sim
namespace Go.Proofs.Ytcjjcpdfnndenaa.Sim
open Go
set_option maxRecDepth 100000
set_option maxHeartbeats 40000000
set_option linter.unusedSimpArgs false
set_option linter.unusedVariables false
theorem Dr.ofExt {H Z : AHeap} {r : Nat} {x : AV} {L : List Int} (c : Cur H r x L) (e : Ext H Z) : Dr r x H Z := by
  obtain ⟨⟨i, h, c1⟩, _⟩ := c
  exact ⟨e.1, fun j h _ => e.2 j h, i, h, e.at c1⟩
theorem Dr.setHi {H Z : AHeap} {r : Nat} {x : AV} (d : Dr r x H Z) {q : Nat} (hr : r < H.length) (hq : H.length ≤ q) (g : Reg) : Dr r x H (Z.set q g) := by
  obtain ⟨d1, d2, i, h, d3⟩ := d
  exact ⟨by rw [List.length_set]; exact d1, fun j hj hne => (List.getElem?_set_ne (by omega)).trans (d2 j hj hne), i, h, (List.getElem?_set_ne (by omega)).trans d3⟩
theorem Dr.own {H Z : AHeap} {r : Nat} {x v : AV} {L l : List Int} (d : Dr r x H Z) (c : Cur H r x L) (o : Own H v l) : Own Z v l := by
  rcases o with o | ⟨q, rfl, hq⟩
  · exact .inl o
  · exact .inr ⟨q, _root_.rfl, d.at c hq⟩
/-- A right flight. -/
def Right (s g : List Int) (t : Int) : Prop := UpL s ∧ s.length ≤ 6 ∧ (∃ l, g = ackL s [] l) ∧ 0 ≤ t ∧ t ≤ 1000
theorem drawFl {H : AHeap} {r : Nat} {x : AV} {L : List Int} (c : Cur H r x L) (hL : L.length ≤ 4000000) : ∃ (s g : List Int) (t : Int) (p : Nat) (v : AV) (Z : AHeap), Right s g t ∧ Sound Try.prog 57 [.ptr r 0] H (flt (.sl p 0 s.length 1) v t) Z ∧ Dr r x H Z ∧ H.length ≤ p ∧ Z[p]? = some ⟨ints .i64 s, true, true⟩ ∧ Own Z v g ∧ ∀ r o n k, v = .sl r o n k → p < r := by
  suffices h : ∃ w Z, Sound Try.prog 57 [.ptr r 0] H w Z ∧ ∃ (s g : List Int) (t : Int) (p : Nat) (v : AV), Right s g t ∧ w = flt (.sl p 0 s.length 1) v t ∧ Dr r x H Z ∧ H.length ≤ p ∧ Z[p]? = some ⟨ints .i64 s, true, true⟩ ∧ Own Z v g ∧ ∀ r o n k, v = .sl r o n k → p < r by
    obtain ⟨w, Z, h1, s, g, t, p, v, h2, rfl, h3⟩ := h
    exact ⟨s, g, t, p, v, Z, h2, h1, h3⟩
  refine Sound.runP (args := [.ptr r 0]) 16 [.cell 2 32] Try.func57 rfl rfl rfl rfl (by simp) (fun w Z => ∃ (s g : List Int) (t : Int) (p : Nat) (v : AV), Right s g t ∧ w = flt (.sl p 0 s.length 1) v t ∧ Dr r x H Z ∧ H.length ≤ p ∧ Z[p]? = some ⟨ints .i64 s, true, true⟩ ∧ Own Z v g ∧ ∀ r o n k, v = .sl r o n k → p < r) ?_
  have hr := c.lt
  obtain ⟨B, hB⟩ : ∃ B : Reg, B = ⟨[.sc (.slice none 0 0), .sc (.slice none 0 0), .sc (.int .i64 0)], true, true⟩ := ⟨_, rfl⟩
  have c0 := c.app [B]
  have b0 : (H ++ [B])[H.length]? = some ⟨[.sc (.slice none 0 0), .sc (.slice none 0 0), .sc (.int .i64 0)], true, true⟩ := by rw [← hB]; exact hap_0 H [B]
  have l0 : (H ++ [B]).length = H.length + 1 := by rw [List.length_append]; rfl
  obtain ⟨l1, q1, Z1, a1, a2, a3, a4, a5⟩ := drawNums c0 hL
  have b1 := (a3.2.1 H.length (by omega) (by omega)).trans b0
  have c1 := c0.dr a3
  obtain ⟨p2, q2, Z2, d1, d2, d3, d4, d5, d6⟩ := flOfS (IsL.mk a5) (by omega)
  obtain ⟨ok1, ok2⟩ := flOf_ok l1
  generalize flOf l1 = s at *
  obtain ⟨C, hC⟩ : ∃ C : Reg, C = ⟨[.sl p2 0 s.length 1, .sl q2 0 0 1, .sc (.int .i64 0)], true, true⟩ := ⟨_, rfl⟩
  have x2 := Ext.more Z2 [C]
  have c2 := c1.dr (Dr.ofExt c1 (d2.trans x2))
  have k2 : (Z2 ++ [C])[Z2.length]? = some ⟨[.sl p2 0 s.length 1, .sl q2 0 0 1, .sc (.int .i64 0)], true, true⟩ := by rw [← hC]; exact at_end _ _
  have b2 := (d2.trans x2).at b1
  have l2 : (Z2 ++ [C]).length = Z2.length + 1 := by rw [List.length_append]; rfl
  have n1 : H.length + 1 ≤ Z1.length := by have := a3.1; omega
  have n2 : Z1.length ≤ Z2.length := d2.1
  obtain ⟨l3, q3, Z3, f1, f2, f3, f4, f5⟩ := drawNums c2 hL
  have c3 := c2.dr f3
  have n3 : Z2.length + 1 ≤ Z3.length := by have := f3.1; omega
  have k3 := (f3.2.1 Z2.length (by omega) (by omega)).trans k2
  have b3 := (f3.2.1 H.length (by omega) (by omega)).trans b2
  have hM : (¬ FlOk s [] 0 ∧ ackL s [] l3 = []) ∨ (FlOk s [] 0 ∧ ackL s [] l3 = ackL s [] l3) := .inr ⟨⟨srt_up ok1, (fun i h => by cases h), by omega, ⟨by omega, by omega⟩, (fun v h => by cases h)⟩, rfl⟩
  obtain ⟨p4, v4, Z4, g1, g2, g3, g4, g5, g6⟩ := ackedS 0 _ hM (IsL.mk (f3.at c2 (x2.at d5))) (IsL.at (f3.at c2 (x2.at d6)) rfl) (IsL.mk f5) (by omega) (by simp) (by omega)
  have v41 := g5.isL.one
  have c4 := c3.dr (Dr.ofExt c3 g2)
  have k4 := g2.at k3
  have b4 := g2.at b3
  have n4 : Z3.length ≤ Z4.length := g2.1
  obtain ⟨C', hC'⟩ : ∃ C : Reg, C = ⟨[.sl p4 0 s.length 1, v4, .sc (.int .i64 0)], true, true⟩ := ⟨_, rfl⟩
  obtain ⟨P, hP⟩ : ∃ C : Reg, C = ⟨ints .i64 [0, 3, 1000], true, true⟩ := ⟨_, rfl⟩
  have D4 := ((((Dr.start c [B]).trans a3).trans (Dr.ofExt c1 (d2.trans x2))).trans f3).trans (Dr.ofExt c3 g2)
  have D5 := D4.setHi (q := Z2.length) hr (by omega) C'
  have c5 := c.dr D5
  have l5 : (Z4.set Z2.length C').length = Z4.length := List.length_set
  have k5 : (Z4.set Z2.length C')[Z2.length]? = some C' := List.getElem?_set_self (by omega)
  have b5 : (Z4.set Z2.length C')[H.length]? = _ := (List.getElem?_set_ne (by omega)).trans b4
  have p5 : (Z4.set Z2.length C')[p4]? = _ := (List.getElem?_set_ne (by omega)).trans g4
  have v5 : Own (Z4.set Z2.length C') v4 (ackL s [] l3) := g5.keep fun r' o n k e => List.getElem?_set_ne (by have := g6 r' o n k e; omega)
  generalize hZ5 : Z4.set Z2.length C' = Z5 at *
  obtain ⟨j, Z6, j1, j2, j3⟩ := drawPickInt (l := [0, 3, 1000]) (y := .sl Z5.length 0 3 1) (c5.app [P]) hL (IsL.at (by rw [hP]; exact at_end _ _) rfl) (by decide) (by decide)
  have hj : ∀ j < 3, 0 ≤ ([0, 3, 1000] : List Int).getD j 0 ∧ ([0, 3, 1000] : List Int).getD j 0 ≤ 1000 := by decide
  have hj2 := hj j j1
  generalize ([0, 3, 1000] : List Int).getD j 0 = t at j2 hj2
  rw [l5] at j2
  have D6 := D5.trans j3.app
  have n6 : Z5.length + 1 ≤ Z6.length := by have := j3.1; rw [List.length_append] at this; exact this
  have up : ∀ i g, i ≠ r → Z5[i]? = some g → Z6[i]? = some g := fun i g hi h => (j3.2.1 i (by have := at_lt h; rw [List.length_append]; omega) hi).trans ((at_more _ _ _ (at_lt h)).trans h)
  have k6 := up _ _ (by omega) k5
  have b6 := up _ _ (by omega) b5
  have p6 := up _ _ (by omega) p5
  have v6 : Own Z6 v4 (ackL s [] l3) := j3.own (c5.app [P]) (v5.ext (Ext.more _ _))
  have w7 : ∀ g : Reg, (Z6.set Z2.length g)[Z2.length]? = some g := fun g => List.getElem?_set_self (by omega)
  have b7 : ∀ g : Reg, (Z6.set Z2.length g)[H.length]? = some ⟨[.sc (.slice none 0 0), .sc (.slice none 0 0), .sc (.int .i64 0)], true, true⟩ := fun g => (List.getElem?_set_ne (by omega)).trans b6
  have b8 : ∀ g g' : Reg, ((Z6.set Z2.length g).set H.length g')[H.length]? = some g' := fun g g' => List.getElem?_set_self (by rw [List.length_set]; omega)
  have k6' : Z6[Z2.length]? = some ⟨[.sl p4 0 s.length 1, v4, .sc (.int .i64 0)], true, true⟩ := by rw [← hC']; exact k6
  unfold flt at d1 g1 ⊢
  simp -implicitDefEqProofs only [↓w_seq, ↓w_region, ↓ops_cons, ↓g_alloc, zero32, Option.map_some, ↓ops_nil, ↓g_move, Nat.reduceLT, ev_tab, ne_eq, reduceCtorEq, not_false_eq_true, upd_ne, par0, alK_some, List.all_cons, one_nil, one_int, List.all_nil, Bool.and_self, true_and]
  rw [← hB]
  refine call1S (by simp -implicitDefEqProofs only [List.map_cons, Nat.reduceLT, ev_tab, upd_eq, List.map_nil] <;> rfl) a2 ?_
  simp -implicitDefEqProofs only [↓ops_cons]
  refine call1S (by simp -implicitDefEqProofs only [List.map_cons, Nat.reduceLT, ev_tab, upd_eq, List.map_nil] <;> rfl) d1 ?_
  simp -implicitDefEqProofs only [↓ops_cons, ↓g_alloc, zero32, Option.map_some, ↓g_store, Nat.reduceLT, ev_tab, upd_eq, ne_eq, Nat.reduceEqDiff, not_false_eq_true, upd_ne, ↓ops_nil, ↓w_seq, alK_some, List.all_cons, one_nil, one_int, List.all_nil, Bool.and_self, wr_def, tyOk32, cells32, hap_0, List.getElem?_cons_zero, wr_c, cells_agg, List.length_cons, List.length_nil, Nat.zero_add, Nat.reduceAdd, Nat.le_refl, one_sl, and_self, ovr_fm, ovr_fn, hset_0, List.set_cons_zero, if_true, onS_some, true_and]
  rw [← hC]
  refine drawn [(0, 0), (0, 3)] follows (by kernel_rfl) (by kernel_rfl) ?_
  simp -implicitDefEqProofs only [↓dops_cons, ↓g_load, Nat.reduceLT, ev_tab, upd_eq, rd_def, tyOk32, agg32, cells32, k2, rd_aggc, Nat.zero_add, List.length_cons, List.length_nil, Nat.reduceAdd, Nat.le_refl, List.drop_zero, List.take_succ_cons, List.take_zero, if_true, ↓g_move, ne_eq, reduceCtorEq, not_false_eq_true, upd_ne, par0, onS_some]
  refine call1S (by simp -implicitDefEqProofs only [List.map_cons, Nat.reduceLT, ev_tab, upd_eq, List.map_nil] <;> rfl) f2 ?_
  simp -implicitDefEqProofs only [↓dops_cons]
  refine call1S (by simp -implicitDefEqProofs only [List.map_cons, Nat.reduceLT, ev_tab, ne_eq, Nat.reduceEqDiff, not_false_eq_true, upd_ne, upd_eq, List.map_nil, List.length_nil] <;> rfl) g1 ?_
  simp -implicitDefEqProofs only [↓dops_cons, ↓g_store, Nat.reduceLT, ev_tab, ne_eq, Nat.reduceEqDiff, not_false_eq_true, upd_ne, upd_eq, wr_def, tyOk32, cells32, k4, wr_c, cells_agg, List.length_cons, List.length_nil, Nat.zero_add, Nat.reduceAdd, Nat.le_refl, List.all_cons, one_sl, v41, one_int, List.all_nil, Bool.and_self, and_self, ovr_fm, ovr_fn, if_true, ↓dops_p, ↓w_seq, ↓w_region, ↓ops_cons, ↓g_move, ↓g_buildSlice, Try.underlying22, reduceCtorEq, par0, List.map_cons, ev_const, of_int, List.map_nil, bs3_3, alK_some, ints_one, true_and, onS_some, List.length_set]
  refine ⟨pairs_cons (same_H rfl) (pairs_cons (same_ld _ _ Z2.length 0 rfl rfl (k3.trans k2.symm)) pairs_nil), ?_⟩
  rw [← hC', hZ5, ← hP]
  refine call1S (by simp -implicitDefEqProofs only [List.map_cons, Nat.reduceLT, ev_tab, ne_eq, Nat.reduceEqDiff, not_false_eq_true, upd_ne, upd_eq, List.map_nil] <;> rfl) j2 ?_
  simp -implicitDefEqProofs only [↓ops_cons, ↓g_fieldAddrT, Nat.reduceLT, ev_tab, ne_eq, Nat.reduceEqDiff, not_false_eq_true, upd_ne, upd_eq, fadr32_2, Nat.zero_add, ↓g_store, ↓ops_nil, ↓w_seq, ↓w_region, ↓g_load, rd_def, tyOk32, agg32, cells32, wr_def, ↓w_ret, retP_1, res_cell, onS_some, tyOk3, cells3, k6', wr_c, cells_int, List.length_cons, List.length_nil, Nat.reduceAdd, Nat.le_refl, List.all_cons, one_int, List.all_nil, Bool.and_self, and_self, over_s, ovr_fm, ovr_fn, if_true, w7, rd_aggc, List.drop_zero, List.take_succ_cons, List.take_zero, b7, true_and, onS_ite, b8, cells_agg, one_sl, v41]
  refine ⟨s, _, t, p4, v4, ⟨srt_up ok1, by omega, ⟨l3, rfl⟩, hj2⟩, rfl, (D6.setHi hr (by omega) _).setHi hr (Nat.le_refl _) _, by omega, ?_, ?_, g6⟩
  · exact (List.getElem?_set_ne (by omega)).trans ((List.getElem?_set_ne (by omega)).trans p6)
  · exact v6.keep fun r' o n k e => (List.getElem?_set_ne (by have := g6 r' o n k e; omega)).trans (List.getElem?_set_ne (by have := g6 r' o n k e; omega))
theorem drawFlight {H : AHeap} {x : AV} {L : List Int} (hx : IsL H x .u8 L) (hL : L.length ≤ 4000000) : ∃ (s g : List Int) (t : Int) (p : Nat) (v : AV) (Z : AHeap), Right s g t ∧ Sound Try.prog 34 [x] H (flt (.sl p 0 s.length 1) v t) Z ∧ Ext H Z ∧ H.length ≤ p ∧ Z[p]? = some ⟨ints .i64 s, true, true⟩ ∧ Own Z v g ∧ ∀ r o n k, v = .sl r o n k → p < r := by
  suffices h : ∃ w Z, Sound Try.prog 34 [x] H w Z ∧ ∃ (s g : List Int) (t : Int) (p : Nat) (v : AV), Right s g t ∧ w = flt (.sl p 0 s.length 1) v t ∧ Ext H Z ∧ H.length ≤ p ∧ Z[p]? = some ⟨ints .i64 s, true, true⟩ ∧ Own Z v g ∧ ∀ r o n k, v = .sl r o n k → p < r by
    obtain ⟨w, Z, h1, s, g, t, p, v, h2, rfl, h3⟩ := h
    exact ⟨s, g, t, p, v, Z, h2, h1, h3⟩
  refine Sound.runP (args := [x]) 6 [.cell 2 32] Try.func34 rfl rfl rfl rfl (by simp) (fun w Z => ∃ (s g : List Int) (t : Int) (p : Nat) (v : AV), Right s g t ∧ w = flt (.sl p 0 s.length 1) v t ∧ Ext H Z ∧ H.length ≤ p ∧ Z[p]? = some ⟨ints .i64 s, true, true⟩ ∧ Own Z v g ∧ ∀ r o n k, v = .sl r o n k → p < r) ?_
  obtain ⟨B, hB⟩ : ∃ B : Reg, B = ⟨[.sc (.slice none 0 0), .sc (.slice none 0 0), .sc (.int .i64 0)], true, true⟩ := ⟨_, rfl⟩
  have e0 := Ext.more H [B]
  have b0 : (H ++ [B])[H.length]? = some ⟨[.sc (.slice none 0 0), .sc (.slice none 0 0), .sc (.int .i64 0)], true, true⟩ := by rw [← hB]; exact hap_0 H [B]
  have l0 : (H ++ [B]).length = H.length + 1 := by rw [List.length_append]; rfl
  obtain ⟨r, Z0, n1, n2, n3, n4⟩ := drawNew (e0.isL hx) hL
  obtain ⟨s, g, t, p, v, Z1, a1, a2, a3, a4, a5, a6, a7⟩ := drawFl n3 hL
  have v1 := a6.isL.one
  have m1 := n4.1
  have b1 := (a3.2.1 H.length (by omega) (by omega)).trans (n4.at b0)
  have e1 : Ext (H ++ [B]) Z1 := Dr.ext n4 a3 n2
  have b2 : ∀ g' : Reg, (Z1.set H.length g')[H.length]? = some g' := fun g' => List.getElem?_set_self (by have := e1.1; omega)
  unfold flt at a2 ⊢
  simp -implicitDefEqProofs only [↓w_seq, ↓w_region, ↓ops_cons, ↓g_alloc, zero32, Option.map_some, ↓ops_nil, ↓g_move, Nat.reduceLT, ev_tab, ne_eq, reduceCtorEq, not_false_eq_true, upd_ne, par0, alK_some, List.all_cons, one_nil, one_int, List.all_nil, Bool.and_self, true_and]
  rw [← hB]
  refine call1S (by simp -implicitDefEqProofs only [List.map_cons, Nat.reduceLT, ev_tab, upd_eq, List.map_nil] <;> rfl) n1 ?_
  simp -implicitDefEqProofs only [↓ops_cons]
  refine call1S (by simp -implicitDefEqProofs only [List.map_cons, Nat.reduceLT, ev_tab, upd_eq, List.map_nil] <;> rfl) a2 ?_
  simp -implicitDefEqProofs only [↓ops_cons, ↓g_store, Nat.reduceLT, ev_tab, ne_eq, Nat.reduceEqDiff, not_false_eq_true, upd_ne, upd_eq, wr_def, tyOk32, cells32, b1, wr_c, cells_agg, List.length_cons, List.length_nil, Nat.zero_add, Nat.reduceAdd, Nat.le_refl, List.all_cons, one_sl, v1, one_int, List.all_nil, Bool.and_self, and_self, ovr_fm, ovr_fn, if_true, ↓ops_nil, ↓w_ret, retP_1, res_cell, rd_def, agg32, onS_some, b2, rd_aggc, List.drop_zero, List.take_succ_cons, List.take_zero]
  exact ⟨s, g, t, p, v, a1, rfl, (e0.trans e1).set (Nat.le_refl _) _, by omega, (List.getElem?_set_ne (by omega)).trans a5, a6.keep fun r' o n k e => List.getElem?_set_ne (by have := a7 r' o n k e; omega), a7⟩
end Go.Proofs.Ytcjjcpdfnndenaa.Sim
namespace Go.Proofs.Ytcjjcpdfnndenaa.Sim
open Go
set_option maxRecDepth 100000
set_option maxHeartbeats 4000000
set_option linter.unusedSimpArgs false
set_option linter.unusedVariables false
theorem ints_sc (k : IntKind) (l : List Int) : ints k l = (l.map (Value.int k)).map .sc := by simp [ints]
theorem hf_set {H : AHeap} {r : Nat} (h : r < H.length) (g' : Reg) : hf (H.set r g') = fun r' => if r' = r then some g' else hf H r' := by
  funext r'
  unfold hf
  by_cases e : r' = r
  · subst e
    rw [if_pos rfl, List.getElem?_set_self h]
  · rw [if_neg e, List.getElem?_set_ne (fun k => e k.symm)]
theorem rel_more {M N base : Nat} {ρ : Ren} {h : Nat → Option Reg} {w w' : World} (hR : Rel M ρ base h w) (hos : w'.os = w.os) (ht : w'.tape = w.tape) (ho : w'.output = w.output) (hs : w.heap.size ≤ w'.heap.size) (hf : ∀ b, b < w.heap.size → w'.heap[b]? = w.heap[b]?) : Rel M ρ base h w' ∧ Grow M N ρ h w ρ h w' :=
  ⟨⟨⟨Nat.le_trans hR.bs.1 hs, hR.bs.2.keep fun b hb => hf b (Nat.lt_of_lt_of_le hb hR.bs.1)⟩, fun r l h => Nat.lt_of_lt_of_le (hR.lt r l h) hs, hR.dom, hR.top, fun r g l h1 h2 h3 => (hR.reg r g l h1 h2 h3).mono (fun _ _ h => h) (hf _ (hR.lt r l h3)), hR.inj⟩, ⟨hos, ht, ho, hs, fun b hb _ => hf b hb, fun _ _ h => h, fun _ _ _ _ k => ⟨k, rfl⟩, fun _ _ a b => (by rw [a] at b; cases b), fun _ _ _ a b c => (by rw [a] at b; injection b with b; subst b; exact ⟨c, rfl⟩), fun _ g k => ⟨g, k⟩, fun _ _ => rfl⟩⟩
theorem wr_rowS {w : World} {b : Nat} {c : Array Value} {e : TypeId} {fz : Nat × Nat} (hb : w.heap[b]? = some (.cells c e fz)) (d : List Int) (n : Nat) : Wr w (Sort.putRow (Value.int .i64) (Sort.ahead w n) b 0 d.toArray) b (Sort.putCells (Value.int .i64) 0 d.toArray c) e fz := by
  refine ⟨rfl, rfl, rfl, ?_, ?_, ?_⟩
  · simp [Sort.putRow, Sort.mapBlock, Sort.ahead]
  · intro k hk
    simp only [Sort.putRow, Sort.mapBlock, Sort.ahead, Array.getElem?_modify]
    rw [if_neg (Ne.symm hk)]
  · simp only [Sort.putRow, Sort.mapBlock, Sort.ahead, Array.getElem?_modify, if_true, hb, Option.map_some]
    rfl
theorem put_take (d : List Int) (c : Array Value) (h : d.length ≤ c.size) : ((Sort.putCells (Value.int .i64) 0 d.toArray c).toList).take d.length = d.map (Value.int .i64) := by
  apply List.ext_getElem?
  intro i
  by_cases hi : i < d.length
  · have hc : i < c.size := by omega
    rw [List.getElem?_take_of_lt hi, Array.getElem?_toList]
    simp [Sort.putCells, hi, hc]
  · rw [List.getElem?_eq_none (by rw [List.length_take]; omega), List.getElem?_eq_none (by simpa using hi)]
theorem rowIn {M base r : Nat} {ρ : Ren} {H : AHeap} {w : World} {l : Loc} {zs : List Int} (hR : Rel M ρ base (hf H) w) (hr : H[r]? = some ⟨ints .i64 zs, true, true⟩) (hρ : ρ r = some l) :
    l.o = 0 ∧ l.b < w.heap.size ∧ Sort.Holds (Value.int .i64) w l.b 0 zs.toArray ∧ ∀ (N : Nat) (d : List Int) (m n : Nat) (os : Array Obj), d.length = zs.length → m ≤ d.length →
      Rel M ρ base (hf (H.set r ⟨ints .i64 (d.take m), true, true⟩)) (Sort.grow (Sort.putRow (Value.int .i64) (Sort.ahead w n) l.b 0 d.toArray) os) ∧ Grow M N ρ (hf H) w ρ (hf (H.set r ⟨ints .i64 (d.take m), true, true⟩)) (Sort.grow (Sort.putRow (Value.int .i64) (Sort.ahead w n) l.b 0 d.toArray) os) := by
  obtain ⟨c, e, fz, h1, h2, h3, h4, h5, _⟩ := hR.reg r _ l hr rfl hρ
  obtain ⟨h6, h7, h8⟩ := h5 rfl
  have hlt : r < H.length := (List.getElem?_eq_some_iff.1 hr).1
  have hzl : (ints .i64 zs).length = zs.length := by simp [ints]
  rw [h6, ints_sc, List.drop_zero] at h4
  have h9 := LR.scs_eq h4
  simp only [List.length_map] at h9
  have h3' : zs.length ≤ c.size := by simp only [hzl] at h3; omega
  refine ⟨h6, hR.lt r l hρ, ?_, ?_⟩
  · intro j hj
    have hj : j < zs.length := by simpa using hj
    have hjc : j < c.size := by omega
    have hc : c[j]? = some (Value.int .i64 (zs[j]'hj)) := by
      have := congrArg (·[j]?) h9
      simp only [List.getElem?_take_of_lt hj, Array.getElem?_toList, List.getElem?_map, List.getElem?_eq_getElem hj, Option.map_some] at this
      exact this
    refine ⟨?_, ?_⟩
    · simp only [World.cell?, h1, Nat.zero_add]
      rw [hc]
      simp [hj]
    · simp only [World.frozen?, h1, Nat.zero_add]
      have := h8 j (by omega)
      simpa using this
  · intro N d m n os hd hm
    obtain ⟨R1, G1⟩ := rel_store (N := N) (cs' := ints .i64 (d.take m)) hR hr rfl rfl hρ (wr_rowS h1 d n) (by simpa [Sort.putCells] using h2) (by simp [ints]; omega) (by
      have hp := put_take d c (by omega)
      have : (Sort.putCells (Value.int .i64) 0 d.toArray c).toList.take (ints .i64 (d.take m)).length = (d.take m).map (Value.int .i64) := by
        have hl : (ints .i64 (d.take m)).length = min m d.length := by simp [ints]
        rw [hl, ← List.take_take, hp, List.map_take]
      rw [this, ints_sc]
      exact LR.scs _) h8
    rw [show ({ (⟨ints .i64 zs, true, true⟩ : Reg) with cs := ints .i64 (d.take m) } : Reg) = ⟨ints .i64 (d.take m), true, true⟩ from rfl, ← hf_set hlt] at R1 G1
    obtain ⟨R2, G2⟩ := rel_more (N := N) (w' := Sort.grow (Sort.putRow (Value.int .i64) (Sort.ahead w n) l.b 0 d.toArray) os) R1 rfl rfl rfl (by simp [Sort.grow]) (fun b hb => by simp only [Sort.grow, Array.getElem?_append, if_pos hb])
    exact ⟨R2, G1.trans hR R1.top G2⟩
theorem one_arg {ρ : Ren} {a : AV} {cargs : Array Value} (h : LR ρ [a] cargs.toList) : ∃ cv, cargs = #[cv] ∧ VR ρ a cv := by
  rcases cargs with ⟨l⟩
  match l, h with
  | [cv], h => exact ⟨cv, rfl, h.2 0 a cv rfl rfl⟩
  | [], h => exact absurd h.1 (by simp)
  | _ :: _ :: _, h => exact absurd h.1 (by simp)
theorem set_same {H : AHeap} {r : Nat} {g : Reg} (h : H[r]? = some g) : H.set r g = H := by
  apply List.ext_getElem?
  intro i
  by_cases e : r = i
  · subst e
    rw [List.getElem?_set_self (List.getElem?_eq_some_iff.1 h).1, h]
  · rw [List.getElem?_set_ne e]
def srtL (l : List Int) : List Int := l.mergeSort fun x y => decide (x ≤ y)
theorem sortI {H : AHeap} {r : Nat} {zs : List Int} (hr : H[r]? = some ⟨ints .i64 zs, true, true⟩) (hz : zs.length ≤ 1000000000) : Sound Try.prog 61 [.sl r 0 zs.length 1] H (.tup []) (H.set r ⟨ints .i64 (srtL zs), true, true⟩) := by
  refine ⟨⟨_, _, Try.func61, rfl, rfl⟩, by simp, ?_⟩
  intro M ρ base w cargs hM hR hA
  obtain ⟨cv, rfl, hv⟩ := one_arg hA
  have ht : VR ρ (.tup []) (.tuple #[]) := .tup rfl (fun i a v h => by simp at h)
  generalize hn : zs.length = n at hv
  cases hv with
  | sl hρ hc hb =>
    subst hn
    rename_i cap l
    obtain ⟨k1, k2, k3, k4⟩ := rowIn hR hr hρ
    rw [k1]
    refine (Try.slices_Sort_int l.b 0 cap zs w k3 k2 (by omega)).mono ?_
    rintro e w' ⟨rfl, n, os, rfl⟩
    obtain ⟨a1, a2⟩ := k4 H.length (srtL zs) (srtL zs).length n os (by simp [srtL]) (Nat.le_refl _)
    rw [List.take_length] at a1 a2
    exact ⟨_, ρ, rfl, ht, a1, a2⟩
  | sl0 hρ =>
    have : zs = [] := List.length_eq_zero_iff.1 hn
    subst this
    refine (Try.slices_Sort_int_none _ _ w).mono ?_
    rintro e w' ⟨rfl, rfl⟩
    rw [show srtL [] = [] by simp [srtL], set_same hr]
    exact ⟨_, ρ, rfl, ht, hR, Grow.refl ..⟩
theorem sortN (H : AHeap) : Sound Try.prog 61 [.sc (.slice none 0 0)] H (.tup []) H := by
  refine ⟨⟨_, _, Try.func61, rfl, rfl⟩, Nat.le_refl _, ?_⟩
  intro M ρ base w cargs hM hR hA
  obtain ⟨cv, rfl, hv⟩ := one_arg hA
  cases hv
  refine (Try.slices_Sort_int_none _ _ w).mono ?_
  rintro e w' ⟨rfl, rfl⟩
  exact ⟨_, ρ, rfl, .tup rfl (fun i a v h => by simp at h), hR, Grow.refl ..⟩
theorem cmpct_len (zs : List Int) : (Lib.compact zs).length ≤ zs.length := by
  unfold Lib.compact Lib.compactUpTo
  rw [List.length_map]
  exact Nat.le_trans (List.length_filter_le _ _) (by simp)
theorem compactI {H : AHeap} {r : Nat} {zs : List Int} (hr : H[r]? = some ⟨ints .i64 zs, true, true⟩) (hz : zs.length ≤ 1000000000) : Sound Try.prog 62 [.sl r 0 zs.length 1] H (.sl r 0 (Lib.compact zs).length 1) (H.set r ⟨ints .i64 (Lib.compact zs), true, true⟩) := by
  refine ⟨⟨_, _, Try.func62, rfl, rfl⟩, by simp, ?_⟩
  intro M ρ base w cargs hM hR hA
  obtain ⟨cv, rfl, hv⟩ := one_arg hA
  have hcl := cmpct_len zs
  generalize hn : zs.length = n at hv
  cases hv with
  | sl hρ hc hb =>
    subst hn
    rename_i cap l
    obtain ⟨k1, k2, k3, k4⟩ := rowIn hR hr hρ
    have hb' := hb
    rw [k1] at hb ⊢
    refine (Try.slices_Compact_int l.b 0 cap zs w k3 (by omega) hc).mono ?_
    rintro e w' ⟨rfl, q, rfl⟩
    obtain ⟨a1, a2⟩ := k4 H.length (Lib.compact zs ++ List.replicate (zs.length - (Lib.compact zs).length) 0) (Lib.compact zs).length q #[] (by simp; omega) (by simp)
    rw [List.take_left] at a1 a2
    refine ⟨_, ρ, rfl, ?_, a1, a2⟩
    have := VR.sl (sz := 1) (off := 0) (len := (Lib.compact zs).length) (cap := cap) hρ (by omega) hb'
    rwa [k1] at this
  | sl0 hρ =>
    have : zs = [] := List.length_eq_zero_iff.1 hn
    subst this
    refine (Try.slices_Compact_int_empty _ _ w).mono ?_
    rintro e w' ⟨rfl, rfl⟩
    rw [show Lib.compact ([] : List Int) = [] from rfl, set_same hr]
    exact ⟨_, ρ, rfl, .sl0 hρ, hR, Grow.refl ..⟩
theorem compactN (H : AHeap) : Sound Try.prog 62 [.sc (.slice none 0 0)] H (.sc (.slice none 0 0)) H := by
  refine ⟨⟨_, _, Try.func62, rfl, rfl⟩, Nat.le_refl _, ?_⟩
  intro M ρ base w cargs hM hR hA
  obtain ⟨cv, rfl, hv⟩ := one_arg hA
  cases hv
  refine (Try.slices_Compact_int_empty _ _ w).mono ?_
  rintro e w' ⟨rfl, rfl⟩
  exact ⟨_, ρ, rfl, .sc _, hR, Grow.refl ..⟩
end Go.Proofs.Ytcjjcpdfnndenaa.Sim
namespace Go.Proofs.Ytcjjcpdfnndenaa.Sim
open Go
set_option maxRecDepth 100000
set_option maxHeartbeats 4000000
set_option linter.unusedSimpArgs false
set_option linter.unusedVariables false
theorem asc_eq : ∀ (a b : List Int), a.Pairwise (· < ·) → b.Pairwise (· < ·) → (∀ x, x ∈ a ↔ x ∈ b) → a = b
  | [], [], _, _, _ => rfl
  | [], y :: b, _, _, h => by have := (h y).2 (List.mem_cons_self ..); cases this
  | x :: a, [], _, _, h => by have := (h x).1 (List.mem_cons_self ..); cases this
  | x :: a, y :: b, ha, hb, h => by
    rw [List.pairwise_cons] at ha hb
    have e : x = y := by
      rcases List.mem_cons.1 ((h x).1 (List.mem_cons_self ..)) with e | e
      · exact e
      · rcases List.mem_cons.1 ((h y).2 (List.mem_cons_self ..)) with e' | e'
        · exact e'.symm
        · have := hb.1 x e
          have := ha.1 y e'
          omega
    subst e
    rw [asc_eq a b ha.2 hb.2 fun z => ?_]
    constructor
    · intro hz
      rcases List.mem_cons.1 ((h z).1 (List.mem_cons_of_mem _ hz)) with e | e
      · have := ha.1 z hz; omega
      · exact e
    · intro hz
      rcases List.mem_cons.1 ((h z).2 (List.mem_cons_of_mem _ hz)) with e | e
      · have := hb.1 z hz; omega
      · exact e
theorem cmp_asc (d : Array Int) (hs : ∀ i j, i ≤ j → j < d.size → d[i]! ≤ d[j]!) : ∀ m, m ≤ d.size → (Lib.compactUpTo d m).Pairwise (· < ·) ∧ (∀ x, x ∈ Lib.compactUpTo d m ↔ ∃ j, j < m ∧ d[j]! = x)
  | 0, _ => by simp [Lib.compactUpTo]
  | m + 1, h => by
    obtain ⟨ih1, ih2⟩ := cmp_asc d hs m (by omega)
    rw [Lib.compactUpTo_succ]
    by_cases hk : Lib.keeps d m = true
    · rw [if_pos hk]
      constructor
      · rw [List.pairwise_append]
        refine ⟨ih1, by simp, fun a ha b hb => ?_⟩
        rw [List.mem_singleton] at hb
        subst hb
        obtain ⟨j, hj, rfl⟩ := (ih2 a).1 ha
        have hm : m ≠ 0 := by omega
        have h1 := hs j (m - 1) (by omega) (by omega)
        have h2 := hs (m - 1) m (by omega) (by omega)
        have h3 : d[m]! ≠ d[m - 1]! := by
          simp only [Lib.keeps] at hk
          rcases of_decide_eq_true hk with h | h
          · exact absurd h hm
          · exact h
        omega
      · intro x
        rw [List.mem_append, ih2, List.mem_singleton]
        constructor
        · rintro (⟨j, hj, e⟩ | rfl)
          · exact ⟨j, by omega, e⟩
          · exact ⟨m, by omega, rfl⟩
        · rintro ⟨j, hj, e⟩
          rcases Nat.lt_or_ge j m with k | k
          · exact .inl ⟨j, k, e⟩
          · exact .inr (by rw [← e, show j = m by omega])
    · rw [if_neg hk, List.append_nil]
      refine ⟨ih1, fun x => ?_⟩
      rw [ih2]
      constructor
      · rintro ⟨j, hj, e⟩
        exact ⟨j, by omega, e⟩
      · rintro ⟨j, hj, e⟩
        rcases Nat.lt_or_ge j m with k | k
        · exact ⟨j, k, e⟩
        · have h0 : j = m := by omega
          subst h0
          have hj0 : j ≠ 0 := by
            rintro rfl
            simp [Lib.keeps] at hk
          refine ⟨j - 1, by omega, ?_⟩
          simp only [Lib.keeps, decide_eq_true_eq, not_or, ne_eq, Decidable.not_not] at hk
          rw [← e, hk.2]
theorem compact_asc (l : List Int) (hs : l.Pairwise (· ≤ ·)) : (Lib.compact l).Pairwise (· < ·) ∧ ∀ x, x ∈ Lib.compact l ↔ x ∈ l := by
  obtain ⟨h1, h2⟩ := cmp_asc l.toArray (fun i j hij hj => by
    have hj : j < l.length := by simpa using hj
    have hi : i < l.length := by omega
    have e : ∀ k, k < l.length → l.toArray[k]! = l.getD k 0 := fun k hk => by simp [hk]
    rw [e i hi, e j hj]
    rcases Nat.lt_or_ge i j with k | k
    · have := List.pairwise_iff_getElem.1 hs i j hi hj k
      simpa [List.getD_eq_getElem?_getD, hi, hj] using this
    · rw [show i = j by omega]; exact Int.le_refl _) l.length (by simp)
  refine ⟨h1, fun x => (h2 x).trans ?_⟩
  constructor
  · rintro ⟨j, hj, e⟩
    rw [← e]
    have : l.toArray[j]! = l[j] := by simp [hj]
    rw [this]
    exact List.getElem_mem hj
  · intro h
    obtain ⟨j, hj, e⟩ := List.getElem_of_mem h
    exact ⟨j, hj, by rw [← e]; simp [hj]⟩
theorem ins_mem2 (v : Int) : ∀ (l : List Int) (x : Int), x ∈ ins v l ↔ x = v ∨ x ∈ l
  | [], x => by simp [ins]
  | a :: r, x => by
    rw [ins]
    split
    · simp
    · rw [List.mem_cons, ins_mem2 v r x, List.mem_cons]
      constructor
      · rintro (h | h | h) <;> simp [h]
      · rintro (h | h | h) <;> simp [h]
theorem fold_mem : ∀ (l out : List Int) (x : Int), x ∈ l.foldl flStep out ↔ x ∈ out ∨ (x ∈ l ∧ 0 ≤ x ∧ x ≤ 9999)
  | [], out, x => by simp
  | a :: r, out, x => by
    rw [List.foldl_cons, fold_mem r, flStep]
    by_cases h1 : 0 ≤ a ∧ a ≤ 9999
    · by_cases h2 : a ∈ out
      · rw [if_neg (fun h => h.2 h2)]
        constructor
        · rintro (h | ⟨h, k⟩)
          · exact .inl h
          · exact .inr ⟨List.mem_cons_of_mem _ h, k⟩
        · rintro (h | ⟨h, k⟩)
          · exact .inl h
          · rcases List.mem_cons.1 h with rfl | h
            · exact .inl h2
            · exact .inr ⟨h, k⟩
      · rw [if_pos ⟨h1, h2⟩, ins_mem2]
        constructor
        · rintro ((rfl | h) | ⟨h, k⟩)
          · exact .inr ⟨List.mem_cons_self .., h1⟩
          · exact .inl h
          · exact .inr ⟨List.mem_cons_of_mem _ h, k⟩
        · rintro (h | ⟨h, k⟩)
          · exact .inl (.inr h)
          · rcases List.mem_cons.1 h with rfl | h
            · exact .inl (.inl rfl)
            · exact .inr ⟨h, k⟩
    · rw [if_neg (fun h => h1 h.1)]
      constructor
      · rintro (h | ⟨h, k⟩)
        · exact .inl h
        · exact .inr ⟨List.mem_cons_of_mem _ h, k⟩
      · rintro (h | ⟨h, k⟩)
        · exact .inl h
        · rcases List.mem_cons.1 h with rfl | h
          · exact absurd k h1
          · exact .inr ⟨h, k⟩
def inR (l : List Int) : List Int := l.filter fun v => decide (0 ≤ v ∧ v ≤ 9999)
theorem inR_s (l : List Int) (i : Nat) (h : i < l.length) : inR (l.take (i + 1)) = if 0 ≤ l.getD i 0 ∧ l.getD i 0 ≤ 9999 then inR (l.take i) ++ [l.getD i 0] else inR (l.take i) := by
  rw [take_s l i h, inR, List.filter_append]
  by_cases c : 0 ≤ l.getD i 0 ∧ l.getD i 0 ≤ 9999
  · rw [if_pos c, List.filter_cons_of_pos (by simpa using c)]
    rfl
  · rw [if_neg c, List.filter_cons_of_neg (by simpa using c)]
    simp [inR]
theorem inR_len (l : List Int) : (inR l).length ≤ l.length := List.length_filter_le _ _
theorem srtL_len (l : List Int) : (srtL l).length = l.length := by simp [srtL]
theorem flOf_compact (l : List Int) : Lib.compact (srtL (inR l)) = flOf l := by
  have hs : (srtL (inR l)).Pairwise (· ≤ ·) := by
    have := List.pairwise_mergeSort (le := fun x y : Int => decide (x ≤ y)) (fun a b c h1 h2 => by simp only [decide_eq_true_eq] at *; omega) (fun a b => by simp only [Bool.or_eq_true, decide_eq_true_eq]; omega) (inR l)
    simpa [srtL] using this
  obtain ⟨h1, h2⟩ := compact_asc _ hs
  refine asc_eq _ _ h1 (flOf_ok l).1.1 fun x => ?_
  rw [h2, flOf, fold_mem]
  simp [srtL, inR, List.mem_mergeSort]
end Go.Proofs.Ytcjjcpdfnndenaa.Sim
namespace Go.Proofs.Ytcjjcpdfnndenaa.Sim
open Go
set_option maxRecDepth 100000
set_option maxHeartbeats 40000000
set_option linter.unusedSimpArgs false
set_option linter.unusedVariables false
theorem flOfI {H : AHeap} {x : AV} {l : List Int} (hx : IsL H x .i64 l) (hl : l.length ≤ 100000000) : ∃ (v : AV) (Z : AHeap), Sound Try.prog 39 [x] H (flt v (.sc (.slice none 0 0)) 0) Z ∧ Ext H Z ∧ Own Z v (flOf l) ∧ ∀ r o n k, v = .sl r o n k → H.length ≤ r := by
  suffices h : ∃ u Z, Sound Try.prog 39 [x] H u Z ∧ ∃ v, u = flt v (.sc (.slice none 0 0)) 0 ∧ Ext H Z ∧ Own Z v (flOf l) ∧ ∀ r o n k, v = .sl r o n k → H.length ≤ r by
    obtain ⟨u, Z, h1, v, rfl, h2⟩ := h
    exact ⟨v, Z, h1, h2⟩
  unfold flt
  refine Sound.runP (args := [x]) 30 [.cell 2 32] Try.func39 rfl rfl rfl rfl (by simp) (fun u Z => ∃ v, u = .agg [v, .sc (.slice none 0 0), .sc (.int .i64 0)] ∧ Ext H Z ∧ Own Z v (flOf l) ∧ ∀ r o n k, v = .sl r o n k → H.length ≤ r) ?_
  have x1 := hx.one
  obtain ⟨B, hB⟩ : ∃ B : Reg, B = ⟨[.sc (.slice none 0 0), .sc (.slice none 0 0), .sc (.int .i64 0)], true, true⟩ := ⟨_, rfl⟩
  have e0 := Ext.more H [B, B]
  have a0 := hap_0 H [B, B]
  have b0 := hap_k H [B, B] 1
  have lx := fun e => (e0.isL hx).len e
  have n0 : (H ++ [B, B]).length = H.length + 2 := by rw [List.length_append]; rfl
  simp -implicitDefEqProofs only [↓w_seq, ↓w_region, ↓ops_cons, ↓g_alloc, zero32, Option.map_some, ↓ops_nil, ↓g_buildV, List.map_nil, bz32, ↓g_store, Nat.reduceLT, ev_tab, upd_eq, ne_eq, Nat.reduceEqDiff, not_false_eq_true, upd_ne, ↓g_move, ↓g_len, Try.underlying22, reduceCtorEq, par0, ↓w_block, ev_const, of_int, alK_some, List.all_cons, one_nil, one_int, List.all_nil, Bool.and_self, wr_def, tyOk32, cells32, hap_0, List.getElem?_cons_zero, wr_c, Nat.zero_add, List.length_cons, List.length_nil, Nat.reduceAdd, Nat.le_refl, true_and, hset_0, List.set_cons_zero, onS_ite, onS_some, cells_agg, and_self, ovr_fm, ovr_fn, List.length_append, List.append_assoc, List.cons_append, List.nil_append]
  rw [← hB]
  generalize hZ0 : H ++ [B, B] = Z0 at *
  simp -implicitDefEqProofs only [lx, onS_some]
  refine w_loop (ι := Nat) (fun i st => ∃ (T : Nat → AV) (Z : AHeap) (v : AV), st = ⟨tab 30 T, Z⟩ ∧ i ≤ l.length ∧ H.length + 2 ≤ Z.length ∧ (∀ j, j < H.length → Z[j]? = H[j]?) ∧ Z[H.length]? = some B ∧ Z[H.length + 1]? = some ⟨[v, .sc (.slice none 0 0), .sc (.int .i64 0)], true, true⟩ ∧ Own Z v (inR (l.take i)) ∧ (∀ r o n k, v = .sl r o n k → H.length + 2 ≤ r) ∧ T 2 = .ptr H.length 0 ∧ T 3 = .ptr (H.length + 1) 0 ∧ T 7 = x ∧ T 8 = .sc (.int .i64 l.length) ∧ T 9 = .sc (.int .i64 i)) (fun i => l.length - i) ?_ (i := 0) ?_
  · rintro i st ⟨T, Z, v, rfl, a1, ez1, ez2, a2, w3, o3, o4, t2, t3, t7, t8, t9⟩
    have ez : Ext H Z := ⟨by omega, ez2⟩
    have z6 : H.length + 1 < Z.length := by omega
    by_cases h : i < l.length
    · have k1 : (i : Int) < l.length := by omega
      have k2 : (0 : Int) ≤ i := by omega
      have e1 : IntKind.i64.wrap ((i : Int) + 1) = i + 1 := w64 (by omega) (by omega)
      obtain ⟨r, o, hxr, hr⟩ := (ez.isL hx).get (i := i) h
      have hs := inR_s l i h
      have hll := inR_len (l.take i)
      have htl : (l.take i).length = i := by rw [List.length_take]; omega
      generalize inR (l.take i) = O at *
      generalize hv : l.getD i 0 = u at *
      have b1 : (O.length + 1) * 8 ≤ 140737488355328 := by omega
      have b2' : O.length + 1 ≤ 140737488355328 := by omega
      by_cases c1 : 0 ≤ u ∧ u ≤ 9999
      · rw [if_pos c1] at hs
        have w4 : ∀ Y : AHeap, (Z ++ Y)[H.length + 1]? = some ⟨[v, .sc (.slice none 0 0), .sc (.int .i64 0)], true, true⟩ := fun Y => (at_more _ _ _ z6).trans w3
        simp -implicitDefEqProofs only [↓w_seq, ↓w_region, hxr, ↓ops_cons, ↓g_binOp, Nat.reduceLT, ev_tab, t9, t8, b_lss, k1, decide_true, ↓ops_nil, ↓w_cond, upd_eq, ↓w_skip, ↓w_block, ↓g_indexAddr, Try.underlying22, ne_eq, Nat.reduceEqDiff, not_false_eq_true, upd_ne, t7, adr_sl, k2, cells3, tyOk3, and_self, Int.toNat_natCast, Nat.mul_one, Nat.zero_add, if_true, ↓g_load, ↓g_assign, ↓g_move, onS_some, rd_def, agg3, hr, rd_ints, h, hv, ↓w_exit, ↓g_fieldAddrT, t3, fadr32_0, tyOk22, agg22, cells22, onB_true]
        refine call1 (by simp -implicitDefEqProofs only [List.map_cons, Nat.reduceLT, ev_tab, upd_eq, ev_const, of_int, List.map_nil] <;> rfl) (inI u 0 9999) ?_
        rw [decide_eq_true c1]
        rcases o3 with ⟨rfl, hB0⟩ | ⟨q', rfl, hq'⟩
        · subst hB0
          have ws : ∀ Y g, ((Z ++ Y).set (H.length + 1) g)[H.length + 1]? = some g := fun Y g => List.getElem?_set_self (by rw [List.length_append]; omega)
          simp -implicitDefEqProofs only [↓ops_nil, ↓w_cond, Nat.reduceLT, ev_tab, upd_eq, ↓w_region, ↓ops_cons, ↓g_fieldAddrT, ne_eq, Nat.reduceEqDiff, not_false_eq_true, upd_ne, t3, fadr32_0, Nat.zero_add, ↓g_load, ↓g_move, ↓g_buildSlice, Try.underlying22, List.map_cons, List.map_nil, bs3_1, ↓g_append, ↓g_store, ↓g_binOp, t9, ev_const, of_int, b_add, e1, onS_some, wr_def, tyOk22, cells22, alK_some, ints_one, true_and, rd_def, agg22, w3, rd_onec, List.getElem?_cons_zero, apN22, src_sl, at_end, at_ints, List.length_cons, List.length_nil, Nat.le_refl, List.drop_zero, List.take_succ_cons, List.take_zero, if_true, ap_intsN, Nat.reduceMul, Nat.reduceLeDiff, and_self, reduceCtorEq, List.length_append, List.append_assoc, List.cons_append, List.nil_append, if_false, w4, wr_c, cells_sl, Nat.reduceAdd, List.all_cons, one_sl, List.all_nil, Bool.and_self, ovr_fm, ovr_fn, ↓w_skip, onB_true]
          refine ⟨i + 1, by omega, _, _, .sl (Z.length + 1) 0 1 1, rfl, by omega, by rw [List.length_set, List.length_append]; omega, fun j hj => (List.getElem?_set_ne (by omega)).trans ((at_more _ _ _ (by omega)).trans (ez2 j hj)), (List.getElem?_set_ne (by omega)).trans ((at_more _ _ _ (by omega)).trans a2), ws _ _, ?_, fun r o n k e => by (injection e with e1; omega), ?_, ?_, ?_, ?_, ?_⟩
          · rw [hs]
            exact .inr ⟨_, rfl, (List.getElem?_set_ne (by omega)).trans (hap_k _ _ 1)⟩
          all_goals (simp -implicitDefEqProofs only [ne_eq, Nat.reduceEqDiff, not_false_eq_true, upd_ne, t2, t3, t7, hxr, t8, upd_eq] <;> rfl)
        · have hq3 := o4 _ _ _ _ rfl
          have hql := at_lt hq'
          have hq2 : ∀ g : Reg, (Z ++ [g])[q']? = some ⟨ints .i64 O, true, true⟩ := fun g => (at_more _ _ _ hql).trans hq'
          have w6 : ∀ Y Y' : AHeap, (killReg (Z ++ Y) q' ++ Y')[H.length + 1]? = some ⟨[.sl q' 0 O.length 1, .sc (.slice none 0 0), .sc (.int .i64 0)], true, true⟩ := fun Y Y' => (at_more _ _ _ (by rw [kill_len, List.length_append]; omega)).trans ((kill_at _ _ _ (by omega)).trans (w4 Y))
          simp -implicitDefEqProofs only [↓ops_nil, ↓w_cond, Nat.reduceLT, ev_tab, upd_eq, ↓w_region, ↓ops_cons, ↓g_fieldAddrT, ne_eq, Nat.reduceEqDiff, not_false_eq_true, upd_ne, t3, fadr32_0, Nat.zero_add, ↓g_load, ↓g_move, ↓g_buildSlice, Try.underlying22, List.map_cons, List.map_nil, bs3_1, ↓g_append, ↓g_store, ↓g_binOp, t9, ev_const, of_int, b_add, e1, onS_some, wr_def, tyOk22, cells22, alK_some, ints_one, true_and, rd_def, agg22, w3, rd_onec, List.getElem?_cons_zero, apS22, hq2, src_sl, at_end, at_ints, List.length_cons, List.length_nil, Nat.le_refl, List.drop_zero, List.take_succ_cons, List.take_zero, if_true, ap_ints, b1, b2', and_self, List.length_append, List.take_length, w6, wr_c, cells_sl, Nat.reduceAdd, Nat.reduceLeDiff, List.all_cons, one_sl, List.all_nil, Bool.and_self, ovr_fm, ovr_fn, ↓w_skip, onB_true]
          refine ⟨i + 1, by omega, _, _, .sl (Z.length + 1) 0 (O.length + 1) 1, rfl, by omega, by rw [List.length_set, List.length_append, kill_len, List.length_append]; omega, fun j hj => (List.getElem?_set_ne (by omega)).trans ((at_more _ _ _ (by rw [kill_len, List.length_append]; omega)).trans ((kill_at _ _ _ (by omega)).trans ((at_more _ _ _ (by omega)).trans (ez2 j hj)))), (List.getElem?_set_ne (by omega)).trans ((at_more _ _ _ (by rw [kill_len, List.length_append]; omega)).trans ((kill_at _ _ _ (by omega)).trans ((at_more _ _ _ (by omega)).trans a2))), List.getElem?_set_self (by rw [List.length_append, kill_len, List.length_append]; omega), ?_, fun r o n k e => by (injection e with e1; omega), ?_, ?_, ?_, ?_, ?_⟩
          · rw [hs]
            refine .inr ⟨Z.length + 1, by rw [List.length_append]; rfl, (List.getElem?_set_ne (by omega)).trans ?_⟩
            have := at_end (killReg (Z ++ [⟨ints .i64 [u], true, true⟩]) q') ⟨ints .i64 (O ++ [u]), true, true⟩
            rwa [kill_len, List.length_append, List.length_singleton] at this
          all_goals (simp -implicitDefEqProofs only [ne_eq, Nat.reduceEqDiff, not_false_eq_true, upd_ne, t2, t3, t7, hxr, t8, upd_eq] <;> rfl)
      · rw [if_neg c1] at hs
        simp -implicitDefEqProofs only [↓w_seq, ↓w_region, hxr, ↓ops_cons, ↓g_binOp, Nat.reduceLT, ev_tab, t9, t8, b_lss, k1, decide_true, ↓ops_nil, ↓w_cond, upd_eq, ↓w_skip, ↓w_block, ↓g_indexAddr, Try.underlying22, ne_eq, Nat.reduceEqDiff, not_false_eq_true, upd_ne, t7, adr_sl, k2, cells3, tyOk3, and_self, Int.toNat_natCast, Nat.mul_one, Nat.zero_add, if_true, ↓g_load, ↓g_assign, ↓g_move, onS_some, rd_def, agg3, hr, rd_ints, h, hv, ↓w_exit, ↓g_fieldAddrT, t3, fadr32_0, tyOk22, agg22, cells22, onB_true]
        refine call1 (by simp -implicitDefEqProofs only [List.map_cons, Nat.reduceLT, ev_tab, upd_eq, ev_const, of_int, List.map_nil] <;> rfl) (inI u 0 9999) ?_
        rw [decide_eq_false c1]
        simp -implicitDefEqProofs only [↓ops_nil, ↓w_cond, Nat.reduceLT, ev_tab, upd_eq, ↓w_region, ↓ops_cons, ↓g_fieldAddrT, ne_eq, Nat.reduceEqDiff, not_false_eq_true, upd_ne, ↓g_load, ↓g_move, ↓g_buildSlice, Try.underlying22, List.map_cons, List.map_nil, bs3_1, ↓g_append, ↓g_store, ↓g_binOp, t9, ev_const, of_int, b_add, e1, onS_some, alK_some, ints_one, true_and, ↓w_skip, onB_false]
        refine ⟨i + 1, by omega, _, _, v, rfl, by omega, ez1, ez2, a2, w3, by rw [hs]; exact o3, o4, ?_, ?_, ?_, ?_, ?_⟩ <;> simp -implicitDefEqProofs only [ne_eq, Nat.reduceEqDiff, not_false_eq_true, upd_ne, t2, t3, t7, hxr, t8, upd_eq] <;> rfl
    · have k1 : ¬ (i : Int) < l.length := by omega
      have hi : l.take i = l := List.take_of_length_le (by omega)
      rw [hi] at o3
      have hfl := flOf_compact l
      have hsl := srtL_len (inR l)
      have hrl := inR_len l
      generalize inR l = O at *
      have zz : H.length + 2 ≤ Z.length := ez1
      rcases o3 with ⟨rfl, hB0⟩ | ⟨q', rfl, hq'⟩
      · have e0 : flOf l = [] := by rw [← hfl, hB0]; simp [srtL, Lib.compact, Lib.compactUpTo]
        have h1 := sortN Z
        have h2 := compactN Z
        subst hB
        simp -implicitDefEqProofs only [↓w_seq, ↓w_region, ↓ops_cons, ↓g_binOp, Nat.reduceLT, ev_tab, t9, t8, b_lss, k1, decide_false, ↓ops_nil, ↓w_cond, upd_eq, ↓w_skip, ↓w_block, ↓g_indexAddr, Try.underlying22, ne_eq, Nat.reduceEqDiff, not_false_eq_true, upd_ne, ↓g_load, ↓g_assign, ↓g_move, ↓w_exit, ↓g_fieldAddrT, t3, fadr32_0, Nat.zero_add, onS_some, rd_def, tyOk22, agg22, cells22, w3, rd_onec, List.getElem?_cons_zero, if_true, onB_false]
        refine call1S (by simp -implicitDefEqProofs only [List.map_cons, Nat.reduceLT, ev_tab, upd_eq, List.map_nil] <;> rfl) h1 ?_
        simp -implicitDefEqProofs only [↓ops_nil, ↓w_seq, ↓w_region, ↓ops_cons, ↓g_fieldAddrT, Nat.reduceLT, ev_tab, ne_eq, Nat.reduceEqDiff, not_false_eq_true, upd_ne, t3, fadr32_0, Nat.zero_add, ↓g_load, upd_eq, onS_some, rd_def, tyOk22, agg22, cells22, w3, rd_onec, List.getElem?_cons_zero]
        refine call1S (by simp -implicitDefEqProofs only [List.map_cons, Nat.reduceLT, ev_tab, upd_eq, List.map_nil] <;> rfl) h2 ?_
        have ws : ∀ g, (Z.set (H.length + 1) g)[H.length + 1]? = some g := fun g => List.getElem?_set_self (by omega)
        have wa : ∀ g, (Z.set (H.length + 1) g)[H.length]? = Z[H.length]? := fun g => List.getElem?_set_ne (by omega)
        have wb : ∀ Y : AHeap, ∀ g, Z.length = Y.length → (Y.set H.length g)[H.length]? = some g := fun Y g e => List.getElem?_set_self (by omega)
        simp -implicitDefEqProofs only [↓ops_cons, ↓g_fieldAddrT, Nat.reduceLT, ev_tab, ne_eq, Nat.reduceEqDiff, not_false_eq_true, upd_ne, t3, fadr32_0, Nat.zero_add, ↓g_store, upd_eq, ↓ops_nil, ↓w_seq, ↓w_region, ↓g_load, rd_def, tyOk32, agg32, cells32, t2, wr_def, ↓w_ret, retP_1, res_cell, onS_some, tyOk22, cells22, w3, wr_c, cells_nil, List.length_cons, List.length_nil, Nat.reduceAdd, Nat.reduceLeDiff, List.all_cons, one_nil, List.all_nil, Bool.and_self, and_self, ovr_fm, ovr_fn, if_true, ws, rd_aggc, Nat.le_refl, List.drop_zero, List.take_succ_cons, List.take_zero, wa, a2, true_and, onS_ite, cells_agg, one_int]
        rw [List.getElem?_set_self (by rw [List.length_set]; omega)]
        simp -implicitDefEqProofs only [rd_aggc, Nat.zero_add, List.length_cons, List.length_nil, Nat.reduceAdd, Nat.le_refl, List.drop_zero, List.take_succ_cons, List.take_zero, if_true, onS_some]
        exact ⟨_, rfl, ⟨by rw [List.length_set, List.length_set]; omega, fun j hj => by rw [List.getElem?_set_ne (by omega), List.getElem?_set_ne (by omega)]; exact ez2 j hj⟩, by rw [e0]; exact .inl ⟨rfl, rfl⟩, fun r o n k e => by cases e⟩
      · have hq3 := o4 _ _ _ _ rfl
        have hql := at_lt hq'
        have h1 := sortI hq' (by omega)
        obtain ⟨Y, hY⟩ : ∃ Y, Y = Z.set q' ⟨ints .i64 (srtL O), true, true⟩ := ⟨_, rfl⟩
        rw [← hY] at h1
        have hYl : Y.length = Z.length := by rw [hY, List.length_set]
        have y2 : ∀ j, j < H.length + 2 → Y[j]? = Z[j]? := fun j hj => by rw [hY]; exact List.getElem?_set_ne (by omega)
        have y3 := (y2 (H.length + 1) (by omega)).trans w3
        have yq : Y[q']? = some ⟨ints .i64 (srtL O), true, true⟩ := by rw [hY]; exact List.getElem?_set_self hql
        have h2 := compactI yq (by omega)
        rw [hfl, hsl] at h2
        obtain ⟨X, hX⟩ : ∃ X, X = Y.set q' ⟨ints .i64 (flOf l), true, true⟩ := ⟨_, rfl⟩
        rw [← hX] at h2
        have hXl : X.length = Z.length := by rw [hX, List.length_set, hYl]
        have x2 : ∀ j, j < H.length + 2 → X[j]? = Z[j]? := fun j hj => by rw [hX]; exact (List.getElem?_set_ne (by omega)).trans (y2 j hj)
        have x3 := (x2 (H.length + 1) (by omega)).trans w3
        have xa := (x2 H.length (by omega)).trans a2
        have xq : X[q']? = some ⟨ints .i64 (flOf l), true, true⟩ := by rw [hX]; exact List.getElem?_set_self (by omega)
        subst hB
        simp -implicitDefEqProofs only [↓w_seq, ↓w_region, ↓ops_cons, ↓g_binOp, Nat.reduceLT, ev_tab, t9, t8, b_lss, k1, decide_false, ↓ops_nil, ↓w_cond, upd_eq, ↓w_skip, ↓w_block, ↓g_indexAddr, Try.underlying22, ne_eq, Nat.reduceEqDiff, not_false_eq_true, upd_ne, ↓g_load, ↓g_assign, ↓g_move, ↓w_exit, ↓g_fieldAddrT, t3, fadr32_0, Nat.zero_add, onS_some, rd_def, tyOk22, agg22, cells22, w3, rd_onec, List.getElem?_cons_zero, if_true, onB_false]
        refine call1S (by simp -implicitDefEqProofs only [List.map_cons, Nat.reduceLT, ev_tab, upd_eq, List.map_nil] <;> rfl) h1 ?_
        simp -implicitDefEqProofs only [↓ops_nil, ↓w_seq, ↓w_region, ↓ops_cons, ↓g_fieldAddrT, Nat.reduceLT, ev_tab, ne_eq, Nat.reduceEqDiff, not_false_eq_true, upd_ne, t3, fadr32_0, Nat.zero_add, ↓g_load, upd_eq, onS_some, rd_def, tyOk22, agg22, cells22, y3, rd_onec, List.getElem?_cons_zero]
        refine call1S (by simp -implicitDefEqProofs only [List.map_cons, Nat.reduceLT, ev_tab, upd_eq, List.map_nil] <;> rfl) h2 ?_
        have ws : ∀ g, (X.set (H.length + 1) g)[H.length + 1]? = some g := fun g => List.getElem?_set_self (by omega)
        have wa : ∀ g, (X.set (H.length + 1) g)[H.length]? = X[H.length]? := fun g => List.getElem?_set_ne (by omega)
        simp -implicitDefEqProofs only [↓ops_cons, ↓g_fieldAddrT, Nat.reduceLT, ev_tab, ne_eq, Nat.reduceEqDiff, not_false_eq_true, upd_ne, t3, fadr32_0, Nat.zero_add, ↓g_store, upd_eq, ↓ops_nil, ↓w_seq, ↓w_region, ↓g_load, rd_def, tyOk32, agg32, cells32, t2, wr_def, ↓w_ret, retP_1, res_cell, onS_some, tyOk22, cells22, x3, wr_c, cells_sl, List.length_cons, List.length_nil, Nat.reduceAdd, Nat.reduceLeDiff, List.all_cons, one_sl, List.all_nil, Bool.and_self, and_self, ovr_fm, ovr_fn, if_true, ws, rd_aggc, Nat.le_refl, List.drop_zero, List.take_succ_cons, List.take_zero, wa, xa, true_and, onS_ite, cells_agg, one_nil, one_int]
        rw [List.getElem?_set_self (by rw [List.length_set]; omega)]
        simp -implicitDefEqProofs only [rd_aggc, Nat.zero_add, List.length_cons, List.length_nil, Nat.reduceAdd, Nat.le_refl, List.drop_zero, List.take_succ_cons, List.take_zero, if_true, onS_some]
        exact ⟨_, rfl, ⟨by rw [List.length_set, List.length_set]; omega, fun j hj => by rw [List.getElem?_set_ne (by omega), List.getElem?_set_ne (by omega), x2 j (by omega)]; exact ez2 j hj⟩, .inr ⟨q', rfl, by rw [List.getElem?_set_ne (by omega), List.getElem?_set_ne (by omega)]; exact xq⟩, fun r o n k e => by injection e with e1; omega⟩
  · refine ⟨_, _, .sc (.slice none 0 0), rfl, by omega, by omega, fun j hj => e0.2 j hj, a0, ?_, .inl ⟨rfl, rfl⟩, fun r o n k e => (by cases e), ?_, ?_, ?_, ?_, ?_⟩
    · rw [← hB]; exact b0
    all_goals (simp -implicitDefEqProofs only [ne_eq, Nat.reduceEqDiff, not_false_eq_true, upd_ne, upd_eq, Int.cast_ofNat_Int] <;> rfl)
end Go.Proofs.Ytcjjcpdfnndenaa.Sim
namespace Go.Proofs.Ytcjjcpdfnndenaa.Sim
open Go
set_option maxRecDepth 100000
set_option maxHeartbeats 4000000
set_option linter.unusedSimpArgs false
set_option linter.unusedVariables false
theorem sameIntsS {H : AHeap} {x y : AV} {l m : List Int} (hx : IsL H x .i64 l) (hy : IsL H y .i64 m) (hl : l.length ≤ 1000000000000) (hm : m.length ≤ 1000000000000) : Sound Try.prog 36 [x, y] H (.sc (.bool (decide (l = m)))) H := by
  refine Sound.run 26 [.tmp 4] Try.func36 rfl rfl rfl rfl (by simp) ?_
  have lx := fun e => hx.len e
  have ly := fun e => hy.len e
  simp -implicitDefEqProofs only [↓w_seq, ↓w_region, ↓ops_cons, ↓g_assign, ↓ops_nil, ev_const, of_bool, ↓g_move, ↓g_len, Try.underlying22, Nat.reduceLT, ev_tab, ne_eq, reduceCtorEq, not_false_eq_true, upd_ne, par0, upd_eq, lx, Nat.reduceEqDiff, par1, ly, ↓g_binOp, ↓w_cond, ↓w_ret, ret_one, and_true, ↓w_skip, ↓w_block, of_int, onS_some, b_neq, onB_not, onB_dec]
  by_cases e : (l.length : Int) = m.length
  · rw [if_pos e]
    have e0 : l.length = m.length := by omega
    refine w_loop (ι := Nat) (fun i s => ∃ T : Nat → AV, s = ⟨tab 26 T, H⟩ ∧ i ≤ l.length ∧ (∀ j, j < i → l.getD j 0 = m.getD j 0) ∧ T 0 = x ∧ T 1 = y ∧ T 5 = .sc (.int .i64 i)) (fun i => l.length - i) ?_ (i := 0) ?_
    · rintro i s ⟨T, rfl, a1, a2, a3, a4, a5⟩
      by_cases h : i < l.length
      · have k1 : (i : Int) < l.length := by omega
        have k2 : (0 : Int) ≤ i := by omega
        have k3 : (i : Int) < m.length := by omega
        have k4 : i < m.length := by omega
        simp -implicitDefEqProofs only [↓w_seq, ↓w_region, ↓ops_cons, ↓g_move, ↓g_len, Try.underlying22, Nat.reduceLT, ev_tab, a5, ne_eq, reduceCtorEq, not_false_eq_true, upd_ne, a3, upd_eq, lx, ↓g_binOp, Nat.reduceEqDiff, ↓ops_nil, ↓w_cond, ↓w_skip, ↓w_block, ↓w_exit, ↓g_assign, ↓w_ret, ev_const, of_bool, ret_one, and_true, if_true, onS_some, b_lss, k1, decide_true, onB_true]
        refine drawn [(3, 0), (7, 0)] follows (by kernel_rfl) (by kernel_rfl) ?_
        obtain ⟨r, o, rfl, hr⟩ := hx.get h
        obtain ⟨q, o2, rfl, hq⟩ := hy.get (i := i) (by omega)
        simp -implicitDefEqProofs only [↓dops_cons, ↓g_move, ↓g_indexAddr, Try.underlying22, Nat.reduceLT, ev_tab, ne_eq, reduceCtorEq, not_false_eq_true, upd_ne, a3, Nat.reduceEqDiff, a5, upd_eq, adr_sl, k2, k1, cells3, tyOk3, and_self, Int.toNat_natCast, Nat.mul_one, Nat.zero_add, if_true, ↓g_load, a4, k3, ↓g_binOp, ↓dops_p, ↓w_cond, ↓w_seq, ↓w_region, ↓ops_cons, ↓g_assign, ↓ops_nil, ↓w_ret, ev_const, of_bool, ret_one, and_true, ↓w_skip, of_int, b_add, onS_some, rd_def, agg3, hq, rd_ints, k4, hr, h, b_neq, onB_not, onB_dec]
        refine ⟨pairs_cons (same_H rfl) (pairs_cons (same_H rfl) pairs_nil), ?_⟩
        by_cases q : l.getD i 0 = m.getD i 0
        · have e1 : IntKind.i64.wrap ((i : Int) + 1) = i + 1 := w64 (by omega) (by omega)
          simp -implicitDefEqProofs only [q, decide_true, Bool.not_true, e1, if_true]
          refine ⟨i + 1, by omega, _, rfl, by omega, ?_, ?_, ?_, ?_⟩
          · intro j hj
            rcases Nat.lt_or_ge j i with hj2 | hj2
            · exact a2 j hj2
            · have : j = i := by omega
              subst this; exact q
          · simp -implicitDefEqProofs only [ne_eq, reduceCtorEq, not_false_eq_true, upd_ne, a3]
          · simp -implicitDefEqProofs only [ne_eq, Nat.reduceEqDiff, not_false_eq_true, upd_ne, a4]
          · simp -implicitDefEqProofs only [upd_eq] <;> rfl
        · have hne : l ≠ m := fun h => q (by rw [h])
          simp -implicitDefEqProofs only [q, decide_false, Bool.not_false, hne, if_false]
      · have k1 : ¬ (i : Int) < l.length := by omega
        have heq : l = m := by
          apply List.ext_getElem e0
          intro j h1 h2
          have := a2 j (by omega)
          simpa [h1, h2] using this
        have hd : decide (l = m) = true := by simp [heq]
        rw [hd]
        simp -implicitDefEqProofs only [↓w_seq, ↓w_region, ↓ops_cons, ↓g_move, ↓g_len, Try.underlying22, Nat.reduceLT, ev_tab, a5, ne_eq, reduceCtorEq, not_false_eq_true, upd_ne, a3, upd_eq, lx, ↓g_binOp, Nat.reduceEqDiff, ↓ops_nil, ↓w_cond, ↓w_skip, ↓w_block, ↓w_exit, ↓g_assign, ↓w_ret, ev_const, of_bool, ret_one, and_self, if_true, onS_some, b_lss, k1, decide_false, onB_false]
    · refine ⟨_, rfl, by omega, ?_, ?_, ?_, ?_⟩
      · intro j hj; omega
      · simp -implicitDefEqProofs only [ne_eq, reduceCtorEq, not_false_eq_true, upd_ne, par0]
      · simp -implicitDefEqProofs only [ne_eq, Nat.reduceEqDiff, not_false_eq_true, upd_ne, par1]
      · simp -implicitDefEqProofs only [upd_eq, Int.cast_ofNat_Int] <;> rfl
  · have hne : l ≠ m := fun h => e (by rw [h])
    rw [if_neg e]
    simp -implicitDefEqProofs only [hne, decide_false]
theorem sameIntsT {H : AHeap} {x y : AV} {l : List Int} (hx : IsL H x .i64 l) (hy : IsL H y .i64 l) (hl : l.length ≤ 1000000000000) : Sound Try.prog 36 [x, y] H (.sc (.bool true)) H := by
  have := sameIntsS hx hy hl hl
  rwa [decide_eq_true rfl] at this
end Go.Proofs.Ytcjjcpdfnndenaa.Sim
namespace Go.Proofs.Ytcjjcpdfnndenaa.Sim
open Go
set_option maxRecDepth 100000
set_option maxHeartbeats 4000000
set_option linter.unusedSimpArgs false
set_option linter.unusedVariables false
theorem bigS {H : AHeap} {x : AV} {L : List Int} (hx : IsL H x .u8 L) : Sound Try.prog 33 [x] H (.sc (.bool (decide ((1048576 : Int) < L.length)))) H := by
  refine Sound.run 6 [.tmp 2] Try.func33 rfl rfl rfl rfl (by simp) ?_
  have lx := fun e => hx.len e
  simp -implicitDefEqProofs only [↓w_seq, ↓w_region, ↓ops_cons, ↓g_assign, ↓ops_nil, ev_const, of_bool, ↓g_move, ↓g_len, Try.underlying46, Nat.reduceLT, ev_tab, ne_eq, reduceCtorEq, not_false_eq_true, upd_ne, par0, upd_eq, lx, ↓g_binOp, of_int, ↓w_ret, ret_one, and_true, onS_some, b_gtr]
theorem bigNo {L : List Int} (h : L.length ≤ 1048576) : decide ((1048576 : Int) < L.length) = false := decide_eq_false (by omega)
theorem bigYes {L : List Int} (h : ¬ L.length ≤ 1048576) : decide ((1048576 : Int) < L.length) = true := decide_eq_true (by omega)
end Go.Proofs.Ytcjjcpdfnndenaa.Sim
namespace Go.Proofs.Ytcjjcpdfnndenaa.Sim
open Go
set_option maxRecDepth 100000
set_option maxHeartbeats 4000000
set_option linter.unusedSimpArgs false
set_option linter.unusedVariables false
end Go.Proofs.Ytcjjcpdfnndenaa.Sim
namespace Go.Proofs.Ytcjjcpdfnndenaa.Sim
open Go
set_option maxRecDepth 100000
set_option maxHeartbeats 4000000
set_option linter.unusedSimpArgs false
set_option linter.unusedVariables false
theorem drawSpoilt {H : AHeap} {r : Nat} {x : AV} {L : List Int} (c : Cur H r x L) (hL : L.length ≤ 4000000) (z : ByteArray) (hz : z.size ≤ 100000) : ∃ (u : ByteArray) (Z : AHeap), u.size ≤ z.size + 1 ∧ Sound Try.prog 66 [.ptr r 0, .sc (.string z)] H (.sc (.string u)) Z ∧ Dr r x H Z := by
  suffices h : ∃ v Z, Sound Try.prog 66 [.ptr r 0, .sc (.string z)] H v Z ∧ ∃ u : ByteArray, u.size ≤ z.size + 1 ∧ v = .sc (.string u) ∧ Dr r x H Z by
    obtain ⟨v, Z, h1, n, h2, rfl, h3⟩ := h
    exact ⟨n, Z, h2, h1, h3⟩
  refine Sound.runP (args := [.ptr r 0, .sc (.string z)]) 45 [.tmp 4] Try.func66 rfl rfl rfl rfl (by simp) (fun v Z => ∃ u : ByteArray, u.size ≤ z.size + 1 ∧ v = .sc (.string u) ∧ Dr r x H Z) ?_
  obtain ⟨j, Z1, j1, j2, j3⟩ := drawBelow c hL 12 (by omega) (by omega)
  have c1 := c.dr j3
  by_cases h0 : (j : Int) = 0
  · obtain ⟨t, Z2, t1, t2, t3⟩ := drawText c1 hL 1 (by omega)
    have hb : z.size + t.size ≤ 9223372036854775807 := by omega
    simp -implicitDefEqProofs only [↓w_seq, ↓w_region, ↓ops_cons, ↓g_assign, ↓ops_nil, ev_const, of_str, ↓g_move, Nat.reduceLT, ev_tab, ne_eq, reduceCtorEq, not_false_eq_true, upd_ne, par0]
    refine call1S (by simp -implicitDefEqProofs only [List.map_cons, Nat.reduceLT, ev_tab, upd_eq, ev_const, of_int, List.map_nil, Int.cast_ofNat_Int] <;> rfl) j2 ?_
    simp -implicitDefEqProofs only [↓ops_nil, ↓w_block, ↓w_seq, ↓w_region, h0, ↓ops_cons, ↓g_binOp, Nat.reduceLT, ev_tab, upd_eq, ev_const, of_int, b_eql, decide_true, ↓g_assign, ↓w_cond, ↓g_move, ne_eq, Nat.reduceEqDiff, not_false_eq_true, upd_ne, par1, reduceCtorEq, par0, Int.reduceEq, decide_false, ↓g_len, Try.underlying9, len_str, onS_some, b_add, ↓w_skip, ↓w_ret, retP_1, res_tmp, b_gtr, onB_dec, onB_false, onB_true]
    refine call1S (by simp -implicitDefEqProofs only [List.map_cons, Nat.reduceLT, ev_tab, upd_eq, ev_const, of_int, List.map_nil, Int.cast_ofNat_Int] <;> rfl) t2 ?_
    simp -implicitDefEqProofs only [↓ops_cons, ↓g_binOp, Nat.reduceLT, ev_tab, ne_eq, Nat.reduceEqDiff, not_false_eq_true, upd_ne, upd_eq, t_add, hb, if_true, ↓g_assign, ↓ops_nil, ↓w_ret, retP_1, res_tmp, onS_some]
    exact ⟨_, by rw [ByteArray.size_append]; omega, rfl, j3.trans t3⟩
  · by_cases h1 : (j : Int) = 1
    · obtain ⟨k, Z2, k1, k2, k3⟩ := drawBelow c1 hL (z.size + 1) (by omega) (by omega)
      have e1 : IntKind.i64.wrap ((z.size : Int) + 1) = ((z.size + 1 : Nat) : Int) := by rw [w64 (by omega) (by omega)]; omega
      have q1 : (0 : Int) ≤ (k : Int) := by omega
      have q2 : k ≤ z.size := by omega
      simp -implicitDefEqProofs only [↓w_seq, ↓w_region, ↓ops_cons, ↓g_assign, ↓ops_nil, ev_const, of_str, ↓g_move, Nat.reduceLT, ev_tab, ne_eq, reduceCtorEq, not_false_eq_true, upd_ne, par0]
      refine call1S (by simp -implicitDefEqProofs only [List.map_cons, Nat.reduceLT, ev_tab, upd_eq, ev_const, of_int, List.map_nil, Int.cast_ofNat_Int] <;> rfl) j2 ?_
      simp -implicitDefEqProofs only [↓ops_nil, ↓w_block, ↓w_seq, ↓w_region, h1, ↓ops_cons, ↓g_binOp, Nat.reduceLT, ev_tab, upd_eq, ev_const, of_int, b_eql, Int.reduceEq, decide_false, ↓g_assign, ↓w_cond, ↓g_move, ne_eq, Nat.reduceEqDiff, not_false_eq_true, upd_ne, par1, reduceCtorEq, par0, decide_true, ↓g_len, Try.underlying9, len_str, onS_some, b_add, e1, ↓w_skip, ↓w_ret, retP_1, res_tmp, b_gtr, onB_dec, onB_false, onB_true]
      refine call1S (by simp -implicitDefEqProofs only [List.map_cons, Nat.reduceLT, ev_tab, ne_eq, Nat.reduceEqDiff, not_false_eq_true, upd_ne, upd_eq, List.map_nil] <;> rfl) k2 ?_
      simp -implicitDefEqProofs only [↓ops_cons, ↓g_slice, Try.underlying9, Nat.reduceLT, ev_tab, ne_eq, Nat.reduceEqDiff, not_false_eq_true, upd_ne, upd_eq, Option.map_none, Option.map_some, cut_str, bnd_none, bnd_int, q1, Int.toNat_natCast, if_true, cutS_some, Nat.zero_le, q2, and_self, ↓g_assign, ↓ops_nil, ↓w_ret, retP_1, res_tmp, onS_some]
      exact ⟨_, by rw [ByteArray.size_extract]; omega, rfl, j3.trans k3⟩
    · by_cases h23 : (j : Int) = 2 ∨ (j : Int) = 3
      · by_cases hs : 0 < z.size
        · obtain ⟨k, Z2, k1, k2, k3⟩ := drawBelow c1 hL z.size hs (by omega)
          obtain ⟨t, Z3, t1, t2, t3⟩ := drawText (c1.dr k3) hL 1 (by omega)
          have hs2 : (0 : Int) < z.size := by omega
          have e1 : IntKind.i64.wrap ((k : Int) + 1) = ((k + 1 : Nat) : Int) := by rw [w64 (by omega) (by omega)]; omega
          have q1 : (0 : Int) ≤ (k : Int) := by omega
          have q2 : k ≤ z.size := by omega
          have q3 : (0 : Int) ≤ ((k + 1 : Nat) : Int) := by omega
          have q4 : k + 1 ≤ z.size := by omega
          have q5 : (z.extract 0 k).size = k := by rw [ByteArray.size_extract]; omega
          have q6 : (z.extract (k + 1) z.size).size = z.size - (k + 1) := by rw [ByteArray.size_extract]; omega
          have q7 : k + 1 ≤ 9223372036854775807 := by omega
          have q8 : (z.extract 0 k ++ t).size = k + 1 := by rw [ByteArray.size_append, q5, t1]
          have q9 : k + 1 + (z.size - (k + 1)) ≤ 9223372036854775807 := by omega
          have res : ∃ u : ByteArray, u.size ≤ z.size + 1 ∧ AV.sc (.string ((z.extract 0 k ++ t) ++ z.extract (k + 1) z.size)) = AV.sc (.string u) ∧ Dr r x H Z3 := ⟨_, by rw [ByteArray.size_append, q8, q6]; omega, rfl, (j3.trans k3).trans t3⟩
          rcases h23 with h2 | h3
          · simp -implicitDefEqProofs only [↓w_seq, ↓w_region, ↓ops_cons, ↓g_assign, ↓ops_nil, ev_const, of_str, ↓g_move, Nat.reduceLT, ev_tab, ne_eq, reduceCtorEq, not_false_eq_true, upd_ne, par0]
            refine call1S (by simp -implicitDefEqProofs only [List.map_cons, Nat.reduceLT, ev_tab, upd_eq, ev_const, of_int, List.map_nil, Int.cast_ofNat_Int] <;> rfl) j2 ?_
            simp -implicitDefEqProofs only [↓ops_nil, ↓w_block, ↓w_seq, ↓w_region, h2, ↓ops_cons, ↓g_binOp, Nat.reduceLT, ev_tab, upd_eq, ev_const, of_int, b_eql, Int.reduceEq, decide_false, ↓g_assign, ↓w_cond, ↓g_move, ne_eq, Nat.reduceEqDiff, not_false_eq_true, upd_ne, par1, reduceCtorEq, par0, ↓g_len, Try.underlying9, len_str, onS_some, b_add, decide_true, ↓w_skip, ↓w_ret, retP_1, res_tmp, b_gtr, hs2, onB_true, onB_false]
            refine call1S (by simp -implicitDefEqProofs only [List.map_cons, Nat.reduceLT, ev_tab, ne_eq, Nat.reduceEqDiff, not_false_eq_true, upd_ne, upd_eq, List.map_nil] <;> rfl) k2 ?_
            simp -implicitDefEqProofs only [↓ops_cons, ↓g_assign, ↓ops_nil, ↓w_seq, Nat.reduceLT, ev_tab, upd_eq]
            refine drawn [] follows (by kernel_rfl) (by kernel_rfl) ?_
            simp -implicitDefEqProofs only [↓dops_cons, ↓g_move, ↓g_slice, Try.underlying9, Nat.reduceLT, ev_tab, ne_eq, Nat.reduceEqDiff, not_false_eq_true, upd_ne, par1, upd_eq, Option.map_none, Option.map_some, cut_str, bnd_none, bnd_int, q1, Int.toNat_natCast, if_true, cutS_some, Nat.zero_le, q2, and_self, reduceCtorEq, par0, onS_some]
            refine call1S (by simp -implicitDefEqProofs only [List.map_cons, Nat.reduceLT, ev_tab, upd_eq, ev_const, of_int, List.map_nil, Int.cast_ofNat_Int] <;> rfl) t2 ?_
            simp -implicitDefEqProofs only [↓dops_cons, ↓g_binOp, Nat.reduceLT, ev_tab, ne_eq, Nat.reduceEqDiff, not_false_eq_true, upd_ne, upd_eq, t_add, q5, t1, q7, if_true, ↓g_move, par1, ev_const, of_int, b_add, e1, ↓g_slice, Try.underlying9, Option.map_some, Option.map_none, cut_str, bnd_none, ↓g_assign, ↓dops_0, ↓w_ret, retP_1, res_tmp, onS_some, bnd_int, q3, Int.toNat_natCast, cutS_some, q4, Nat.le_refl, and_self, q8, q6, q9]
            exact res
          · have h2 : ¬ (j : Int) = 2 := by omega
            simp -implicitDefEqProofs only [↓w_seq, ↓w_region, ↓ops_cons, ↓g_assign, ↓ops_nil, ev_const, of_str, ↓g_move, Nat.reduceLT, ev_tab, ne_eq, reduceCtorEq, not_false_eq_true, upd_ne, par0]
            refine call1S (by simp -implicitDefEqProofs only [List.map_cons, Nat.reduceLT, ev_tab, upd_eq, ev_const, of_int, List.map_nil, Int.cast_ofNat_Int] <;> rfl) j2 ?_
            simp -implicitDefEqProofs only [↓ops_nil, ↓w_block, ↓w_seq, ↓w_region, h3, ↓ops_cons, ↓g_binOp, Nat.reduceLT, ev_tab, upd_eq, ev_const, of_int, b_eql, Int.reduceEq, decide_false, ↓g_assign, ↓w_cond, ↓g_move, ne_eq, Nat.reduceEqDiff, not_false_eq_true, upd_ne, par1, reduceCtorEq, par0, ↓g_len, Try.underlying9, len_str, onS_some, b_add, ↓w_skip, ↓w_ret, retP_1, res_tmp, b_gtr, hs2, decide_true, onB_true, onB_false]
            refine call1S (by simp -implicitDefEqProofs only [List.map_cons, Nat.reduceLT, ev_tab, ne_eq, Nat.reduceEqDiff, not_false_eq_true, upd_ne, upd_eq, List.map_nil] <;> rfl) k2 ?_
            simp -implicitDefEqProofs only [↓ops_cons, ↓g_assign, ↓ops_nil, ↓w_seq, Nat.reduceLT, ev_tab, upd_eq]
            refine drawn [] follows (by kernel_rfl) (by kernel_rfl) ?_
            simp -implicitDefEqProofs only [↓dops_cons, ↓g_move, ↓g_slice, Try.underlying9, Nat.reduceLT, ev_tab, ne_eq, Nat.reduceEqDiff, not_false_eq_true, upd_ne, par1, upd_eq, Option.map_none, Option.map_some, cut_str, bnd_none, bnd_int, q1, Int.toNat_natCast, if_true, cutS_some, Nat.zero_le, q2, and_self, reduceCtorEq, par0, onS_some]
            refine call1S (by simp -implicitDefEqProofs only [List.map_cons, Nat.reduceLT, ev_tab, upd_eq, ev_const, of_int, List.map_nil, Int.cast_ofNat_Int] <;> rfl) t2 ?_
            simp -implicitDefEqProofs only [↓dops_cons, ↓g_binOp, Nat.reduceLT, ev_tab, ne_eq, Nat.reduceEqDiff, not_false_eq_true, upd_ne, upd_eq, t_add, q5, t1, q7, if_true, ↓g_move, par1, ev_const, of_int, b_add, e1, ↓g_slice, Try.underlying9, Option.map_some, Option.map_none, cut_str, bnd_none, ↓g_assign, ↓dops_0, ↓w_ret, retP_1, res_tmp, onS_some, bnd_int, q3, Int.toNat_natCast, cutS_some, q4, Nat.le_refl, and_self, q8, q6, q9]
            exact res
        · have hs2 : ¬ (0 : Int) < z.size := by omega
          rcases h23 with h2 | h3
          · simp -implicitDefEqProofs only [↓w_seq, ↓w_region, ↓ops_cons, ↓g_assign, ↓ops_nil, ev_const, of_str, ↓g_move, Nat.reduceLT, ev_tab, ne_eq, reduceCtorEq, not_false_eq_true, upd_ne, par0]
            refine call1S (by simp -implicitDefEqProofs only [List.map_cons, Nat.reduceLT, ev_tab, upd_eq, ev_const, of_int, List.map_nil, Int.cast_ofNat_Int] <;> rfl) j2 ?_
            simp -implicitDefEqProofs only [↓ops_nil, ↓w_block, ↓w_seq, ↓w_region, h2, ↓ops_cons, ↓g_binOp, Nat.reduceLT, ev_tab, upd_eq, ev_const, of_int, b_eql, Int.reduceEq, decide_false, ↓g_assign, ↓w_cond, ↓g_move, ne_eq, Nat.reduceEqDiff, not_false_eq_true, upd_ne, par1, reduceCtorEq, par0, ↓g_len, Try.underlying9, len_str, onS_some, b_add, decide_true, ↓w_skip, ↓w_ret, retP_1, res_tmp, b_gtr, hs2, onB_false, onB_true]
            exact ⟨z, by omega, rfl, j3⟩
          · have h2 : ¬ (j : Int) = 2 := by omega
            simp -implicitDefEqProofs only [↓w_seq, ↓w_region, ↓ops_cons, ↓g_assign, ↓ops_nil, ev_const, of_str, ↓g_move, Nat.reduceLT, ev_tab, ne_eq, reduceCtorEq, not_false_eq_true, upd_ne, par0]
            refine call1S (by simp -implicitDefEqProofs only [List.map_cons, Nat.reduceLT, ev_tab, upd_eq, ev_const, of_int, List.map_nil, Int.cast_ofNat_Int] <;> rfl) j2 ?_
            simp -implicitDefEqProofs only [↓ops_nil, ↓w_block, ↓w_seq, ↓w_region, h3, ↓ops_cons, ↓g_binOp, Nat.reduceLT, ev_tab, upd_eq, ev_const, of_int, b_eql, Int.reduceEq, decide_false, ↓g_assign, ↓w_cond, ↓g_move, ne_eq, Nat.reduceEqDiff, not_false_eq_true, upd_ne, par1, reduceCtorEq, par0, ↓g_len, Try.underlying9, len_str, onS_some, b_add, ↓w_skip, ↓w_ret, retP_1, res_tmp, b_gtr, hs2, onB_false, decide_true, onB_true]
            exact ⟨z, by omega, rfl, j3⟩
      · have h2 : ¬ (j : Int) = 2 := fun h => h23 (.inl h)
        have h3 : ¬ (j : Int) = 3 := fun h => h23 (.inr h)
        simp -implicitDefEqProofs only [↓w_seq, ↓w_region, ↓ops_cons, ↓g_assign, ↓ops_nil, ev_const, of_str, ↓g_move, Nat.reduceLT, ev_tab, ne_eq, reduceCtorEq, not_false_eq_true, upd_ne, par0]
        refine call1S (by simp -implicitDefEqProofs only [List.map_cons, Nat.reduceLT, ev_tab, upd_eq, ev_const, of_int, List.map_nil, Int.cast_ofNat_Int] <;> rfl) j2 ?_
        simp -implicitDefEqProofs only [↓ops_nil, ↓w_block, ↓w_seq, ↓w_region, ↓ops_cons, ↓g_binOp, Nat.reduceLT, ev_tab, upd_eq, ev_const, of_int, b_eql, h0, decide_false, ↓g_assign, ↓w_cond, ↓g_move, ne_eq, Nat.reduceEqDiff, not_false_eq_true, upd_ne, par1, reduceCtorEq, par0, h1, ↓g_len, Try.underlying9, len_str, onS_some, b_add, h2, ↓w_skip, ↓w_ret, retP_1, res_tmp, b_gtr, onB_dec, h3, onB_false]
        exact ⟨z, by omega, rfl, j3⟩
end Go.Proofs.Ytcjjcpdfnndenaa.Sim
namespace Go.Proofs.Ytcjjcpdfnndenaa.Sim
open Go
set_option maxRecDepth 100000
set_option maxHeartbeats 40000000
set_option linter.unusedSimpArgs false
set_option linter.unusedVariables false
theorem drawAny {H : AHeap} {r : Nat} {x : AV} {L : List Int} (c : Cur H r x L) (hL : L.length ≤ 4000000) : ∃ (s g : List Int) (t : Int) (X Y : AV) (Z : AHeap), s.length ≤ 7 ∧ g.length ≤ 7 ∧ Sound Try.prog 64 [.ptr r 0] H (flt X Y t) Z ∧ Dr r x H Z ∧ IsL Z X .i64 s ∧ IsL Z Y .i64 g := by
  suffices h : ∃ w Z, Sound Try.prog 64 [.ptr r 0] H w Z ∧ ∃ (s g : List Int) (t : Int) (X Y : AV), s.length ≤ 7 ∧ g.length ≤ 7 ∧ w = .agg [X, Y, .sc (.int .i64 t)] ∧ Dr r x H Z ∧ IsL Z X .i64 s ∧ IsL Z Y .i64 g by
    obtain ⟨w, Z, h1, s, g, t, X, Y, h2, h3, rfl, h4⟩ := h
    exact ⟨s, g, t, X, Y, Z, h2, h3, h1, h4⟩
  refine Sound.runP (args := [.ptr r 0]) 31 [.cell 2 32] Try.func64 rfl rfl rfl rfl (by simp) (fun w Z => ∃ (s g : List Int) (t : Int) (X Y : AV), s.length ≤ 7 ∧ g.length ≤ 7 ∧ w = .agg [X, Y, .sc (.int .i64 t)] ∧ Dr r x H Z ∧ IsL Z X .i64 s ∧ IsL Z Y .i64 g) ?_
  have hr := c.lt
  obtain ⟨B, hB⟩ : ∃ B : Reg, B = ⟨[.sc (.slice none 0 0), .sc (.slice none 0 0), .sc (.int .i64 0)], true, true⟩ := ⟨_, rfl⟩
  have c0 := c.app [B]
  have b0 : (H ++ [B])[H.length]? = some ⟨[.sc (.slice none 0 0), .sc (.slice none 0 0), .sc (.int .i64 0)], true, true⟩ := by rw [← hB]; exact hap_0 H [B]
  have l0 : (H ++ [B]).length = H.length + 1 := by rw [List.length_append]; rfl
  obtain ⟨j, Z0, j1, j2, j3⟩ := drawBelow c0 hL 8 (by omega) (by omega)
  have cZ := c0.dr j3
  obtain ⟨s, g, t, p, v, Z1, ⟨us, s6, ⟨gl, hg0⟩, tt⟩, a1, a2, a3, a4, a5, a6⟩ := drawFl cZ hL
  have g6 : g.length ≤ 6 := by rw [hg0]; exact Nat.le_trans (ackL_len _ _ _) s6
  have dA : Dr r x H Z1 := (j3.trans a2).app
  have z1 : H.length + 1 ≤ Z0.length := by have := j3.1; omega
  have z2 : p < Z1.length := at_lt a4
  have b1 := ((j3.trans a2).2.1 H.length (by omega) (by omega)).trans b0
  have v0 := a5.isL.one
  obtain ⟨C, hC⟩ : ∃ C : Reg, C = ⟨[.sl p 0 s.length 1, v, .sc (.int .i64 t)], true, true⟩ := ⟨_, rfl⟩
  have dB := dA.more hr [C]
  have cB := (cZ.dr a2).app [C]
  have xB := Ext.more Z1 [C]
  have w1 : (Z1 ++ [C])[Z1.length]? = some ⟨[.sl p 0 s.length 1, v, .sc (.int .i64 t)], true, true⟩ := by rw [← hC]; exact hap_0 Z1 [C]
  have b2 := xB.at b1
  have p2 := xB.at a4
  have v2 := a5.ext xB
  have n1 : (Z1 ++ [C]).length = Z1.length + 1 := by rw [List.length_append]; rfl
  have z3 : H.length < Z1.length := by omega
  unfold flt at a1
  simp -implicitDefEqProofs only [↓w_seq, ↓w_region, Int.reduceNeg, ↓ops_cons, ↓g_alloc, zero32, Option.map_some, ↓ops_nil, ↓g_move, Nat.reduceLT, ev_tab, ne_eq, reduceCtorEq, not_false_eq_true, upd_ne, par0, alK_some, List.all_cons, one_nil, one_int, List.all_nil, Bool.and_self, true_and]
  rw [← hB]
  refine call1S (by simp -implicitDefEqProofs only [List.map_cons, Nat.reduceLT, ev_tab, upd_eq, ev_const, of_int, List.map_nil, Int.cast_ofNat_Int] <;> rfl) j2 ?_
  simp -implicitDefEqProofs only [↓ops_cons, ↓g_assign, ↓ops_nil, ↓w_seq, ↓w_region, Int.reduceNeg, Nat.reduceLT, ev_tab, upd_eq, ↓g_move, ne_eq, reduceCtorEq, not_false_eq_true, upd_ne, par0]
  refine call1S (by simp -implicitDefEqProofs only [List.map_cons, Nat.reduceLT, ev_tab, upd_eq, List.map_nil] <;> rfl) a1 ?_
  simp -implicitDefEqProofs only [↓ops_cons, ↓g_alloc, zero32, Option.map_some, ↓g_store, Nat.reduceLT, ev_tab, upd_eq, ne_eq, Nat.reduceEqDiff, not_false_eq_true, upd_ne, ↓ops_nil, ↓w_seq, ↓w_region, Int.reduceNeg, ↓g_move, ↓w_block, ↓g_binOp, ev_const, of_int, b_eql, ↓g_assign, ↓w_cond, ↓g_fieldAddrT, ↓g_load, ↓g_buildSlice, Try.underlying22, List.map_cons, List.map_nil, bs3_1, ↓g_append, wr_def, tyOk32, cells32, ↓w_ret, retP_1, res_cell, rd_def, agg32, alK_some, ints_one, true_and, reduceCtorEq, par0, bs3_2, ↓w_skip, onS_some, onB_dec, List.all_cons, one_nil, one_int, List.all_nil, Bool.and_self, hap_0, List.getElem?_cons_zero, wr_c, cells_agg, List.length_cons, List.length_nil, Nat.zero_add, Nat.reduceAdd, Nat.le_refl, one_sl, v0, and_self, ovr_fm, ovr_fn, hset_0, List.set_cons_zero, if_true, fadr32_1, tyOk22, cells22, agg22, fadr32_0, rd_onec, List.getElem?_cons_succ, List.length_append, apS22, src_sl, at_b, at_ints, List.drop_zero, List.take_succ_cons, List.take_zero, rd_aggc]
  rw [← hC]
  clear hB hC b0 c0 xB b1 a4 a5 a1 a2 j2 j3
  generalize Z1 ++ [C] = Y at *
  have w4 : ∀ G : AHeap, (Y ++ G)[Z1.length]? = some ⟨[.sl p 0 s.length 1, v, .sc (.int .i64 t)], true, true⟩ := fun G => (at_more _ _ _ (by omega)).trans w1
  have b4 : ∀ G : AHeap, (Y ++ G)[H.length]? = some ⟨[.sc (.slice none 0 0), .sc (.slice none 0 0), .sc (.int .i64 0)], true, true⟩ := fun G => (at_more _ _ _ (by omega)).trans b2
  have ws : ∀ (G : AHeap) (g : Reg), Z1.length < G.length → (G.set Z1.length g)[Z1.length]? = some g := fun G g h => List.getElem?_set_self h
  have wa : ∀ (G : AHeap) (g : Reg), (G.set Z1.length g)[H.length]? = G[H.length]? := fun G g => List.getElem?_set_ne (by omega)
  have y0 : ∀ G : AHeap, (Y ++ G)[Z1.length + 1]? = G[0]? := fun G => by rw [← n1]; exact hap_0 Y G
  have y1 : ∀ G : AHeap, (Y ++ G)[Z1.length + 1 + 1]? = G[1]? := fun G => by rw [← n1]; exact hap_k Y G 1
  have hp : ∀ G : AHeap, (Y ++ G)[p]? = some ⟨ints .i64 s, true, true⟩ := fun G => (at_more _ _ _ (by omega)).trans p2
  by_cases j0 : (j : Int) = 0
  · rcases v2 with ⟨rfl, hv⟩ | ⟨q, rfl, hq⟩
    · subst hv
      simp -implicitDefEqProofs only [j0, apN22, src_sl, y0, List.getElem?_cons_zero, at_ints, Nat.zero_add, List.length_cons, List.length_nil, Nat.le_refl, List.drop_zero, List.take_succ_cons, List.take_zero, if_true, ap_intsN, Nat.reduceMul, Nat.reduceLeDiff, and_self, reduceCtorEq, List.length_append, n1, List.append_assoc, List.cons_append, List.nil_append, if_false, onS_some, w4, wr_c, cells_sl, Nat.reduceAdd, List.all_cons, one_sl, List.all_nil, Bool.and_self, over_s, ovr_fm, ovr_fn, Int.reduceEq, Int.reduceNeg, decide_true, decide_false]
      rw [ws _ _ (by rw [List.length_append]; omega)]
      simp -implicitDefEqProofs only [rd_aggc, Nat.zero_add, List.length_cons, List.length_nil, Nat.reduceAdd, Nat.le_refl, List.drop_zero, List.take_succ_cons, List.take_zero, if_true, wa, b4, wr_c, true_and, onS_ite, onS_some, cells_agg, List.all_cons, one_sl, one_int, List.all_nil, Bool.and_self, and_self, ovr_fm, ovr_fn]
      rw [List.getElem?_set_self (by rw [List.length_set, List.length_append]; omega)]
      simp -implicitDefEqProofs only [rd_aggc, Nat.zero_add, List.length_cons, List.length_nil, Nat.reduceAdd, Nat.le_refl, List.drop_zero, List.take_succ_cons, List.take_zero, if_true, onS_some]
      refine ⟨s, [77], t, _, _, by omega, by simp, rfl, (((dB.more hr _).setHi hr (by omega) _).setHi hr (by omega) _), .at (own := true) ?_ rfl, .at (own := true) ?_ rfl⟩
      · rw [List.getElem?_set_ne (by omega), List.getElem?_set_ne (by omega)]; exact hp _
      · rw [List.getElem?_set_ne (by omega), List.getElem?_set_ne (by omega)]; exact y1 _
    · have hqp := a6 _ _ _ _ rfl
      have hql := at_lt hq
      have hqz : q < Z1.length := by
        rcases Nat.lt_or_ge q Z1.length with h | h
        · exact h
        · have : q = Z1.length := by omega
          subst this
          rw [w1] at hq
          injection hq with hq
          injection hq with hq
          revert hq
          cases g <;> simp [ints]
      have hq2 : ∀ G : AHeap, (Y ++ G)[q]? = some ⟨ints .i64 g, true, true⟩ := fun G => (at_more _ _ _ hql).trans hq
      have gt : g.take g.length = g := List.take_length
      have k1 : (g.length + 1) * 8 ≤ 140737488355328 := by omega
      have k2 : g.length + 1 ≤ 140737488355328 := by omega
      have kw : ∀ (F G : AHeap) (i : Nat), i ≠ q → i < Y.length → (killReg (Y ++ F) q ++ G)[i]? = Y[i]? := fun F G i h1 h2 => (at_more _ _ _ (by rw [kill_len, List.length_append]; omega)).trans ((kill_at _ _ _ h1).trans (at_more _ _ _ h2))
      have kl : ∀ F : AHeap, (killReg (Y ++ F) q).length = Y.length + F.length := fun F => by rw [kill_len, List.length_append]
      have w6 := fun F G => (kw F G Z1.length (by omega) (by omega)).trans w1
      have b6 := fun F G => (kw F G H.length (by omega) (by omega)).trans b2
      simp -implicitDefEqProofs only [j0, apS22, hq2, src_sl, y0, List.getElem?_cons_zero, at_ints, Nat.zero_add, List.length_cons, List.length_nil, Nat.le_refl, List.drop_zero, List.take_succ_cons, List.take_zero, if_true, ap_ints, k1, k2, and_self, List.length_append, n1, List.take_length, onS_some, w6, wr_c, cells_sl, Nat.reduceAdd, Nat.reduceLeDiff, List.all_cons, one_sl, List.all_nil, Bool.and_self, over_s, ovr_fm, ovr_fn, Int.reduceEq, Int.reduceNeg, decide_true, decide_false, if_false]
      rw [ws _ _ (by rw [List.length_append, kl]; omega)]
      simp -implicitDefEqProofs only [rd_aggc, Nat.zero_add, List.length_cons, List.length_nil, Nat.reduceAdd, Nat.le_refl, List.drop_zero, List.take_succ_cons, List.take_zero, if_true, wa, b6, wr_c, true_and, onS_ite, onS_some, cells_agg, List.all_cons, one_sl, one_int, List.all_nil, Bool.and_self, and_self, ovr_fm, ovr_fn]
      rw [List.getElem?_set_self (by rw [List.length_set, List.length_append, kl]; omega)]
      simp -implicitDefEqProofs only [rd_aggc, Nat.zero_add, List.length_cons, List.length_nil, Nat.reduceAdd, Nat.le_refl, List.drop_zero, List.take_succ_cons, List.take_zero, if_true, onS_some]
      refine ⟨s, g ++ [77], t, _, _, by omega, by simp; omega, rfl, ((((dB.more hr _).kill (by omega) hr).more hr _).setHi hr (by omega) _).setHi hr (by omega) _, .at (own := true) ?_ rfl, .at (own := true) ?_ (by simp)⟩
      · rw [List.getElem?_set_ne (by omega), List.getElem?_set_ne (by omega), kw _ _ _ (by omega) (by omega)]; exact p2
      · rw [List.getElem?_set_ne (by omega), List.getElem?_set_ne (by omega)]
        have := at_end (killReg (Y ++ [⟨ints .i64 [77], true, true⟩]) q) ⟨ints .i64 (g ++ [77]), true, true⟩
        rw [kl, n1] at this
        exact this
  by_cases j1 : (j : Int) = 1
  · have st : s.take s.length = s := List.take_length
    have k1 : (s.length + 1) * 8 ≤ 140737488355328 := by omega
    have k2 : s.length + 1 ≤ 140737488355328 := by omega
    have kw : ∀ (F G : AHeap) (i : Nat), i ≠ p → i < Y.length → (killReg (Y ++ F) p ++ G)[i]? = Y[i]? := fun F G i h1 h2 => (at_more _ _ _ (by rw [kill_len, List.length_append]; omega)).trans ((kill_at _ _ _ h1).trans (at_more _ _ _ h2))
    have kl : ∀ F : AHeap, (killReg (Y ++ F) p).length = Y.length + F.length := fun F => by rw [kill_len, List.length_append]
    have w6 := fun F G => (kw F G Z1.length (by omega) (by omega)).trans w1
    have b6 := fun F G => (kw F G H.length (by omega) (by omega)).trans b2
    simp -implicitDefEqProofs only [j1, Int.reduceEq, hp, ap_ints, Nat.le_refl, List.length_cons, List.length_nil, Nat.zero_add, k1, k2, and_self, List.length_append, n1, List.take_length, if_true, onS_some, w6, wr_c, cells_sl, Nat.reduceAdd, Nat.reduceLeDiff, List.all_cons, one_sl, List.all_nil, Bool.and_self, ovr_fm, ovr_fn, Int.reduceNeg, decide_false, decide_true, if_false]
    rw [ws _ _ (by rw [List.length_append, kl]; omega)]
    simp -implicitDefEqProofs only [rd_aggc, Nat.zero_add, List.length_cons, List.length_nil, Nat.reduceAdd, Nat.le_refl, List.drop_zero, List.take_succ_cons, List.take_zero, if_true, wa, b6, wr_c, true_and, onS_ite, onS_some, cells_agg, List.all_cons, one_sl, v0, one_int, List.all_nil, Bool.and_self, and_self, ovr_fm, ovr_fn]
    rw [List.getElem?_set_self (by rw [List.length_set, List.length_append, kl]; omega)]
    simp -implicitDefEqProofs only [rd_aggc, Nat.zero_add, List.length_cons, List.length_nil, Nat.reduceAdd, Nat.le_refl, List.drop_zero, List.take_succ_cons, List.take_zero, if_true, onS_some]
    refine ⟨s ++ [0], g, t, _, _, by simp; omega, by omega, rfl, ((((dB.more hr _).kill (by omega) hr).more hr _).setHi hr (by omega) _).setHi hr (by omega) _, .at (own := true) ?_ (by simp), ?_⟩
    · rw [List.getElem?_set_ne (by omega), List.getElem?_set_ne (by omega)]
      have := at_end (killReg (Y ++ [⟨ints .i64 [0], true, true⟩]) p) ⟨ints .i64 (s ++ [0]), true, true⟩
      rw [kl, n1] at this
      exact this
    · rcases v2 with ⟨rfl, hv⟩ | ⟨q, rfl, hq⟩
      · exact .inl ⟨rfl, hv⟩
      · have hqp := a6 _ _ _ _ rfl
        have hql := at_lt hq
        have hqz : q ≠ Z1.length := by
          rintro rfl
          rw [w1] at hq
          injection hq with hq
          injection hq with hq
          revert hq
          cases g <;> simp [ints]
        refine .at (own := true) ?_ rfl
        rw [List.getElem?_set_ne (by omega), List.getElem?_set_ne (by omega), kw _ _ _ (by omega) (by omega)]
        exact hq
  by_cases j2 : (j : Int) = 2
  · obtain ⟨Q, hQ⟩ : ∃ Q : Reg, Q = ⟨ints .i64 [-1, 1001], true, true⟩ := ⟨_, rfl⟩
    have hy8 : IsL (Y ++ [Q]) (.sl (Z1.length + 1) 0 2 1) .i64 [-1, 1001] := IsL.at (by rw [y0, hQ]; rfl) rfl
    have cY := cB.app [Q]
    obtain ⟨k, X, k1, k2, k3⟩ := drawPickInt cY hL hy8 (by decide) (by decide)
    generalize ([-1, 1001] : List Int).getD k 0 = t' at k2
    have hXl := k3.1
    have hYl : (Y ++ [Q]).length = Z1.length + 2 := by rw [List.length_append, n1]; rfl
    have hrY := cY.lt
    have wX := k3.2.1 Z1.length (by omega) (by omega)
    have bX := k3.2.1 H.length (by omega) (by omega)
    rw [w4] at wX
    rw [b4] at bX
    have pX := k3.at cY (hp [Q])
    have pX2 := at_lt pX
    simp -implicitDefEqProofs only [j2, Int.reduceEq, Int.reduceNeg, decide_false, decide_true, if_true, if_false]
    rw [← hQ]
    refine call1S (by simp -implicitDefEqProofs only [List.map_cons, Nat.reduceLT, ev_tab, ne_eq, Nat.reduceEqDiff, not_false_eq_true, upd_ne, upd_eq, List.map_nil] <;> rfl) k2 ?_
    simp -implicitDefEqProofs only [↓ops_cons, ↓g_fieldAddrT, Nat.reduceLT, ev_tab, ne_eq, Nat.reduceEqDiff, not_false_eq_true, upd_ne, upd_eq, fadr32_2, Nat.zero_add, ↓g_store, ↓ops_nil, ↓w_seq, ↓w_region, ↓g_load, rd_def, tyOk32, agg32, cells32, wr_def, ↓w_ret, retP_1, res_cell, onS_some, tyOk3, cells3, wX, wr_c, cells_int, List.length_cons, List.length_nil, Nat.reduceAdd, Nat.le_refl, List.all_cons, one_int, List.all_nil, Bool.and_self, and_self, over_s, ovr_fm, ovr_fn, if_true]
    rw [ws _ _ (by omega)]
    simp -implicitDefEqProofs only [rd_aggc, Nat.zero_add, List.length_cons, List.length_nil, Nat.reduceAdd, Nat.le_refl, List.drop_zero, List.take_succ_cons, List.take_zero, if_true, wa, bX, wr_c, true_and, onS_ite, onS_some, cells_agg, List.all_cons, one_sl, v0, one_int, List.all_nil, Bool.and_self, and_self, ovr_fm, ovr_fn]
    rw [List.getElem?_set_self (by rw [List.length_set]; omega)]
    simp -implicitDefEqProofs only [rd_aggc, Nat.zero_add, List.length_cons, List.length_nil, Nat.reduceAdd, Nat.le_refl, List.drop_zero, List.take_succ_cons, List.take_zero, if_true, onS_some]
    refine ⟨s, g, t', _, _, by omega, by omega, rfl, ((Dr.trans (dB.more hr [Q]) k3).setHi hr (by omega) _).setHi hr (by omega) _, .at (own := true) (by rw [List.getElem?_set_ne (by omega), List.getElem?_set_ne (by omega)]; exact pX) rfl, ?_⟩
    rcases v2 with ⟨rfl, hv⟩ | ⟨q, rfl, hq⟩
    · exact .inl ⟨rfl, hv⟩
    · have hqp := a6 _ _ _ _ rfl
      have hql := at_lt hq
      have hqz : q ≠ Z1.length := by
        rintro rfl
        rw [w1] at hq
        injection hq with hq
        injection hq with hq
        revert hq
        cases g <;> simp [ints]
      refine .at (own := true) ?_ rfl
      rw [List.getElem?_set_ne (by omega), List.getElem?_set_ne (by omega)]
      exact k3.at cY ((at_more _ _ _ hql).trans hq)
  · simp -implicitDefEqProofs only [j0, j1, j2, Int.reduceNeg, decide_false, b2, wr_c, cells_agg, List.length_cons, List.length_nil, Nat.zero_add, Nat.reduceAdd, Nat.le_refl, List.all_cons, one_sl, v0, one_int, List.all_nil, Bool.and_self, and_self, ovr_fm, ovr_fn, if_true, onS_some, if_false]
    rw [List.getElem?_set_self (by omega)]
    simp -implicitDefEqProofs only [rd_aggc, Nat.zero_add, List.length_cons, List.length_nil, Nat.reduceAdd, Nat.le_refl, List.drop_zero, List.take_succ_cons, List.take_zero, if_true, onS_some]
    refine ⟨s, g, t, _, _, by omega, by omega, rfl, dB.setHi hr (by omega) _, .at (own := true) ((List.getElem?_set_ne (by omega)).trans p2) rfl, ?_⟩
    rcases v2 with ⟨rfl, hv⟩ | ⟨q, rfl, hq⟩
    · exact .inl ⟨rfl, hv⟩
    · have hqp := a6 _ _ _ _ rfl
      exact .at (own := true) ((List.getElem?_set_ne (by omega)).trans hq) rfl
theorem drawFlightOf {H : AHeap} {x : AV} {L : List Int} (hx : IsL H x .u8 L) (hL : L.length ≤ 4000000) : ∃ (l : List Int) (q : Nat) (Z : AHeap), l.length ≤ 6 ∧ Sound Try.prog 40 [x] H (.sl q 0 l.length 1) Z ∧ Ext H Z ∧ Z[q]? = some ⟨ints .i64 l, true, true⟩ := by
  suffices h : ∃ v Z, Sound Try.prog 40 [x] H v Z ∧ ∃ (l : List Int) (q : Nat), l.length ≤ 6 ∧ v = .sl q 0 l.length 1 ∧ Ext H Z ∧ Z[q]? = some ⟨ints .i64 l, true, true⟩ by
    obtain ⟨v, Z, h1, l, q, h2, rfl, h3⟩ := h
    exact ⟨l, q, Z, h2, h1, h3⟩
  refine Sound.runP (args := [x]) 6 [.tmp 2] Try.func40 rfl rfl rfl rfl (by simp) (fun v Z => ∃ (l : List Int) (q : Nat), l.length ≤ 6 ∧ v = .sl q 0 l.length 1 ∧ Ext H Z ∧ Z[q]? = some ⟨ints .i64 l, true, true⟩) ?_
  obtain ⟨r, Z0, n1, n2, n3, n4⟩ := drawNew hx hL
  obtain ⟨l, q, Z1, l1, l2, l3, l4, l5⟩ := drawNums n3 hL
  simp -implicitDefEqProofs only [↓w_seq, ↓w_region, ↓ops_cons, ↓g_assign, ↓ops_nil, ev_const, ↓g_move, Nat.reduceLT, ev_tab, ne_eq, reduceCtorEq, not_false_eq_true, upd_ne, par0]
  refine call1S (by simp -implicitDefEqProofs only [List.map_cons, Nat.reduceLT, ev_tab, upd_eq, List.map_nil] <;> rfl) n1 ?_
  simp -implicitDefEqProofs only [↓ops_cons]
  refine call1S (by simp -implicitDefEqProofs only [List.map_cons, Nat.reduceLT, ev_tab, upd_eq, List.map_nil] <;> rfl) l2 ?_
  simp -implicitDefEqProofs only [↓ops_cons, ↓g_assign, ↓ops_nil, ↓w_ret, Nat.reduceLT, ev_tab, upd_eq, retP_1, res_tmp, onS_some]
  exact ⟨l, q, l1, rfl, Dr.ext n4 l3 n2, l5⟩
theorem drawAckedBy {H : AHeap} {x : AV} {L : List Int} (hx : IsL H x .u8 L) (hL : L.length ≤ 4000000) : ∃ (s g l : List Int) (t : Int) (X Y W : AV) (Z : AHeap), s.length ≤ 7 ∧ g.length ≤ 7 ∧ l.length ≤ 6 ∧ Sound Try.prog 41 [x] H (.tup [flt X Y t, W]) Z ∧ Ext H Z ∧ IsL Z X .i64 s ∧ IsL Z Y .i64 g ∧ IsL Z W .i64 l := by
  suffices h : ∃ v Z, Sound Try.prog 41 [x] H v Z ∧ ∃ (s g l : List Int) (t : Int) (X Y W : AV), s.length ≤ 7 ∧ g.length ≤ 7 ∧ l.length ≤ 6 ∧ v = .tup [.agg [X, Y, .sc (.int .i64 t)], W] ∧ Ext H Z ∧ IsL Z X .i64 s ∧ IsL Z Y .i64 g ∧ IsL Z W .i64 l by
    obtain ⟨v, Z, h1, s, g, l, t, X, Y, W, h2, h3, h4, rfl, h5⟩ := h
    exact ⟨s, g, l, t, X, Y, W, Z, h2, h3, h4, h1, h5⟩
  refine Sound.runP (args := [x]) 13 [.cell 2 32, .tmp 3] Try.func41 rfl rfl rfl rfl (by simp) (fun v Z => ∃ (s g l : List Int) (t : Int) (X Y W : AV), s.length ≤ 7 ∧ g.length ≤ 7 ∧ l.length ≤ 6 ∧ v = .tup [.agg [X, Y, .sc (.int .i64 t)], W] ∧ Ext H Z ∧ IsL Z X .i64 s ∧ IsL Z Y .i64 g ∧ IsL Z W .i64 l) ?_
  obtain ⟨B, hB⟩ : ∃ B : Reg, B = ⟨[.sc (.slice none 0 0), .sc (.slice none 0 0), .sc (.int .i64 0)], true, true⟩ := ⟨_, rfl⟩
  have e0 := Ext.more H [B]
  have b0 : (H ++ [B])[H.length]? = some ⟨[.sc (.slice none 0 0), .sc (.slice none 0 0), .sc (.int .i64 0)], true, true⟩ := by rw [← hB]; exact hap_0 H [B]
  have l0 : (H ++ [B]).length = H.length + 1 := by rw [List.length_append]; rfl
  obtain ⟨r, Z0, n1, n2, n3, n4⟩ := drawNew (e0.isL hx) hL
  obtain ⟨l, q, Z1, l1, l2, l3, l4, l5⟩ := drawNums n3 hL
  have c1 := n3.dr l3
  obtain ⟨s, g, t, X, Y, Z2, s1, g1, a1, a2, a3, a4⟩ := drawAny c1 hL
  have l6 := a2.at c1 l5
  have e2 : Ext (H ++ [B]) Z2 := Dr.ext n4 (l3.trans a2) n2
  have b2 := e2.at b0
  have hz := at_lt b2
  have hq : H.length < q := by have := n4.1; omega
  have x1 := a3.one
  have y1 := a4.one
  have xe : ∀ (u : AV) (m : List Int), IsL Z2 u .i64 m → IsL (Z2.set H.length ⟨[X, Y, .sc (.int .i64 t)], true, true⟩) u .i64 m := fun u m hu => by
    rcases hu with ⟨rfl, h⟩ | ⟨k, o, rfl, h⟩
    · exact .inl ⟨rfl, h⟩
    · refine .at (own := o) ((List.getElem?_set_ne ?_).trans h) rfl
      rintro rfl
      rw [b2] at h
      injection h with h
      injection h with h
      revert h
      cases m <;> simp [ints]
  unfold flt at a1
  simp -implicitDefEqProofs only [↓w_seq, ↓w_region, ↓ops_cons, ↓g_alloc, zero32, Option.map_some, ↓g_assign, ↓ops_nil, ev_const, ↓g_move, Nat.reduceLT, ev_tab, ne_eq, reduceCtorEq, not_false_eq_true, upd_ne, par0, alK_some, List.all_cons, one_nil, one_int, List.all_nil, Bool.and_self, true_and]
  rw [← hB]
  refine call1S (by simp -implicitDefEqProofs only [List.map_cons, Nat.reduceLT, ev_tab, upd_eq, List.map_nil] <;> rfl) n1 ?_
  simp -implicitDefEqProofs only [↓ops_cons, ↓g_assign, ↓ops_nil, ↓w_seq, ↓w_region, Nat.reduceLT, ev_tab, upd_eq, ↓g_move]
  refine call1S (by simp -implicitDefEqProofs only [List.map_cons, Nat.reduceLT, ev_tab, upd_eq, List.map_nil] <;> rfl) l2 ?_
  simp -implicitDefEqProofs only [↓ops_cons, ↓g_assign, ↓ops_nil, ↓w_seq, ↓w_region, Nat.reduceLT, ev_tab, upd_eq, ↓g_move, ne_eq, Nat.reduceEqDiff, not_false_eq_true, upd_ne]
  refine call1S (by simp -implicitDefEqProofs only [List.map_cons, Nat.reduceLT, ev_tab, upd_eq, List.map_nil] <;> rfl) a1 ?_
  simp -implicitDefEqProofs only [↓ops_cons, ↓g_move, ↓g_store, Nat.reduceLT, ev_tab, ne_eq, Nat.reduceEqDiff, not_false_eq_true, upd_ne, upd_eq, wr_def, tyOk32, cells32, b2, wr_c, cells_agg, List.length_cons, List.length_nil, Nat.zero_add, Nat.reduceAdd, Nat.le_refl, List.all_cons, x1, y1, one_int, List.all_nil, Bool.and_self, and_self, ovr_fm, ovr_fn, if_true, ↓g_assign, ↓ops_nil, ↓w_ret, retP_2, res_cell, rd_def, agg32, res_tmp, onS_some]
  rw [List.getElem?_set_self hz]
  simp -implicitDefEqProofs only [rd_aggc, Nat.zero_add, List.length_cons, List.length_nil, Nat.reduceAdd, Nat.le_refl, List.drop_zero, List.take_succ_cons, List.take_zero, if_true, onS_some]
  exact ⟨s, g, l, t, _, _, _, s1, g1, l1, rfl, (e0.trans e2).set (Nat.le_refl _) _, xe _ _ a3, xe _ _ a4, xe _ _ (IsL.mk l6)⟩
theorem drawAckList {H : AHeap} {x : AV} {L : List Int} (hx : IsL H x .u8 L) (hL : L.length ≤ 4000000) : ∃ (l : List Int) (W : AV) (Z : AHeap), l.length ≤ 6 ∧ Sound Try.prog 42 [x] H W Z ∧ Ext H Z ∧ IsL Z W .i64 l := by
  suffices h : ∃ v Z, Sound Try.prog 42 [x] H v Z ∧ ∃ (l : List Int), l.length ≤ 6 ∧ Ext H Z ∧ IsL Z v .i64 l by
    obtain ⟨v, Z, h1, l, h2, h3⟩ := h
    exact ⟨l, v, Z, h2, h1, h3⟩
  refine Sound.runP (args := [x]) 16 [.tmp 2] Try.func42 rfl rfl rfl rfl (by simp) (fun v Z => ∃ (l : List Int), l.length ≤ 6 ∧ Ext H Z ∧ IsL Z v .i64 l) ?_
  obtain ⟨r, Z0, n1, n2, n3, n4⟩ := drawNew hx hL
  obtain ⟨b, Z1, o1, o2⟩ := drawOnce n3 hL 2 (by omega) (by omega)
  obtain ⟨l, q, Z2, l1, l2, l3, l4, l5⟩ := drawNums (n3.dr o2) hL
  have e2 : Ext H Z2 := Dr.ext n4 (o2.trans l3) n2
  simp -implicitDefEqProofs only [↓w_seq, ↓w_region, ↓ops_cons, ↓g_assign, ↓ops_nil, ev_const, ↓g_move, Nat.reduceLT, ev_tab, ne_eq, reduceCtorEq, not_false_eq_true, upd_ne, par0]
  refine call1S (by simp -implicitDefEqProofs only [List.map_cons, Nat.reduceLT, ev_tab, upd_eq, List.map_nil] <;> rfl) n1 ?_
  simp -implicitDefEqProofs only [↓ops_cons, ↓g_assign, ↓ops_nil, ↓w_seq, ↓w_region, Nat.reduceLT, ev_tab, upd_eq, ↓g_move]
  refine call1S (by simp -implicitDefEqProofs only [List.map_cons, Nat.reduceLT, ev_tab, upd_eq, ev_const, of_int, List.map_nil, Int.cast_ofNat_Int] <;> rfl) o1 ?_
  cases b with
  | false =>
    simp -implicitDefEqProofs only [↓ops_nil, ↓w_cond, Nat.reduceLT, ev_tab, upd_eq, ↓w_seq, ↓w_region, ↓ops_cons, ↓g_move, ne_eq, Nat.reduceEqDiff, not_false_eq_true, upd_ne, ↓w_skip, onB_false]
    refine call1S (by simp -implicitDefEqProofs only [List.map_cons, Nat.reduceLT, ev_tab, upd_eq, List.map_nil] <;> rfl) l2 ?_
    simp -implicitDefEqProofs only [↓ops_cons, ↓g_assign, ↓ops_nil, ↓w_ret, Nat.reduceLT, ev_tab, upd_eq, retP_1, res_tmp, onS_some]
    exact ⟨l, l1, e2, IsL.mk l5⟩
  | true =>
    obtain ⟨p2, q2, Z3, d1, d2, d3, d4, d5, d6⟩ := flOfS (IsL.mk l5) (by omega)
    have hl := (flOf_ok l).2
    generalize flOf l = s at *
    unfold flt at d1
    simp -implicitDefEqProofs only [↓ops_nil, ↓w_cond, Nat.reduceLT, ev_tab, upd_eq, ↓w_seq, ↓w_region, ↓ops_cons, ↓g_move, ne_eq, Nat.reduceEqDiff, not_false_eq_true, upd_ne, ↓w_skip, onB_true]
    refine call1S (by simp -implicitDefEqProofs only [List.map_cons, Nat.reduceLT, ev_tab, upd_eq, List.map_nil] <;> rfl) l2 ?_
    simp -implicitDefEqProofs only [↓ops_cons]
    refine call1S (by simp -implicitDefEqProofs only [List.map_cons, Nat.reduceLT, ev_tab, upd_eq, List.map_nil] <;> rfl) d1 ?_
    simp -implicitDefEqProofs only [↓ops_cons, ↓g_alloc, zero32, Option.map_some, ↓g_store, Nat.reduceLT, ev_tab, upd_eq, ne_eq, Nat.reduceEqDiff, not_false_eq_true, upd_ne, ↓ops_nil, ↓w_seq, ↓w_region, ↓g_fieldAddrT, ↓g_load, ↓g_assign, ↓w_ret, retP_1, res_tmp, onS_some, alK_some, List.all_cons, one_nil, one_int, List.all_nil, Bool.and_self, wr_def, tyOk32, cells32, hap_0, List.getElem?_cons_zero, wr_c, cells_agg, List.length_cons, List.length_nil, Nat.zero_add, Nat.reduceAdd, Nat.le_refl, one_sl, and_self, ovr_fm, ovr_fn, hset_0, List.set_cons_zero, if_true, fadr32_0, rd_def, tyOk22, agg22, cells22, rd_onec, true_and]
    exact ⟨s, by omega, (e2.trans d2).add _, (Ext.more Z3 _).isL (IsL.mk d5)⟩
theorem ackP_le' {l : List Int} (h : UpL l) (h100 : l.length ≤ 100) : ∀ i, i ≤ l.length → (ackP l i).length ≤ 5 * (i + 1)
  | 0, _ => by
    have e0 : ackP l 0 = varN l.length := by simp [ackP]
    have := varN_5 l.length (by omega)
    rw [e0]; omega
  | i + 1, hi => by
    have := ackP_le' h h100 i (by omega)
    have hu := (up_nat h (i := i) (by omega)).2
    have := varN_5 (l.getD i 0).toNat (by omega)
    rw [← ackP_s l i (by omega), List.length_append]; omega
theorem ack_ex {l : List Int} (h : l.length ≤ 100) : ∃ (z : ByteArray) (b : Bool), z.size ≤ 1000 ∧ ∀ (H : AHeap) (x : AV), IsL H x .i64 l → Sound Try.prog 14 [x] H (.tup [.sc (.string z), .sc (.bool b)]) H ∧ Sound Try.prog 12 [x] H (.tup [.sc (.string z), .sc (.bool b)]) H := by
  by_cases u : UpL l
  · refine ⟨ackT l, true, ?_, fun H x hx => ⟨ackI u h hx, ackS u h hx⟩⟩
    have := ackP_le' u h _ (Nat.le_refl _)
    rw [ackT, son_size]; omega
  · exact ⟨ByteArray.empty, false, by decide, fun H x hx => ⟨ackNoI (fun h => u h.1) (by omega) hx, ackNoS (fun h => u h.1) (by omega) hx⟩⟩
theorem drawReadAck {H : AHeap} {x : AV} {L : List Int} (hx : IsL H x .u8 L) (hL : L.length ≤ 4000000) : ∃ (z : ByteArray) (Z : AHeap), z.size ≤ 1001 ∧ Sound Try.prog 43 [x] H (.sc (.string z)) Z ∧ Ext H Z := by
  suffices h : ∃ v Z, Sound Try.prog 43 [x] H v Z ∧ ∃ (z : ByteArray), z.size ≤ 1001 ∧ v = .sc (.string z) ∧ Ext H Z by
    obtain ⟨v, Z, h1, z, h2, rfl, h3⟩ := h
    exact ⟨z, Z, h2, h1, h3⟩
  refine Sound.runP (args := [x]) 20 [.tmp 2] Try.func43 rfl rfl rfl rfl (by simp) (fun v Z => ∃ (z : ByteArray), z.size ≤ 1001 ∧ v = .sc (.string z) ∧ Ext H Z) ?_
  obtain ⟨r, Z0, n1, n2, n3, n4⟩ := drawNew hx hL
  obtain ⟨l, W, Z1, l1, l2, l3, l4⟩ := drawAckList (n4.isL hx) hL
  obtain ⟨z, k, z1, z2⟩ := ack_ex (l := l) (by omega)
  have c1 := n3.dr (Dr.ofExt n3 l3)
  obtain ⟨b, Z2, o1, o2⟩ := drawOnce c1 hL 3 (by omega) (by omega)
  have d2 := (Dr.ofExt n3 l3).trans o2
  simp -implicitDefEqProofs only [↓w_seq, ↓w_region, ↓ops_cons, ↓g_assign, ↓ops_nil, ev_const, of_str, ↓g_move, Nat.reduceLT, ev_tab, ne_eq, reduceCtorEq, not_false_eq_true, upd_ne, par0]
  refine call1S (by simp -implicitDefEqProofs only [List.map_cons, Nat.reduceLT, ev_tab, upd_eq, List.map_nil] <;> rfl) n1 ?_
  simp -implicitDefEqProofs only [↓ops_cons, ↓g_assign, ↓ops_nil, ↓w_seq, ↓w_region, Nat.reduceLT, ev_tab, upd_eq, ↓g_move, ne_eq, reduceCtorEq, not_false_eq_true, upd_ne, par0]
  refine call1S (by simp -implicitDefEqProofs only [List.map_cons, Nat.reduceLT, ev_tab, upd_eq, List.map_nil] <;> rfl) l2 ?_
  simp -implicitDefEqProofs only [↓ops_cons]
  refine call1S (by simp -implicitDefEqProofs only [List.map_cons, Nat.reduceLT, ev_tab, upd_eq, List.map_nil] <;> rfl) (z2 _ _ l4).2 ?_
  simp -implicitDefEqProofs only [↓ops_cons, ↓g_move, ↓g_extract, Nat.reduceLT, ev_tab, upd_eq, ext_0, ne_eq, Nat.reduceEqDiff, not_false_eq_true, upd_ne, ext_1, ↓g_assign, ↓ops_nil, ↓w_seq, ↓w_region, onS_some]
  refine call1S (by simp -implicitDefEqProofs only [List.map_cons, Nat.reduceLT, ev_tab, upd_eq, ev_const, of_int, List.map_nil, Int.cast_ofNat_Int] <;> rfl) o1 ?_
  cases b with
  | false =>
    simp -implicitDefEqProofs only [↓ops_nil, ↓w_cond, Nat.reduceLT, ev_tab, upd_eq, ↓w_seq, ↓w_region, ↓ops_cons, ↓g_move, ne_eq, Nat.reduceEqDiff, not_false_eq_true, upd_ne, ↓w_skip, ↓g_assign, ↓w_ret, retP_1, res_tmp, onS_some, onB_false]
    exact ⟨z, by omega, rfl, Dr.ext n4 d2 n2⟩
  | true =>
    obtain ⟨u, Z3, u1, u2, u3⟩ := drawSpoilt (c1.dr o2) hL z (by omega)
    simp -implicitDefEqProofs only [↓ops_nil, ↓w_cond, Nat.reduceLT, ev_tab, upd_eq, ↓w_seq, ↓w_region, ↓ops_cons, ↓g_move, ne_eq, Nat.reduceEqDiff, not_false_eq_true, upd_ne, ↓w_skip, ↓g_assign, ↓w_ret, retP_1, res_tmp, onS_some, onB_true]
    refine call1S (by simp -implicitDefEqProofs only [List.map_cons, Nat.reduceLT, ev_tab, ne_eq, Nat.reduceEqDiff, not_false_eq_true, upd_ne, upd_eq, List.map_nil] <;> rfl) u2 ?_
    simp -implicitDefEqProofs only [↓ops_cons, ↓g_assign, ↓ops_nil, ↓w_ret, Nat.reduceLT, ev_tab, upd_eq, retP_1, res_tmp, onS_some]
    exact ⟨u, by omega, rfl, Dr.ext n4 (d2.trans u3) n2⟩
end Go.Proofs.Ytcjjcpdfnndenaa.Sim
namespace Go.Proofs.Ytcjjcpdfnndenaa.Sim
open Go
set_option linter.unusedSimpArgs false
set_option linter.unusedVariables false
theorem entry {P : Program} {f : FuncId} {v : Value} {ags : List AV} {H0 H' : AHeap} (hs : Sound P f ags H0 (.sc v) H') (w : World) (cargs : Array Value) (ρ0 : Ren)
    (hreg : ∀ r g l, H0[r]? = some g → ρ0 r = some l → RegOk ρ0 w.heap.size w l g ∧ g.own = false) (hdom : ∀ r l, ρ0 r = some l → ∃ g, H0[r]? = some g)
    (hA : LR ρ0 ags cargs.toList) (hg : Gl w.heap.size w := by exact Gl.none rfl) : Calls P f cargs w fun e w' => e = .returned v ∧ RowKit.Below w.heap.size w w' := by
  obtain ⟨_, hlen, h3⟩ := hs
  have hR : Rel H'.length ρ0 w.heap.size (hf H0) w := by
    refine ⟨⟨Nat.le_refl _, hg⟩, ?_, ?_, ?_, ?_, ?_⟩
    · intro r l h
      obtain ⟨g, hg⟩ := hdom r l h
      obtain ⟨⟨c, e, fz, hb, _⟩, _⟩ := hreg r g l hg h
      exact (Array.getElem?_eq_some_iff.1 hb).1
    · intro r l h
      obtain ⟨g, hg⟩ := hdom r l h
      exact .inl ⟨g, hg⟩
    · intro r g h
      exact Nat.lt_of_lt_of_le (List.getElem?_eq_some_iff.1 h).1 hlen
    · intro r g l hg _ h
      exact (hreg r g l hg h).1
    · intro r1 r2 g1 g2 l1 l2 a1 _ _ _ c1 _ k1 _ _
      have := (hreg r1 g1 l1 a1 k1).2
      rw [this] at c1
      cases c1
  refine (h3 H'.length ρ0 w.heap.size w cargs (Nat.le_refl _) hR hA).mono ?_
  rintro e w' ⟨cv, ρ', rfl, hvr, hR', hG⟩
  refine ⟨by rw [hvr.sc_inv], hG.os, hG.tape, hG.output, hG.size, fun k hk => hG.frame k hk fun r g l hg _ ho hρ => ?_⟩
  have := (hreg r g l hg hρ).2
  rw [this] at ho
  cases ho
theorem add_spot {a : Addr} (h : a.spot = none) (i : Nat) : a.add i = ⟨a.block, a.off + i, none⟩ := by
  unfold Addr.add
  split
  · rename_i h0
    subst h0
    cases a
    simp_all
  · rfl
theorem param_ints {w : World} {a : Addr} {len cap : Nat} {zs : List Int} {k : IntKind} (hsp : a.spot = none) (hsh : ∃ row cells, w.shape? a.block = some (row, cells)) (hl : len ≤ cap) (hz : zs.length = cap)
    (hcell : ∀ i, i < zs.length → w.cell? (a.add i) = some (.int k (zs.getD i 0))) : ∃ (l : Loc) (off : Nat), (∀ ρ : Ren, RegOk ρ w.heap.size w l ⟨ints k (zs.take len), false, true⟩) ∧ ∀ (ρ : Ren) (r : Nat), ρ r = some l → VR ρ (.sl r 0 (zs.take len).length 1) (.slice (some a) len cap) := by
  obtain ⟨row, cells, hsh⟩ := hsh
  unfold World.shape? at hsh
  split at hsh
  case h_2 => cases hsh
  rename_i c elem fz hb
  have hbl : a.block < w.heap.size := (Array.getElem?_eq_some_iff.1 hb).1
  have hlen : (zs.take len).length = len := by rw [List.length_take]; omega
  rw [hlen]
  have ea : a = ⟨a.block, a.off, none⟩ := by cases a; simp_all
  rcases Nat.eq_zero_or_pos cap with h0 | h0
  · have hl0 : len = 0 := by omega
    subst hl0
    subst h0
    refine ⟨⟨a.block, 0, c.size⟩, 0, fun ρ => ⟨c, elem, fz, hb, rfl, by simp [ints], ?_, ⟨fun h => (by cases h), fun _ => hbl⟩⟩, fun ρ r h => ?_⟩
    · simp only [List.take_zero, ints, List.map_nil, List.length_nil]
      exact LR.nil
    · rw [ea]
      exact .sl0 h
  · have hc : ∀ i, i < cap → c[a.off + i]? = some (.int k (zs.getD i 0)) := by
      intro i hi
      have := hcell i (by omega)
      rw [add_spot hsp] at this
      rw [← this]
      simp [World.cell?, hb]
    have hfit : a.off + cap ≤ c.size := by
      have := (Array.getElem?_eq_some_iff.1 (hc (cap - 1) (by omega))).1
      omega
    refine ⟨⟨a.block, a.off, c.size⟩, 0, fun ρ => ⟨c, elem, fz, hb, rfl, by simp [ints]; omega, ?_, ⟨fun h => (by cases h), fun _ => hbl⟩⟩, fun ρ r h => ?_⟩
    · refine ⟨by simp [ints]; omega, ?_⟩
      intro i x y hx hy
      have hi : i < len := by
        have := (List.getElem?_eq_some_iff.1 hx).1
        simp [ints] at this
        omega
      have hx2 : x = .sc (.int k (zs.getD i 0)) := by
        simp only [ints, List.getElem?_map, List.getElem?_take, hi, if_true] at hx
        have hzi : i < zs.length := by omega
        rw [List.getElem?_eq_getElem hzi] at hx
        simp at hx
        rw [← hx]
        simp [hzi]
      have hy2 : y = .int k (zs.getD i 0) := by
        rw [List.getElem?_take] at hy
        split at hy
        · rw [List.getElem?_drop, Array.getElem?_toList, hc i (by omega)] at hy
          injection hy with hy
          exact hy.symm
        · cases hy
      rw [hx2, hy2]
      exact .sc _
    · rw [ea]
      have := VR.sl (ρ := ρ) (r := r) (off := 0) (len := len) (sz := 1) (cap := cap) (l := ⟨a.block, a.off, c.size⟩) h hl (by simp; omega)
      simpa using this
/-- A slice that is given holds its block. -/
theorem okWide_shape {P : Program} {w : World} {r : Reach} {b : Nat} {t e : TypeId} {a : Addr} {len cap : Nat} (ht : P.underlying t = some (.slice e)) (h : Value.okWide P w r b t (.slice (some a) len cap)) : a.spot = none ∧ ∃ row cells, w.shape? a.block = some (row, cells) := by
  unfold Value.okWide at h
  simp only [ht] at h
  unfold Cell.okWide at h
  simp only [ht] at h
  unfold Cell.ok at h
  simp only [ht] at h
  obtain ⟨_, _, _, h1, row, cells, h2, _⟩ := h
  exact ⟨h1, row, cells, h2⟩
theorem shut_nil {H : Type} {enc : TypeId × Value → H} {P : Program} {w : World} {base : Nat} {spare : Nat → Bool} {held : Bool} {t e : TypeId} (ht : P.underlying t = some (.slice e)) : DataW.Trod enc P w base spare held t (.slice none 0 0) .nil [] := ⟨1, by simp [DataW.trod_step, DataW.trodStep, Value.cells, ht]⟩
end Go.Proofs.Ytcjjcpdfnndenaa.Sim
namespace Go.Proofs.Ytcjjcpdfnndenaa.Sim
open Go
set_option linter.unusedSimpArgs false
set_option linter.unusedVariables false
/-- The kinds of flat cells. -/
inductive Kd where
  | b
  | s
  | i (k : IntKind)
def Kd.ok (k : Kd) (v : Value) : Prop :=
  match k with
  | .b => ∃ x, v = .bool x
  | .s => ∃ z, v = .string z ∧ z.size ≤ maxLen
  | .i q => ∃ n, v = .int q n
theorem Kd.ok.one {k : Kd} {v : Value} (h : k.ok v) : (AV.sc v).one = true := by
  cases k with
  | b => obtain ⟨x, rfl⟩ := h; rfl
  | s => obtain ⟨x, rfl, _⟩ := h; rfl
  | i q => obtain ⟨x, rfl⟩ := h; rfl
theorem Kd.ok.flat {k : Kd} {v : Value} (h : k.ok v) : Flat (.sc v) := .sc v
inductive Leaf where
  | f (k : Kd)
  | l (e : TypeId) (ks : List Kd)
def Leaf.kd? : Leaf → Option Kd
  | .f k => some k
  | .l _ _ => none
def leavesFs (P : Program) (rec : TypeId → Option (List Leaf)) : List Field → Nat → Option (List Leaf)
  | [], _ => some []
  | f :: fs, off => match rec f.type, leavesFs P rec fs (off + P.cellsOf f.type) with
    | some a, some b => if f.offset = off ∧ a.length = P.cellsOf f.type then some (a ++ b) else none
    | _, _ => none
def leaves (P : Program) : Nat → TypeId → Option (List Leaf)
  | 0, _ => none
  | d + 1, t => match P.underlying t with
    | some .bool => some [.f .b]
    | some .string => some [.f .s]
    | some (.int k) => some [.f (.i k)]
    | some (.slice e) => match leaves P d e with
      | some ls => match ls.mapM Leaf.kd? with
        | some ks => if P.cellsOf e = ks.length ∧ 0 < ks.length then some [.l e ks] else none
        | none => none
      | none => none
    | some (.struct fs) => match leavesFs P (leaves P d) fs.toList 0 with
      | some ls => if ls.length = P.cellsOf t then some ls else none
      | none => none
    | _ => none
section
variable {H : Type} {enc : TypeId × Value → H} {P : Program} {W : World} {base : Nat} {spare : Nat → Bool} {held : Bool}
def LeafOk (enc : TypeId × Value → H) (P : Program) (W : World) (base : Nat) (spare : Nat → Bool) (held : Bool) (l : Leaf) (v : Value) : Prop :=
  match l with
  | .f k => k.ok v
  | .l e ks => P.cellsOf e = ks.length ∧ 0 < ks.length ∧ (∃ d, leaves P d e = some (ks.map .f)) ∧ ∃ t n y, P.underlying t = some (.slice e) ∧ DataW.trod enc P W base spare held n t [v] = some y
theorem kd_map : ∀ (ls : List Leaf) (ks : List Kd), ls.mapM Leaf.kd? = some ks → ls = ks.map .f
  | [], ks, h => by
    simp at h
    subst h
    rfl
  | l :: ls, ks, h => by
    rw [List.mapM_cons] at h
    cases l with
    | l e k => simp [Leaf.kd?] at h
    | f k =>
      cases hl : ls.mapM Leaf.kd? with
      | none => simp [Leaf.kd?, hl] at h
      | some ks' =>
        simp [Leaf.kd?, hl] at h
        subst h
        rw [List.map_cons, ← kd_map ls ks' hl]
theorem mapM_all {α β : Type} {f : α → Option β} : ∀ {l : List α} {r : List β}, l.mapM f = some r → ∀ x ∈ l, ∃ y, f x = some y
  | [], r, _, x, hx => by cases hx
  | a :: l, r, h, x, hx => by
    rw [List.mapM_cons] at h
    cases ha : f a with
    | none => simp [ha] at h
    | some y =>
      cases hl : l.mapM f with
      | none => simp [ha, hl] at h
      | some ys =>
        rcases List.mem_cons.1 hx with rfl | hx
        · exact ⟨y, ha⟩
        · exact mapM_all hl x hx
theorem fs_ok (rec : TypeId → Option (List Leaf)) (r : TypeId → List Value → Option (DataW H × List MemPlace)) (L : Leaf → Value → Prop)
    (hr : ∀ t cs y ls, rec t = some ls → r t cs = some y → ∀ (i : Nat) l v, ls[i]? = some l → cs[i]? = some v → L l v) (cs : List Value) :
    ∀ (fs : List Field) (off : Nat) (ls : List Leaf), leavesFs P rec fs off = some ls → (∀ f ∈ fs, ∃ y, r f.type ((cs.drop f.offset).take (P.cellsOf f.type)) = some y) →
      ∀ (i : Nat) l v, ls[i]? = some l → cs[off + i]? = some v → L l v
  | [], off, ls, h, _, i, l, v, hl, _ => by
    simp [leavesFs] at h
    subst h
    simp at hl
  | f :: fs, off, ls, h, ha, i, l, v, hl, hv => by
    rw [leavesFs] at h
    cases h1 : rec f.type with
    | none => simp [h1] at h
    | some a =>
      cases h2 : leavesFs P rec fs (off + P.cellsOf f.type) with
      | none => simp [h1, h2] at h
      | some b =>
        simp only [h1, h2] at h
        split at h
        · rename_i hc
          obtain ⟨c1, c2⟩ := hc
          simp only [Option.some.injEq] at h
          subst h
          by_cases hi : i < a.length
          · rw [List.getElem?_append_left hi] at hl
            obtain ⟨y, hy⟩ := ha f (by simp)
            refine hr _ _ _ _ h1 hy i l v hl ?_
            rw [List.getElem?_take, if_pos (by omega), List.getElem?_drop, c1]
            exact hv
          · rw [List.getElem?_append_right (by omega)] at hl
            refine fs_ok rec r L hr cs fs _ b h2 (fun g hg => ha g (by simp [hg])) (i - a.length) l v hl ?_
            rw [← c2, show off + a.length + (i - a.length) = off + i by omega]
            exact hv
        · cases h
theorem leaves_ok : ∀ (d : Nat) (n : Nat) (t : TypeId) (cs : List Value) (y : DataW H × List MemPlace) (ls : List Leaf), leaves P d t = some ls → DataW.trod enc P W base spare held n t cs = some y →
    ∀ (i : Nat) l v, ls[i]? = some l → cs[i]? = some v → LeafOk enc P W base spare held l v
  | 0, n, t, cs, y, ls, h, _, i, l, v, _, _ => by cases h
  | d + 1, 0, t, cs, y, ls, h, hy, i, l, v, hl, hv => by simp [DataW.trod] at hy
  | d + 1, n + 1, t, cs, y, ls, h, hy, i, l, v, hl, hv => by
    have hy0 := hy
    rw [DataW.trod_step] at hy
    rw [leaves] at h
    cases hu : P.underlying t with
    | none => simp [hu] at h
    | some D =>
      rw [hu] at h
      unfold DataW.trodStep at hy
      cases D with
      | bool =>
        simp only [Option.some.injEq] at h
        subst h
        rw [hu] at hy
        have hc : ∃ b, cs = [.bool b] := by
          split at hy <;> simp_all
        obtain ⟨b, rfl⟩ := hc
        obtain ⟨rfl, rfl⟩ : i = 0 ∧ l = .f .b := by
          cases i with
          | zero => exact ⟨rfl, by simpa using hl.symm⟩
          | succ i => simp at hl
        simp at hv
        subst hv
        exact ⟨b, rfl⟩
      | string =>
        simp only [Option.some.injEq] at h
        subst h
        rw [hu] at hy
        have hc : ∃ b, cs = [.string b] ∧ b.size ≤ maxLen := by
          split at hy <;> simp_all
        obtain ⟨b, rfl, hb⟩ := hc
        obtain ⟨rfl, rfl⟩ : i = 0 ∧ l = .f .s := by
          cases i with
          | zero => exact ⟨rfl, by simpa using hl.symm⟩
          | succ i => simp at hl
        simp at hv
        subst hv
        exact ⟨b, rfl, hb⟩
      | int k =>
        simp only [Option.some.injEq] at h
        subst h
        rw [hu] at hy
        have hc : ∃ m, cs = [.int k m] := by
          split at hy <;> simp_all
        obtain ⟨m, rfl⟩ := hc
        obtain ⟨rfl, rfl⟩ : i = 0 ∧ l = .f (.i k) := by
          cases i with
          | zero => exact ⟨rfl, by simpa using hl.symm⟩
          | succ i => simp at hl
        simp at hv
        subst hv
        exact ⟨m, rfl⟩
      | slice e =>
        cases h1 : leaves P d e with
        | none => simp [h1] at h
        | some ls' =>
          cases h2 : ls'.mapM Leaf.kd? with
          | none => simp [h1, h2] at h
          | some ks =>
            simp only [h1, h2] at h
            split at h
            · rename_i hc
              simp only [Option.some.injEq] at h
              subst h
              obtain ⟨rfl, rfl⟩ : i = 0 ∧ l = .l e ks := by
                cases i with
                | zero => exact ⟨rfl, by simpa using hl.symm⟩
                | succ i => simp at hl
              have hcs : cs = [v] := by
                rw [hu] at hy
                split at hy <;> simp_all
              subst hcs
              exact ⟨hc.1, hc.2, ⟨d, by rw [h1, kd_map _ _ h2]⟩, t, n + 1, y, hu, hy0⟩
            · cases h
      | struct fs =>
        cases h1 : leavesFs P (leaves P d) fs.toList 0 with
        | none => simp [h1] at h
        | some ls' =>
          simp only [h1] at h
          split at h
          · rename_i hc
            simp only [Option.some.injEq] at h
            subst h
            rw [hu] at hy
            have hm : ∃ xs, fs.toList.mapM (fun f => DataW.trod enc P W base spare held n f.type ((cs.drop f.offset).take (P.cellsOf f.type))) = some xs := by
              split at hy <;> simp_all
              obtain ⟨xs, hx, _⟩ := hy.2
              exact ⟨xs, hx⟩
            obtain ⟨xs, hx⟩ := hm
            exact fs_ok (P := P) (leaves P d) (DataW.trod enc P W base spare held n) (LeafOk enc P W base spare held) (fun t cs y ls a b i l v => leaves_ok d n t cs y ls a b i l v) cs fs.toList 0 ls' h1 (fun f hf => mapM_all hx f hf) i l v hl (by simpa using hv)
          · cases h
      | _ => simp at h
/-- A row of flat cells. -/
structure Rw (ks : List Kd) where
  val : List Value
  ok : val.length = ks.length ∧ ∀ (i : Nat) k v, ks[i]? = some k → val[i]? = some v → k.ok v
def Rw.cs {ks : List Kd} (r : Rw ks) : List AV := r.val.map .sc
theorem Rw.encs {ks : List Kd} (h : 0 < ks.length) : Enc (Rw.cs (ks := ks)) ks.length := by
  refine ⟨fun a => by rw [Rw.cs, List.length_map]; exact a.ok.1, fun a => List.all_eq_true.2 fun x hx => ?_, h⟩
  obtain ⟨v, hv, rfl⟩ := List.mem_map.1 hx
  obtain ⟨i, hi⟩ := List.getElem?_of_mem hv
  have hlt := (List.getElem?_eq_some_iff.1 hi).1
  rw [a.ok.1] at hlt
  exact (a.ok.2 i ks[i] v (List.getElem?_eq_getElem hlt) hi).one
/-- A slice of the whole of a region of such rows, or none at all. -/
def IsR {ks : List Kd} (H : AHeap) (x : AV) (l : List (Rw ks)) : Prop := (x = .sc (.slice none 0 0) ∧ l = []) ∨ ∃ r own, x = .sl r 0 l.length ks.length ∧ H[r]? = some ⟨rows Rw.cs l, own, true⟩
def SlotOk (W : World) (s : Reg × Option Loc) : Prop := s.1.own = false ∧ ∀ (ρ : Ren) l, s.2 = some l → RegOk ρ W.heap.size W l s.1
theorem rows_mem {α : Type} {f : α → List AV} {l : List α} {a : AV} (h : a ∈ rows f l) : ∃ x ∈ l, a ∈ f x := by
  obtain ⟨y, hy, hya⟩ := List.mem_flatten.1 h
  obtain ⟨x, hx, rfl⟩ := List.mem_map.1 hy
  exact ⟨x, hx, hya⟩
theorem chunks {α : Type} (m : Nat) (p : List α → Prop) : ∀ (n : Nat) (cs : List α), cs.length = n * m → (∀ i, i < n → p ((cs.drop (i * m)).take m)) → ∃ rs : List (List α), rs.length = n ∧ rs.flatten = cs ∧ (∀ r ∈ rs, p r ∧ r.length = m)
  | 0, cs, hl, _ => ⟨[], rfl, by simp at hl; simp [hl], by simp⟩
  | n + 1, cs, hl, h => by
    have h1 : (cs.drop m).length = n * m := by rw [List.length_drop, hl, Nat.add_mul]; omega
    obtain ⟨rs, r1, r2, r3⟩ := chunks m p n (cs.drop m) h1 (fun i hi => by
      have := h (i + 1) (by omega)
      rw [List.drop_drop]
      rwa [Nat.add_mul, Nat.one_mul, Nat.add_comm] at this)
    refine ⟨cs.take m :: rs, by simp [r1], by simp [r2], ?_⟩
    intro r hr
    rcases List.mem_cons.1 hr with rfl | hr
    · refine ⟨by simpa using h 0 (by omega), ?_⟩
      rw [List.length_take, hl, Nat.add_mul]
      omega
    · exact r3 r hr
theorem map_rows {ks : List Kd} : ∀ (rs : List (List Value)), (∀ r ∈ rs, r.length = ks.length ∧ ∀ (i : Nat) k v, ks[i]? = some k → r[i]? = some v → k.ok v) → ∃ l : List (Rw ks), l.length = rs.length ∧ rows Rw.cs l = rs.flatten.map .sc
  | [], _ => ⟨[], rfl, rfl⟩
  | r :: rs, h => by
    obtain ⟨l, l1, l2⟩ := map_rows rs (fun q hq => h q (by simp [hq]))
    refine ⟨⟨r, h r (by simp)⟩ :: l, by simp [l1], ?_⟩
    rw [rows_cons, l2, List.flatten_cons, List.map_append]
    rfl
theorem slot {t e : TypeId} {ks : List Kd} {v : Value} {y : DataW H × List MemPlace} {n d : Nat} (ht : P.underlying t = some (.slice e)) (hm : P.cellsOf e = ks.length) (hp : 0 < ks.length) (hk : leaves P d e = some (ks.map .f))
    (h : DataW.trod enc P W 0 (fun _ => true) true n t [v] = some y) {u e2 : TypeId} (hu : P.underlying u = some (.slice e2)) {b0 : Nat} (hok : Cell.okWide P W .any b0 u v) :
    ∃ (l : List (Rw ks)) (s : Reg × Option Loc) (x : Nat → AV), SlotOk W s ∧ (∀ (ρ : Ren) r, ρ r = s.2 → VR ρ (x r) v) ∧ l.length ≤ 9223372036854775807 ∧ ∀ r (G : AHeap), G[r]? = some s.1 → IsR G (x r) l := by
  rcases DataW.trod_slice ht h with ⟨hv, _⟩ | ⟨a, len, cap, elems, rest, n', rfl, hv, _, hb, hl, hc, he1, he2, hsp, _⟩
  · simp only [List.cons.injEq, and_true] at hv
    subst hv
    refine ⟨[], (⟨[], false, true⟩, none), fun _ => .sc (.slice none 0 0), ⟨rfl, fun _ _ h => by cases h⟩, fun _ _ _ => .sc _, by simp, fun _ _ _ => .inl ⟨rfl, rfl⟩⟩
  · simp only [List.cons.injEq, and_true] at hv
    subst hv
    have hasp : a.spot = none ∧ ∃ row cells, W.shape? a.block = some (row, cells) := by
      unfold Cell.okWide at hok
      simp only [hu] at hok
      unfold Cell.ok at hok
      simp only [hu] at hok
      obtain ⟨_, _, _, h1, row, cells, h2, _⟩ := hok
      exact ⟨h1, row, cells, h2⟩
    obtain ⟨hspot, row, cells, hsh⟩ := hasp
    unfold World.shape? at hsh
    split at hsh
    case h_2 => cases hsh
    rename_i c elem fz hblk
    have hbl : a.block < W.heap.size := (Array.getElem?_eq_some_iff.1 hblk).1
    have ea : a = ⟨a.block, a.off, none⟩ := by cases a; simp_all
    have hadd : ∀ i, a.add i = ⟨a.block, a.off + i, none⟩ := fun i => add_spot hspot i
    have hadd2 : ∀ i j, (a.add i).add j = ⟨a.block, a.off + i + j, none⟩ := fun i j => by rw [hadd, add_spot rfl]
    have hcell : ∀ k, W.cell? ⟨a.block, k, none⟩ = c[k]? := fun k => by simp [World.cell?, hblk]
    obtain ⟨hr1, hr2⟩ := hsp rfl
    -- each element is read
    have each : ∀ i, i < cap → ∃ q yy, W.cells? 0 (a.add (i * P.cellsOf e)) (P.cellsOf e) = some q ∧ DataW.trod enc P W 0 (fun _ => true) true n' e q = some yy := by
      intro i hi
      by_cases h1 : i < len
      · have := he2 i h1
        rw [List.getElem?_eq_getElem (by omega), Option.bind_eq_some_iff] at this
        obtain ⟨q, q1, q2⟩ := this
        exact ⟨q, _, q1, q2⟩
      · have := hr2 (i - len) (by omega)
        rw [show len + (i - len) = i by omega, List.getElem?_eq_getElem (by omega), Option.bind_eq_some_iff] at this
        obtain ⟨q, q1, q2⟩ := this
        exact ⟨q, _, q1, q2⟩
    have eachc : ∀ i, i < cap → ∃ q yy, q.length = ks.length ∧ (∀ j, j < ks.length → c[a.off + i * ks.length + j]? = q[j]?) ∧ DataW.trod enc P W 0 (fun _ => true) true n' e q = some yy := by
      intro i hi
      obtain ⟨q, yy, q1, q2⟩ := each i hi
      obtain ⟨_, q4, q5⟩ := World.cells?_some q1
      rw [hm] at q4 q5
      refine ⟨q, yy, q4, fun j hj => ?_, q2⟩
      have := q5 j hj
      rw [hadd2, hcell] at this
      exact this
    have hfit : a.off + cap * ks.length ≤ c.size ∨ cap = 0 := by
      rcases Nat.eq_zero_or_pos cap with h0 | h0
      · exact .inr h0
      · obtain ⟨q, yy, q1, q2, _⟩ := eachc (cap - 1) (by omega)
        have := q2 (ks.length - 1) (by omega)
        rw [List.getElem?_eq_getElem (by omega)] at this
        have := (Array.getElem?_eq_some_iff.1 this).1
        have e2 : cap * ks.length = (cap - 1) * ks.length + ks.length := by
          obtain ⟨k, rfl⟩ : ∃ k, cap = k + 1 := ⟨cap - 1, by omega⟩
          rw [Nat.add_mul, Nat.one_mul, Nat.add_sub_cancel]
        exact .inl (by omega)
    rcases hfit with hfit | h0
    · have hlm : len * ks.length ≤ cap * ks.length := Nat.mul_le_mul_right _ hl
      let cs := (c.toList.drop a.off).take (len * ks.length)
      have hcl : cs.length = len * ks.length := by
        show ((c.toList.drop a.off).take (len * ks.length)).length = _
        have hcz : c.toList.length = c.size := Array.length_toList
        rw [List.length_take, List.length_drop, hcz]
        omega
      obtain ⟨rs, rs1, rs2, rs3⟩ := chunks ks.length (fun r => ∀ (i : Nat) k v, ks[i]? = some k → r[i]? = some v → k.ok v) len cs hcl (by
        intro i hi
        obtain ⟨q, yy, q1, q2, q3⟩ := eachc i (by omega)
        have hq : (cs.drop (i * ks.length)).take ks.length = q := by
          apply List.ext_getElem?
          intro j
          by_cases hj : j < ks.length
          · have hij : i * ks.length + j < len * ks.length := by
              have : (i + 1) * ks.length ≤ len * ks.length := Nat.mul_le_mul_right _ hi
              rw [Nat.add_mul, Nat.one_mul] at this
              omega
            rw [List.getElem?_take, if_pos hj, List.getElem?_drop, ← q2 j hj]
            show ((c.toList.drop a.off).take (len * ks.length))[i * ks.length + j]? = _
            rw [List.getElem?_take, if_pos hij, List.getElem?_drop, Array.getElem?_toList, Nat.add_assoc]
          · rw [List.getElem?_eq_none (by rw [List.length_take]; omega), List.getElem?_eq_none (by omega)]
        rw [hq]
        intro j k v hk1 hv1
        have := leaves_ok d n' e q yy _ hk q3 j (.f k) v (by rw [List.getElem?_map, hk1]; rfl) hv1
        exact this)
      obtain ⟨l, l1, l2⟩ := map_rows rs (fun r hr => ⟨(rs3 r hr).2, (rs3 r hr).1⟩)
      have hlen : l.length = len := by rw [l1, rs1]
      have hrl : (rows Rw.cs l).length = len * ks.length := by rw [rows_len (Rw.encs hp), hlen]
      refine ⟨l, (⟨rows Rw.cs l, false, true⟩, some ⟨a.block, a.off, c.size⟩), fun r => .sl r 0 len ks.length, ⟨rfl, ?_⟩, ?_, by rw [hlen]; exact Nat.le_trans hl (Nat.le_trans hc (by decide)), ?_⟩
      · intro ρ lc hlc
        simp only [Option.some.injEq] at hlc
        subst hlc
        refine ⟨c, elem, fz, hblk, rfl, ?_, ?_, fun h => (by cases h), fun _ => hbl⟩
        · rw [hrl]
          exact Nat.le_trans (Nat.add_le_add_left hlm _) hfit
        · rw [l2, rs2, List.length_map, hcl]
          refine ⟨by rw [List.length_map], ?_⟩
          intro i x z hx hz
          rw [List.getElem?_map] at hx
          have : cs[i]? = some z := hz
          rw [this] at hx
          simp at hx
          subst hx
          exact .sc _
      · intro ρ r hr
        rw [ea]
        have := VR.sl (ρ := ρ) (r := r) (off := 0) (len := len) (sz := ks.length) (cap := cap) (l := ⟨a.block, a.off, c.size⟩) hr hl (by simpa using hfit)
        simpa using this
      · intro r G hG
        exact .inr ⟨r, false, by rw [hlen], hG⟩
    · have hl0 : len = 0 := by omega
      subst hl0
      subst h0
      refine ⟨[], (⟨rows Rw.cs ([] : List (Rw ks)), false, true⟩, some ⟨a.block, 0, c.size⟩), fun r => .sl r 0 0 ks.length, ⟨rfl, ?_⟩, ?_, by simp, ?_⟩
      · intro ρ lc hlc
        simp only [Option.some.injEq] at hlc
        subst hlc
        refine ⟨c, elem, fz, hblk, rfl, by simp [rows], ?_, fun h => (by cases h), fun _ => hbl⟩
        simp only [rows, List.map_nil, List.flatten_nil, List.length_nil, List.take_zero]
        exact LR.nil
      · intro ρ r hr
        rw [ea]
        exact .sl0 hr
      · intro r G hG
        exact .inr ⟨r, false, rfl, hG⟩
/-- What a cell is told to be. -/
def CellSpec (l : Leaf) (v : Value) (x : AV) (g : Reg) (r : Nat) : Prop :=
  match l with
  | .f k => x = .sc v ∧ k.ok v
  | .l _ ks => ∃ q : List (Rw ks), q.length ≤ 9223372036854775807 ∧ ∀ G : AHeap, G[r]? = some g → IsR G x q
theorem open_cells : ∀ (ls : List Leaf) (cs : List Value) (off : Nat), cs.length = ls.length → (∀ (i : Nat) l v, ls[i]? = some l → cs[i]? = some v → LeafOk enc P W 0 (fun _ => true) true l v) →
    (∀ (i : Nat) e ks v, ls[i]? = some (.l e ks) → cs[i]? = some v → ∃ u e2 b0, P.underlying u = some (.slice e2) ∧ Cell.okWide P W .any b0 u v) →
    ∃ (S : List (Reg × Option Loc)) (xs : List AV), S.length = ls.length ∧ (∀ p ∈ S, SlotOk W p) ∧ (∀ ρ : Ren, (∀ i p, S[i]? = some p → ρ (off + i) = p.2) → LR ρ xs cs) ∧
      ∀ (i : Nat) l v, ls[i]? = some l → cs[i]? = some v → ∃ x p, xs[i]? = some x ∧ S[i]? = some p ∧ CellSpec l v x p.1 (off + i)
  | [], cs, off, hl, _, _ => ⟨[], [], rfl, by simp, fun ρ _ => by
      have : cs = [] := by simpa using hl
      subst this
      exact LR.nil, by simp⟩
  | l :: ls, [], off, hl, _, _ => by simp at hl
  | l :: ls, v :: cs, off, hl, h, hw => by
    obtain ⟨S, xs, s1, s2, s3, s4⟩ := open_cells ls cs (off + 1) (by simpa using hl) (fun i l v a b => h (i + 1) l v a b) (fun i e ks v a b => hw (i + 1) e ks v a b)
    have key : ∃ (p : Reg × Option Loc) (x : AV), SlotOk W p ∧ (∀ ρ : Ren, ρ off = p.2 → VR ρ x v) ∧ CellSpec l v x p.1 off := by
      have h0 := h 0 l v rfl rfl
      cases l with
      | f k => exact ⟨(⟨[], false, true⟩, none), .sc v, ⟨rfl, fun _ _ h => by cases h⟩, fun _ _ => .sc _, rfl, h0⟩
      | l e ks =>
        obtain ⟨h1, h2, ⟨d, h3⟩, t, n, y, h4, h5⟩ := h0
        obtain ⟨u, e2, b0, u1, u2⟩ := hw 0 e ks v rfl rfl
        obtain ⟨q, p, x, q1, q2, q4, q3⟩ := slot h4 h1 h2 h3 h5 u1 u2
        exact ⟨p, x off, q1, fun ρ hρ => q2 ρ off hρ, q, q4, fun G hG => q3 off G hG⟩
    obtain ⟨p, x, k1, k2, k3⟩ := key
    refine ⟨p :: S, x :: xs, by simp [s1], ?_, ?_, ?_⟩
    · intro q hq
      rcases List.mem_cons.1 hq with rfl | hq
      · exact k1
      · exact s2 q hq
    · intro ρ hρ
      refine LR.cons (k2 ρ (hρ 0 p rfl)) (s3 ρ fun i q hq => ?_)
      have := hρ (i + 1) q hq
      rwa [show off + (i + 1) = off + 1 + i by omega] at this
    · intro i l' v' hl' hv'
      cases i with
      | zero =>
        simp at hl' hv'
        subst hl' hv'
        exact ⟨x, p, rfl, rfl, k3⟩
      | succ i =>
        obtain ⟨x', p', a1, a2, a3⟩ := s4 i l' v' hl' hv'
        rw [show off + 1 + i = off + (i + 1) by omega] at a3
        exact ⟨x', p', a1, a2, a3⟩
theorem entryS {f : FuncId} {v : Value} {ags : List AV} {H' : AHeap} (S : List (Reg × Option Loc)) (hs : Sound P f ags (S.map (·.1)) (.sc v) H') (cargs : Array Value) (hS : ∀ p ∈ S, SlotOk W p)
    (hA : LR (fun r => (S[r]?).bind (·.2)) ags cargs.toList) : Calls P f cargs W fun e w' => e = .returned v ∧ RowKit.Below W.heap.size W w' := by
  refine entry hs W cargs _ ?_ ?_ hA
  · intro r g l hg hr
    rw [List.getElem?_map] at hg
    cases hp : S[r]? with
    | none => simp [hp] at hg
    | some p =>
      simp only [hp, Option.map_some, Option.some.injEq] at hg
      simp only [hp, Option.bind_some] at hr
      subst hg
      obtain ⟨o1, o2⟩ := hS p (List.mem_of_getElem? hp)
      exact ⟨o2 _ l hr, o1⟩
  · intro r l hr
    cases hp : S[r]? with
    | none => simp [hp] at hr
    | some p => exact ⟨p.1, by rw [List.getElem?_map, hp]; rfl⟩
def slicesPos (P : Program) : Bool := (List.range P.types.size).all fun t => match P.underlying t with | some (.slice e) => decide (0 < P.cellsOf e) | _ => true
/-- What was given is as it was. -/
theorem trodAll_stays {W' : World} {sp' : Nat → Bool} (h1 : laidOutB P = true) (h2 : mapsRowed P = true) (h3 : slicesPos P = true) (bel : RowKit.Below W.heap.size W W') (hsp : ∀ b, b < W.heap.size → sp' b = true) : ∀ {ts : List TypeId} {vs : List Value} {ds : List (DataW H)} {ps : List MemPlace}, (∀ t ∈ ts, t < P.types.size) → DataW.TrodAll enc P W base (fun _ => true) true ts vs ds ps → DataW.TrodAll enc P W' base sp' true ts vs ds ps
  | [], [], [], _, _, h => h
  | t :: _, _ :: _, _ :: _, _, hts, ⟨a, b, ⟨n, h4⟩, h5, e⟩ => by
    have hlt := DataW.trod_lt n _ _ _ h4
    refine ⟨a, b, ⟨n, DataW.trod_stays (kids_rows h1 h2) (fun {t e} ht hu => ?_) (fun h => by cases h) (hts t (by simp)) h4 (fun p hp => ?_) fun p hp => hsp _ (hlt p hp)⟩, trodAll_stays h1 h2 h3 bel hsp (fun t ht => hts t (by simp [ht])) h5, e⟩
    · have := List.all_eq_true.1 h3 t (List.mem_range.2 ht)
      rw [hu] at this
      simpa using this
    · have hl := hlt p hp
      cases p with
      | cell b off =>
        show W'.cell? ⟨b, off, none⟩ = W.cell? ⟨b, off, none⟩
        simp only [World.cell?, bel.block b hl]
      | map b => exact bel.block b hl
/-- The cells of a struct that is given. -/
theorem row_wide {t : TypeId} {cs : Array Value} {b0 : Nat} {r : Reach} (ts : List TypeId) (hts : P.cellTypes P.depth t = some ts) (h : Row.okWide P W r b0 t cs) (hn : cs.size = ts.length) : ∀ (i : Nat) v, cs[i]? = some v → ∃ u, ts[i]? = some u ∧ Cell.okWide P W r b0 u v := by
  obtain ⟨ts', h1, _, h3⟩ := h
  rw [hts] at h1
  simp only [Option.some.injEq] at h1
  subst h1
  intro i v hv
  obtain ⟨u, u1, u2⟩ := h3 i v hv
  have hi := (Array.getElem?_eq_some_iff.1 hv).1
  rw [Nat.mod_eq_of_lt (by omega)] at u1
  exact ⟨u, u1, u2⟩
def wideB (P : Program) (t : TypeId) (ls : List Leaf) : Bool :=
  match P.cellTypes P.depth t with
  | some ts => ts.length == ls.length && P.cellsOf t == ls.length && (List.range ls.length).all fun i => match ls[i]? with
    | some (.l _ _) => (match ts[i]? with
      | some u => (match P.underlying u with | some (.slice _) => true | _ => false)
      | none => false)
    | _ => true
  | none => false
theorem range_getD {α : Type} (d : α) (xs : List α) : xs = (List.range xs.length).map fun i => xs.getD i d := by
  apply List.ext_getElem (by simp)
  intro i h1 h2
  simp [h1]
def noSlot : Reg × Option Loc := (⟨[], false, true⟩, none)
theorem noSlot_ok : SlotOk W noSlot := ⟨rfl, fun _ _ h => by cases h⟩
/-- A struct that is given. -/
theorem open_struct {t : TypeId} {fs : Array Field} {v : Value} {d : DataW H} {p : List MemPlace} {b0 : Nat} (ls : List Leaf) (D : Nat) (ht : P.underlying t = some (.struct fs)) (hl : leaves P D t = some ls) (hw : wideB P t ls = true)
    (hv : Value.okWide P W .any b0 t v) (h : DataW.Trod enc P W 0 (fun _ => true) true t v d p) (off : Nat) :
    ∃ (X : Nat → AV) (G : Nat → Reg × Option Loc), (∀ i, SlotOk W (G i)) ∧ (∀ ρ : Ren, (∀ i, i < ls.length → ρ (off + i) = (G i).2) → VR ρ (.agg ((List.range ls.length).map X)) v) ∧ ∀ (i : Nat) l, ls[i]? = some l → ∃ v, CellSpec l v (X i) (G i).1 (off + i) := by
  unfold Value.okWide at hv
  simp only [ht] at hv
  obtain ⟨cs, rfl, hsz, hrow⟩ := hv
  unfold wideB at hw
  cases hts : P.cellTypes P.depth t with
  | none => simp [hts] at hw
  | some ts =>
    simp only [hts, Bool.and_eq_true, beq_iff_eq] at hw
    obtain ⟨⟨w1, w2⟩, w3⟩ := hw
    obtain ⟨n, hn⟩ := h
    have hcs : (Value.agg cs).cells.toList = cs.toList := rfl
    rw [hcs] at hn
    have hcl : cs.toList.length = ls.length := by rw [← w2, ← hsz]; exact Array.length_toList
    have hrw := row_wide ts hts hrow (by rw [hsz, w2, w1])
    obtain ⟨S, xs, s1, s2, s3, s4⟩ := open_cells ls cs.toList off hcl (leaves_ok D n t cs.toList _ ls hl hn) (fun i e ks v hi hvi => by
      rw [Array.getElem?_toList] at hvi
      obtain ⟨u, u1, u2⟩ := hrw i v hvi
      have hil := (List.getElem?_eq_some_iff.1 hi).1
      have := List.all_eq_true.1 w3 i (List.mem_range.2 hil)
      simp only [hi, u1] at this
      cases hu : P.underlying u with
      | none => simp [hu] at this
      | some D =>
        cases D with
        | slice e2 => exact ⟨u, e2, b0, hu, u2⟩
        | _ => simp [hu] at this)
    have hG : ∀ i, i < ls.length → S[i]? = some ((S[i]?).getD noSlot) := fun i hi => by rw [List.getElem?_eq_getElem (by omega)]; rfl
    have hxl : xs.length = ls.length := by
      have := (s3 (fun r => ((S[r - off]?).getD noSlot).2) (fun i p hp => by simp only [Nat.add_sub_cancel_left, hp]; rfl)).1
      rw [this, hcl]
    refine ⟨fun i => xs.getD i und, fun i => (S[i]?).getD noSlot, fun i => ?_, fun ρ hρ => ?_, fun i l hi => ?_⟩
    · cases hp : S[i]? with
      | none =>
        simp only [hp, Option.getD_none]
        exact noSlot_ok
      | some p =>
        simp only [hp, Option.getD_some]
        exact s2 p (List.mem_of_getElem? hp)
    · have := s3 ρ (fun i p hp => by
        have := hρ i (by rw [← s1]; exact (List.getElem?_eq_some_iff.1 hp).1)
        simp only [hp, Option.getD_some] at this
        exact this)
      rw [← hxl, ← range_getD]
      exact .agg (this.1.trans (Array.length_toList)) (fun i a v ha hv => this.2 i a v ha hv)
    · have hil := (List.getElem?_eq_some_iff.1 hi).1
      obtain ⟨x, p, a1, a2, a3⟩ := s4 i l cs.toList[i] hi (List.getElem?_eq_getElem (by omega))
      refine ⟨cs.toList[i], ?_⟩
      simp only [a2, Option.getD_some, List.getD_eq_getElem?_getD, a1]
      exact a3
/-- A slice, a number, a text that is given. -/
theorem open_one {t : TypeId} {v : Value} {d : DataW H} {p : List MemPlace} {b0 : Nat} (l : Leaf) (D : Nat) (hl : leaves P D t = some [l]) (hv : Value.okWide P W .any b0 t v) (hcw : ∀ e ks, l = .l e ks → ∃ e2, P.underlying t = some (.slice e2))
    (hvc : v.cells.toList = [v]) (h : DataW.Trod enc P W 0 (fun _ => true) true t v d p) (off : Nat) :
    ∃ (X : AV) (G : Reg × Option Loc), SlotOk W G ∧ (∀ ρ : Ren, ρ off = G.2 → VR ρ X v) ∧ CellSpec l v X G.1 off := by
  obtain ⟨n, hn⟩ := h
  rw [hvc] at hn
  obtain ⟨S, xs, s1, s2, s3, s4⟩ := open_cells [l] [v] off rfl (leaves_ok D n t [v] _ [l] hl hn) (fun i e ks u hi hvi => by
    cases i with
    | zero =>
      simp at hi hvi
      subst hi hvi
      obtain ⟨e2, he⟩ := hcw e ks rfl
      refine ⟨t, e2, b0, he, ?_⟩
      unfold Value.okWide at hv
      simpa only [he] using hv
    | succ i => simp at hi)
  obtain ⟨x, p, a1, a2, a3⟩ := s4 0 l v rfl rfl
  refine ⟨x, p, s2 p (List.mem_of_getElem? a2), fun ρ hρ => ?_, a3⟩
  have := s3 ρ (fun i q hq => by
    have hi := (List.getElem?_eq_some_iff.1 hq).1
    rw [s1] at hi
    obtain rfl : i = 0 := by simpa using hi
    rw [a2] at hq
    simp only [Option.some.injEq] at hq
    rw [← hq]
    exact hρ)
  exact this.2 0 x v a1 rfl
theorem slot_at (A B : List (Reg × Option Loc)) (n : Nat) (G : Nat → Reg × Option Loc) (off i : Nat) (hA : A.length = off) (hi : i < n) : ((A ++ ((List.range n).map G ++ B))[off + i]?).bind (·.2) = (G i).2 := by
  subst hA
  rw [List.getElem?_append_right (by omega), Nat.add_sub_cancel_left, List.getElem?_append_left (by simpa using hi), List.getElem?_map, List.getElem?_range hi]
  rfl
theorem slots_ok {n : Nat} {G : Nat → Reg × Option Loc} (h : ∀ i, SlotOk W (G i)) {B : List (Reg × Option Loc)} (hB : ∀ p ∈ B, SlotOk W p) : ∀ p ∈ (List.range n).map G ++ B, SlotOk W p := by
  intro p hp
  rcases List.mem_append.1 hp with hp | hp
  · obtain ⟨i, _, rfl⟩ := List.mem_map.1 hp
    exact h i
  · exact hB p hp
theorem slots_nil : ∀ p ∈ ([] : List (Reg × Option Loc)), SlotOk W p := fun p hp => by cases hp
/-- Rows of one number, of one truth. -/
def Rw.int1 {k : IntKind} (r : Rw [.i k]) : Int := match r.val with | [.int _ n] => n | _ => 0
def Rw.bool1 (r : Rw [.b]) : Bool := match r.val with | [.bool b] => b | _ => false
theorem rows_int1 {k : IntKind} : ∀ l : List (Rw [.i k]), rows Rw.cs l = ints k (l.map Rw.int1)
  | [] => rfl
  | ⟨r, h1, h2⟩ :: l => by
    rw [rows_cons, rows_int1 l]
    match r, h1, h2 with
    | [v], h1, h2 =>
      obtain ⟨n, rfl⟩ := h2 0 (.i k) v rfl rfl
      rfl
theorem rows_bool1 : ∀ l : List (Rw [.b]), rows Rw.cs l = bools (l.map Rw.bool1)
  | [] => rfl
  | ⟨r, h1, h2⟩ :: l => by
    rw [rows_cons, rows_bool1 l]
    match r, h1, h2 with
    | [v], h1, h2 =>
      obtain ⟨n, rfl⟩ := h2 0 .b v rfl rfl
      rfl
theorem IsR.ints {k : IntKind} {G : AHeap} {x : AV} {l : List (Rw [.i k])} (h : IsR G x l) : IsL G x k (l.map Rw.int1) := by
  rcases h with ⟨rfl, rfl⟩ | ⟨r, own, rfl, h⟩
  · exact .nil _ _
  · rw [rows_int1] at h
    exact .at h (by simp)
theorem IsR.bools {G : AHeap} {x : AV} {l : List (Rw [.b])} (h : IsR G x l) : IsB G x (l.map Rw.bool1) := by
  rcases h with ⟨rfl, rfl⟩ | ⟨r, own, rfl, h⟩
  · exact .nil _
  · rw [rows_bool1] at h
    exact .at h (by simp)
end
end Go.Proofs.Ytcjjcpdfnndenaa.Sim
namespace Go.Proofs.Ytcjjcpdfnndenaa.Sim
open Go
set_option maxRecDepth 100000
set_option maxHeartbeats 40000000
set_option linter.unusedSimpArgs false
set_option linter.unusedVariables false
theorem sameFlightU {H : AHeap} {x y x' y' : AV} {s g : List Int} (t : Int) (hx : IsL H x .i64 s) (hy : IsL H y .i64 g) (hx' : IsL H x' .i64 s) (hy' : IsL H y' .i64 g) (hs : s.length ≤ 1000000000) (hg : g.length ≤ 1000000000) : ∃ Z : AHeap, Sound Try.prog 37 [flt x y t, flt x' y' t] H (.sc (.bool true)) Z ∧ Ext H Z := by
  suffices h : ∃ v Z, Sound Try.prog 37 [flt x y t, flt x' y' t] H v Z ∧ v = .sc (.bool true) ∧ Ext H Z by
    obtain ⟨v, Z, h1, rfl, h2⟩ := h
    exact ⟨Z, h1, h2⟩
  unfold flt
  refine Sound.runP (args := [.agg [x, y, .sc (.int .i64 t)], .agg [x', y', .sc (.int .i64 t)]]) 24 [.tmp 4] Try.func37 rfl rfl rfl rfl (by simp) (fun v Z => v = .sc (.bool true) ∧ Ext H Z) ?_
  have x1 := hx.one
  have y1 := hy.one
  have x2 := hx'.one
  have y2 := hy'.one
  have c1 := fun Y => sameIntsT ((Ext.more H Y).isL hx) ((Ext.more H Y).isL hx') (by omega)
  have c2 := fun Y => sameIntsT ((Ext.more H Y).isL hy) ((Ext.more H Y).isL hy') (by omega)
  simp -implicitDefEqProofs only [↓w_seq, ↓w_region, ↓ops_cons, ↓g_box, Nat.reduceLT, ev_tab, par0, cells_agg, ne_eq, Nat.reduceEqDiff, not_false_eq_true, upd_ne, par1, ↓g_assign, ↓ops_nil, ev_const, of_bool, ↓g_fieldAddrT, upd_eq, ↓g_load, alK_some, List.all_cons, x2, y2, one_int, List.all_nil, Bool.and_self, fadr32_0, Nat.zero_add, onS_some, rd_def, tyOk22, agg22, cells22, hap_0, List.getElem?_cons_zero, rd_onec, true_and, x1, y1, List.append_assoc, List.cons_append, List.nil_append, List.length_append, List.length_cons, List.length_nil]
  refine call1S (by simp -implicitDefEqProofs only [List.map_cons, Nat.reduceLT, ev_tab, ne_eq, Nat.reduceEqDiff, not_false_eq_true, upd_ne, upd_eq, List.map_nil] <;> rfl) (c1 _) ?_
  simp -implicitDefEqProofs only [↓ops_cons, ↓g_move, Nat.reduceLT, ev_tab, upd_eq, yielded_tab, dstAt_s, dstAt_0, ybv_some, boolOf_b, ↓g_guard_t, ↓g_fieldAddrT, ne_eq, Nat.reduceEqDiff, not_false_eq_true, upd_ne, fadr32_1, Nat.zero_add, ↓g_load, onS_some, rd_def, tyOk22, agg22, cells22, hap_k, List.getElem?_cons_succ, List.getElem?_cons_zero, rd_onec, hap_0]
  refine call1S (by simp -implicitDefEqProofs only [List.map_cons, Nat.reduceLT, ev_tab, ne_eq, Nat.reduceEqDiff, not_false_eq_true, upd_ne, upd_eq, List.map_nil] <;> rfl) (c2 _) ?_
  simp -implicitDefEqProofs only [↓ops_cons, ↓g_pick, Nat.reduceLT, ev_tab, ne_eq, Nat.reduceEqDiff, not_false_eq_true, upd_ne, upd_eq, ev_const, of_bool, pick_b, if_true, ↓g_move, onS_some, yielded_tab, dstAt_s, dstAt_0, ybv_some, boolOf_b, ↓g_guard_t, ↓g_fieldAddrT, fadr32_2, Nat.zero_add, ↓g_load, ↓g_binOp, ↓g_assign, ↓ops_nil, ↓w_ret, retP_1, res_tmp, rd_def, tyOk3, agg3, cells3, hap_k, List.getElem?_cons_succ, List.getElem?_cons_zero, rd_onec, hap_0, b_eql, decide_true, true_and]
  exact Ext.more _ _
/-- A text of a list is read on both sides. -/
theorem rBoth (z : ByteArray) (hz : z.size ≤ 1000000000) (H : AHeap) : ∃ (l : List Int) (b : Bool) (x y : AV) (Z Z' : AHeap), l.length ≤ 100 ∧ Sound Try.prog 27 [.sc (.string z)] H (.tup [x, .sc (.bool b)]) Z ∧ Sound Try.prog 26 [.sc (.string z)] Z (.tup [y, .sc (.bool b)]) Z' ∧ Ext H Z ∧ Ext Z Z' ∧ IsL Z' x .i64 l ∧ IsL Z' y .i64 l := by
  cases h : rAck z with
  | some l =>
    have e := Ext.more H [⟨ints .i64 l, true, true⟩]
    have e' := Ext.more (H ++ [⟨ints .i64 l, true, true⟩]) [⟨ints .i64 l, true, true⟩]
    exact ⟨l, true, _, _, _, _, rAck_len h, rI_some hz h H, rS_some hz h _, e, e', e'.isL (IsL.mk (at_end _ _)), IsL.mk (at_end _ _)⟩
  | none => exact ⟨[], false, _, _, _, _, by simp, rI_none hz h H, rS_none hz h H, Ext.refl _, Ext.more _ _, IsL.nil _ _, .at (own := true) (at_end _ _) rfl⟩
theorem lawFnAcksTold (H : AHeap) (x : AV) (L : List Int) (hL0 : L.length ≤ 9223372036854775807) (hx : IsL H x .u8 L) : ∃ H', Sound Try.prog 11 [x] H (.sc (.bool true)) H' := by
  have key : ∃ v H', Sound Try.prog 11 [x] H v H' ∧ v = .sc (.bool true) := by
    refine Sound.runP (args := [x]) 121 [.tmp 2] Try.func11 rfl rfl rfl rfl (by simp) (fun v Z => v = .sc (.bool true)) ?_
    have hb := bigS hx
    by_cases hL : L.length ≤ 1048576
    · rw [bigNo hL] at hb
      replace hL : L.length ≤ 4000000 := by omega
      obtain ⟨l, q, Z1, l6, a1, e1, a2⟩ := drawFlightOf hx hL
      obtain ⟨s, g, l2, t, X, Y, W, Z2, s7, g7, l26, b1, e2, b2, b3, b4⟩ := drawAckedBy (e1.isL hx) hL
      have X1 := b2.one
      have Y1 := b3.one
      obtain ⟨F, hF⟩ : ∃ C : Reg, C = ⟨[X, Y, .sc (.int .i64 t)], true, true⟩ := ⟨_, rfl⟩
      have x2 := Ext.more Z2 [F]
      have f2 : (Z2 ++ [F])[Z2.length]? = some ⟨[X, Y, .sc (.int .i64 t)], true, true⟩ := by rw [← hF]; exact at_end _ _
      obtain ⟨l3, W3, Z3, l36, c1, e3, c2⟩ := drawAckList (((e1.trans e2).trans x2).isL hx) hL
      obtain ⟨zt, kb, zt1, zt2⟩ := ack_ex (l := l3) (by omega)
      obtain ⟨d1, d2⟩ := zt2 _ _ c2
      obtain ⟨z, Z4, zz, r1, e4⟩ := drawReadAck ((((e1.trans e2).trans x2).trans e3).isL hx) hL
      obtain ⟨M, mb, u, w, Z5, Z6, m1, m2, m3, e5, e6, m4, m5⟩ := rBoth z (by omega) Z4
      have y6 := ((e3.trans e4).trans e5).trans e6
      have f6 := y6.at f2
      obtain ⟨t', M', hM⟩ : ∃ (t' : Int) (M' : List Int), (Stop s g t ∧ t' = t ∧ M' = []) ∨ (¬ Stop s g t ∧ t' = t + 1 ∧ M' = leftL s g) := by
        by_cases h : Stop s g t
        · exact ⟨t, [], .inl ⟨h, rfl, rfl⟩⟩
        · exact ⟨t + 1, _, .inr ⟨h, rfl, rfl⟩⟩
      have hMl : M'.length ≤ 7 := by
        have := leftL_len s g
        rcases hM with ⟨_, _, rfl⟩ | ⟨_, _, rfl⟩
        · simp
        · omega
      obtain ⟨p7, q7, v7, Z7, g1, g2, g3, g4, g5, g6, g8, g9⟩ := saidI t t' M' hM ((x2.trans y6).isL b2) ((x2.trans y6).isL b3) (by omega) (by omega)
      have v71 := g8.isL.one
      obtain ⟨G, hG⟩ : ∃ C : Reg, C = ⟨[.sl p7 0 s.length 1, .sl q7 0 g.length 1, .sc (.int .i64 t')], true, true⟩ := ⟨_, rfl⟩
      have x7 := Ext.more Z7 [G]
      have f7 := x7.at (g2.at f6)
      have k7 : (Z7 ++ [G])[Z7.length]? = some ⟨[.sl p7 0 s.length 1, .sl q7 0 g.length 1, .sc (.int .i64 t')], true, true⟩ := by rw [← hG]; exact at_end _ _
      have y7 := (y6.trans g2).trans x7
      obtain ⟨p8, q8, v8, Z8, h1, h2, h3, h4, h5, h6, h8⟩ := saidS t t' M' hM ((x2.trans y7).isL b2) ((x2.trans y7).isL b3) (by omega) (by omega)
      have v81 := h8.1.isL.one
      obtain ⟨K, hK⟩ : ∃ C : Reg, C = ⟨[.sl p8 0 s.length 1, .sl q8 0 g.length 1, .sc (.int .i64 t')], true, true⟩ := ⟨_, rfl⟩
      have x8 := Ext.more Z8 [K]
      have k8 : (Z8 ++ [K])[Z8.length]? = some ⟨[.sl p8 0 s.length 1, .sl q8 0 g.length 1, .sc (.int .i64 t')], true, true⟩ := by rw [← hK]; exact at_end _ _
      have y8 := h2.trans x8
      -- what is there before the last region
      have w8 := (x2.trans y7).trans y8
      have f8 := y8.at f7
      have g88 := y8.at k7
      have X8 := w8.isL b2
      have Y8 := w8.isL b3
      have W8 := w8.isL b4
      have l8 := (e2.trans w8).isL (IsL.mk a2)
      have tail8 := (g2.trans x7).trans y8
      have mx := tail8.isL m4
      have my := tail8.isL m5
      have s71 : IsL (Z8 ++ [K]) (.sl p7 0 s.length 1) .i64 s := IsL.mk ((x7.trans y8).at g5)
      have s72 : IsL (Z8 ++ [K]) (.sl q7 0 g.length 1) .i64 g := IsL.mk ((x7.trans y8).at g6)
      have s73 := (g8.ext (x7.trans y8)).isL
      have s81 : IsL (Z8 ++ [K]) (.sl p8 0 s.length 1) .i64 s := IsL.mk (x8.at h5)
      have s82 : IsL (Z8 ++ [K]) (.sl q8 0 g.length 1) .i64 g := IsL.mk (x8.at h6)
      have s83 := (h8.1.ext x8).isL
      generalize hE : Z8 ++ [K] = E at *
      obtain ⟨v9, Z9, i1, i2, i3, i4⟩ := flOfI l8 (by omega)
      obtain ⟨p10, q10, Z10, j1, j2, j3, j4, j5, j6⟩ := flOfS (i2.isL l8) (by omega)
      have lfl := (flOf_ok l).2
      generalize flOf l = FL at *
      obtain ⟨Z11, o1, o2⟩ := sameFlightU 0 (j2.isL i3.isL) (IsL.nil _ _) (IsL.mk j5) (IsL.mk j6) (by omega) (by simp)
      have E11 := (i2.trans j2).trans o2
      have f11 := E11.at f8
      obtain ⟨N, hN⟩ : ∃ (N : List Int), (¬ FlOk s g t ∧ N = g) ∨ (FlOk s g t ∧ N = ackL s g l2) := by
        by_cases h : FlOk s g t
        · exact ⟨_, .inr ⟨h, rfl⟩⟩
        · exact ⟨_, .inl ⟨h, rfl⟩⟩
      have hNl : N.length ≤ 7 := by
        have := ackL_len s g l2
        rcases hN with ⟨_, rfl⟩ | ⟨_, rfl⟩ <;> omega
      obtain ⟨p12, v12, Z12, r1', r2, r3, r4, r5, r6⟩ := ackedI t N hN (E11.isL X8) (E11.isL Y8) (E11.isL W8) (by omega) (by omega) (by omega)
      have E12 := E11.trans r2
      have f12 := E12.at f8
      obtain ⟨p13, v13, Z13, u1, u2, u3, u4, u5, u6⟩ := ackedS t N hN (E12.isL X8) (E12.isL Y8) (E12.isL W8) (by omega) (by omega) (by omega)
      obtain ⟨Z14, w1, w2⟩ := sameFlightU t (IsL.mk (u2.at r4)) ((r5.ext u2).isL) (IsL.mk u4) u5.isL (by omega) (by omega)
      have E14 := (E12.trans u2).trans w2
      have c14 := sameIntsT (E14.isL mx) (E14.isL my) (by omega)
      obtain ⟨Z15, d15, d16⟩ := sameFlightU t' (E14.isL s71) (E14.isL s72) (E14.isL s81) (E14.isL s82) (by omega) (by omega)
      have E15 := E14.trans d16
      have c15 := sameIntsT (E15.isL s73) (E15.isL s83) (by omega)
      have f15 := E15.at f8
      obtain ⟨fb, hfb⟩ : ∃ b : Bool, b = true ↔ FlOk s g t := by
        by_cases h : FlOk s g t
        · exact ⟨true, fun _ => h, fun _ => rfl⟩
        · exact ⟨false, fun h => Bool.noConfusion h, fun q => absurd q h⟩
      obtain ⟨Z16, d17, d18⟩ := flOkI t fb hfb (E15.isL X8) (E15.isL Y8) (by omega) (by omega)
      have E16 := E15.trans d18
      have f16 := E16.at f8
      obtain ⟨Z17, d19, d20⟩ := flOkS t fb hfb (E16.isL X8) (E16.isL Y8) (by omega) (by omega)
      have E17 := E16.trans d20
      have f17 := E17.at f8
      obtain ⟨q18, Z18, d21, d22, d23, d24⟩ := leftI t (E17.isL X8) (E17.isL Y8) (by omega) (by omega)
      have E18 := E17.trans d22
      have f18 := E18.at f8
      obtain ⟨q19, Z19, d25, d26, d27, d28⟩ := leftS t (E18.isL X8) (E18.isL Y8) (by omega) (by omega)
      have hll := leftL_len s g
      have c19 := sameIntsT (IsL.mk (d26.at d24)) (IsL.mk d28) (by omega)
      have g14 := E14.at g88
      have k14 := E14.at k8
      unfold flt at b1 g1 h1 i1 j1 o1 r1' u1 w1 d15 d17 d19 d21 d25
      simp -implicitDefEqProofs only [↓w_seq, ↓w_region, ↓ops_cons, ↓g_assign, ↓ops_nil, ev_const, of_bool, ↓g_move, Nat.reduceLT, ev_tab, ne_eq, reduceCtorEq, not_false_eq_true, upd_ne, par0]
      refine call1S (by simp -implicitDefEqProofs only [List.map_cons, Nat.reduceLT, ev_tab, upd_eq, List.map_nil] <;> rfl) hb ?_
      simp -implicitDefEqProofs only [↓ops_nil, ↓w_cond, Nat.reduceLT, ev_tab, upd_eq, ↓w_seq, ↓w_region, ↓ops_cons, ↓g_assign, ↓w_ret, ev_const, of_bool, retP_1, res_tmp, onS_some, ↓w_skip, ↓g_move, ne_eq, reduceCtorEq, not_false_eq_true, upd_ne, par0, onB_false]
      refine call1S (by simp -implicitDefEqProofs only [List.map_cons, Nat.reduceLT, ev_tab, upd_eq, List.map_nil] <;> rfl) a1 ?_
      simp -implicitDefEqProofs only [↓ops_cons, ↓g_assign, ↓ops_nil, ↓w_seq, ↓w_region, Nat.reduceLT, ev_tab, upd_eq, ↓g_move, ne_eq, reduceCtorEq, not_false_eq_true, upd_ne, par0]
      refine call1S (by simp -implicitDefEqProofs only [List.map_cons, Nat.reduceLT, ev_tab, upd_eq, List.map_nil] <;> rfl) b1 ?_
      simp -implicitDefEqProofs only [↓ops_cons, ↓g_move, ↓g_extract, Nat.reduceLT, ev_tab, upd_eq, ext_0, ne_eq, Nat.reduceEqDiff, not_false_eq_true, upd_ne, ext_1, ↓g_alloc, zero32, Option.map_some, ↓g_store, ↓g_assign, ↓ops_nil, ↓w_seq, ↓w_region, reduceCtorEq, par0, alK_some, List.all_cons, one_nil, one_int, List.all_nil, Bool.and_self, wr_def, tyOk32, cells32, hap_0, List.getElem?_cons_zero, wr_c, Nat.zero_add, List.length_cons, List.length_nil, Nat.reduceAdd, Nat.le_refl, true_and, hset_0, List.set_cons_zero, onS_ite, onS_some, cells_agg, X1, Y1, and_self, ovr_fm, ovr_fn]
      rw [← hF]
      refine call1S (by simp -implicitDefEqProofs only [List.map_cons, Nat.reduceLT, ev_tab, upd_eq, List.map_nil] <;> rfl) c1 ?_
      simp -implicitDefEqProofs only [↓ops_cons, ↓g_assign, ↓ops_nil, ↓w_seq, ↓w_region, Nat.reduceLT, ev_tab, upd_eq, ↓g_move]
      refine call1S (by simp -implicitDefEqProofs only [List.map_cons, Nat.reduceLT, ev_tab, upd_eq, List.map_nil] <;> rfl) d1 ?_
      simp -implicitDefEqProofs only [↓ops_cons, ↓g_move, ↓g_extract, Nat.reduceLT, ev_tab, upd_eq, ext_0, ne_eq, Nat.reduceEqDiff, not_false_eq_true, upd_ne, ext_1, ↓g_assign, ↓ops_nil, ↓w_seq, ↓w_region, onS_some]
      refine call1S (by simp -implicitDefEqProofs only [List.map_cons, Nat.reduceLT, ev_tab, upd_eq, List.map_nil] <;> rfl) d2 ?_
      simp -implicitDefEqProofs only [↓ops_cons, ↓g_move, ↓g_extract, Nat.reduceLT, ev_tab, upd_eq, ext_0, ne_eq, Nat.reduceEqDiff, not_false_eq_true, upd_ne, ext_1, ↓g_assign, ↓ops_nil, ↓w_seq, ↓w_region, reduceCtorEq, par0, onS_some]
      refine call1S (by simp -implicitDefEqProofs only [List.map_cons, Nat.reduceLT, ev_tab, upd_eq, List.map_nil] <;> rfl) r1 ?_
      simp -implicitDefEqProofs only [↓ops_cons, ↓g_assign, ↓ops_nil, ↓w_seq, ↓w_region, Nat.reduceLT, ev_tab, upd_eq, ↓g_move]
      refine call1S (by simp -implicitDefEqProofs only [List.map_cons, Nat.reduceLT, ev_tab, upd_eq, List.map_nil] <;> rfl) m2 ?_
      simp -implicitDefEqProofs only [↓ops_cons, ↓g_move, ↓g_extract, Nat.reduceLT, ev_tab, upd_eq, ext_0, ne_eq, Nat.reduceEqDiff, not_false_eq_true, upd_ne, ext_1, ↓g_assign, ↓ops_nil, ↓w_seq, ↓w_region, onS_some]
      refine call1S (by simp -implicitDefEqProofs only [List.map_cons, Nat.reduceLT, ev_tab, upd_eq, List.map_nil] <;> rfl) m3 ?_
      simp -implicitDefEqProofs only [↓ops_cons, ↓g_move, ↓g_extract, Nat.reduceLT, ev_tab, upd_eq, ext_0, ne_eq, Nat.reduceEqDiff, not_false_eq_true, upd_ne, ext_1, ↓g_assign, ↓ops_nil, ↓w_seq, ↓w_region, ↓g_load, rd_def, tyOk32, agg32, cells32, f6, rd_aggc, Nat.zero_add, List.length_cons, List.length_nil, Nat.reduceAdd, Nat.le_refl, List.drop_zero, List.take_succ_cons, List.take_zero, if_true, onS_some]
      refine call1S (by simp -implicitDefEqProofs only [List.map_cons, Nat.reduceLT, ev_tab, upd_eq, List.map_nil] <;> rfl) g1 ?_
      simp -implicitDefEqProofs only [↓ops_cons, ↓g_move, ↓g_extract, Nat.reduceLT, ev_tab, upd_eq, ext_0, ne_eq, Nat.reduceEqDiff, not_false_eq_true, upd_ne, ext_1, ↓g_alloc, zero32, Option.map_some, ↓g_store, ↓g_assign, ↓ops_nil, ↓w_seq, ↓w_region, ↓g_load, rd_def, tyOk32, agg32, cells32, alK_some, List.all_cons, one_nil, one_int, List.all_nil, Bool.and_self, wr_def, hap_0, List.getElem?_cons_zero, wr_c, Nat.zero_add, List.length_cons, List.length_nil, Nat.reduceAdd, Nat.le_refl, true_and, hset_0, List.set_cons_zero, onS_ite, onS_some, cells_agg, one_sl, and_self, ovr_fm, ovr_fn]
      rw [← hG]
      simp -implicitDefEqProofs only [f7, rd_aggc, Nat.zero_add, List.length_cons, List.length_nil, Nat.reduceAdd, Nat.le_refl, List.drop_zero, List.take_succ_cons, List.take_zero, if_true, onS_some]
      refine call1S (by simp -implicitDefEqProofs only [List.map_cons, Nat.reduceLT, ev_tab, upd_eq, List.map_nil] <;> rfl) h1 ?_
      simp -implicitDefEqProofs only [↓ops_cons, ↓g_move, ↓g_extract, Nat.reduceLT, ev_tab, upd_eq, ext_0, ne_eq, Nat.reduceEqDiff, not_false_eq_true, upd_ne, ext_1, ↓g_alloc, zero32, Option.map_some, ↓g_store, ↓g_assign, ↓ops_nil, ↓w_seq, alK_some, List.all_cons, one_nil, one_int, List.all_nil, Bool.and_self, wr_def, tyOk32, cells32, hap_0, List.getElem?_cons_zero, wr_c, Nat.zero_add, List.length_cons, List.length_nil, Nat.reduceAdd, Nat.le_refl, true_and, hset_0, List.set_cons_zero, onS_ite, onS_some, cells_agg, one_sl, and_self, ovr_fm, ovr_fn]
      rw [← hK, hE]
      refine drawn [(6, 5), (9, 5), (9, 9), (35, 28), (36, 28), (45, 43), (47, 43), (47, 47), (52, 49), (54, 49), (54, 54)] follows (by kernel_rfl) (by kernel_rfl) ?_
      simp -implicitDefEqProofs only [↓dops_cons, ↓g_move, Nat.reduceLT, ev_tab, ne_eq, Nat.reduceEqDiff, not_false_eq_true, upd_ne, upd_eq]
      refine call1S (by simp -implicitDefEqProofs only [List.map_cons, Nat.reduceLT, ev_tab, upd_eq, List.map_nil] <;> rfl) i1 ?_
      simp -implicitDefEqProofs only [↓dops_cons, ↓g_move, Nat.reduceLT, ev_tab, ne_eq, Nat.reduceEqDiff, not_false_eq_true, upd_ne, upd_eq]
      refine call1S (by simp -implicitDefEqProofs only [List.map_cons, Nat.reduceLT, ev_tab, upd_eq, List.map_nil] <;> rfl) j1 ?_
      simp -implicitDefEqProofs only [↓dops_cons]
      refine call1S (by simp -implicitDefEqProofs only [List.map_cons, Nat.reduceLT, ev_tab, ne_eq, Nat.reduceEqDiff, not_false_eq_true, upd_ne, upd_eq, List.map_nil, List.length_nil] <;> rfl) o1 ?_
      simp -implicitDefEqProofs only [↓dops_cons, ↓g_move, Nat.reduceLT, ev_tab, upd_eq, yielded_tab, dstAt_s, dstAt_0, ybv_some, boolOf_b, ↓g_guard_t, ↓g_load, ne_eq, Nat.reduceEqDiff, not_false_eq_true, upd_ne, rd_def, tyOk32, agg32, cells32, f11, rd_aggc, Nat.zero_add, List.length_cons, List.length_nil, Nat.reduceAdd, Nat.le_refl, List.drop_zero, List.take_succ_cons, List.take_zero, if_true, onS_some]
      refine call1S (by simp -implicitDefEqProofs only [List.map_cons, Nat.reduceLT, ev_tab, ne_eq, Nat.reduceEqDiff, not_false_eq_true, upd_ne, upd_eq, List.map_nil] <;> rfl) r1' ?_
      simp -implicitDefEqProofs only [↓dops_cons, yielded_tab, dstAt_s, dstAt_0, Nat.reduceLT, ybv_some, ne_eq, Nat.reduceEqDiff, not_false_eq_true, upd_ne, upd_eq, boolOf_b, ↓g_guard_t, ↓g_load, ev_tab, rd_def, tyOk32, agg32, cells32, f12, rd_aggc, Nat.zero_add, List.length_cons, List.length_nil, Nat.reduceAdd, Nat.le_refl, List.drop_zero, List.take_succ_cons, List.take_zero, if_true, ↓g_move, onS_some]
      refine call1S (by simp -implicitDefEqProofs only [List.map_cons, Nat.reduceLT, ev_tab, ne_eq, Nat.reduceEqDiff, not_false_eq_true, upd_ne, upd_eq, List.map_nil] <;> rfl) u1 ?_
      simp -implicitDefEqProofs only [↓dops_cons, yielded_tab, dstAt_s, dstAt_0, Nat.reduceLT, ybv_some, ne_eq, Nat.reduceEqDiff, not_false_eq_true, upd_ne, upd_eq, boolOf_b, ↓g_guard_t]
      refine call1S (by simp -implicitDefEqProofs only [List.map_cons, Nat.reduceLT, ev_tab, ne_eq, Nat.reduceEqDiff, not_false_eq_true, upd_ne, upd_eq, List.map_nil] <;> rfl) w1 ?_
      simp -implicitDefEqProofs only [↓dops_cons, ↓g_pick, Nat.reduceLT, ev_tab, ne_eq, Nat.reduceEqDiff, not_false_eq_true, upd_ne, upd_eq, ev_const, of_bool, pick_b, if_true, ↓g_move, onS_some, yielded_tab, dstAt_s, dstAt_0, ybv_some, boolOf_b, ↓g_guard_t, ↓g_binOp, t_eql, beq_self_eq_true, v_eql _ _ _ _ Try.underlying4]
      refine call1S (by simp -implicitDefEqProofs only [List.map_cons, Nat.reduceLT, ev_tab, ne_eq, Nat.reduceEqDiff, not_false_eq_true, upd_ne, upd_eq, List.map_nil] <;> rfl) c14 ?_
      simp -implicitDefEqProofs only [↓dops_cons, ↓g_pick, Nat.reduceLT, ev_tab, ne_eq, Nat.reduceEqDiff, not_false_eq_true, upd_ne, upd_eq, ev_const, of_bool, pick_b, if_true, ↓g_move, onS_some, yielded_tab, dstAt_s, dstAt_0, ybv_some, boolOf_b, ↓g_guard_t, ↓g_binOp, v_eql _ _ _ _ Try.underlying4, beq_self_eq_true, ↓g_load, rd_def, tyOk32, agg32, cells32, g14, rd_aggc, Nat.zero_add, List.length_cons, List.length_nil, Nat.reduceAdd, Nat.le_refl, List.drop_zero, List.take_succ_cons, List.take_zero, k14]
      refine call1S (by simp -implicitDefEqProofs only [List.map_cons, Nat.reduceLT, ev_tab, ne_eq, Nat.reduceEqDiff, not_false_eq_true, upd_ne, upd_eq, List.map_nil] <;> rfl) d15 ?_
      simp -implicitDefEqProofs only [↓dops_cons, ↓g_pick, Nat.reduceLT, ev_tab, ne_eq, Nat.reduceEqDiff, not_false_eq_true, upd_ne, upd_eq, ev_const, of_bool, pick_b, if_true, ↓g_move, onS_some, yielded_tab, dstAt_s, dstAt_0, ybv_some, boolOf_b, ↓g_guard_t]
      refine call1S (by simp -implicitDefEqProofs only [List.map_cons, Nat.reduceLT, ev_tab, ne_eq, Nat.reduceEqDiff, not_false_eq_true, upd_ne, upd_eq, List.map_nil] <;> rfl) c15 ?_
      simp -implicitDefEqProofs only [↓dops_cons, ↓g_pick, Nat.reduceLT, ev_tab, ne_eq, Nat.reduceEqDiff, not_false_eq_true, upd_ne, upd_eq, ev_const, of_bool, pick_b, if_true, ↓g_move, onS_some, yielded_tab, dstAt_s, dstAt_0, ybv_some, boolOf_b, ↓g_guard_t, ↓g_load, rd_def, tyOk32, agg32, cells32, f15, rd_aggc, Nat.zero_add, List.length_cons, List.length_nil, Nat.reduceAdd, Nat.le_refl, List.drop_zero, List.take_succ_cons, List.take_zero]
      refine call1S (by simp -implicitDefEqProofs only [List.map_cons, Nat.reduceLT, ev_tab, upd_eq, List.map_nil] <;> rfl) d17 ?_
      simp -implicitDefEqProofs only [↓dops_cons, yielded_tab, dstAt_s, dstAt_0, Nat.reduceLT, ybv_some, ne_eq, Nat.reduceEqDiff, not_false_eq_true, upd_ne, upd_eq, boolOf_b, ↓g_guard_t, ↓g_load, ev_tab, rd_def, tyOk32, agg32, cells32, f16, rd_aggc, Nat.zero_add, List.length_cons, List.length_nil, Nat.reduceAdd, Nat.le_refl, List.drop_zero, List.take_succ_cons, List.take_zero, if_true, onS_some]
      refine call1S (by simp -implicitDefEqProofs only [List.map_cons, Nat.reduceLT, ev_tab, upd_eq, List.map_nil] <;> rfl) d19 ?_
      simp -implicitDefEqProofs only [↓dops_cons, yielded_tab, dstAt_s, dstAt_0, Nat.reduceLT, ybv_some, ne_eq, Nat.reduceEqDiff, not_false_eq_true, upd_ne, upd_eq, boolOf_b, ↓g_guard_t, ↓g_binOp, ev_tab, v_eql _ _ _ _ Try.underlying4, beq_self_eq_true, ↓g_pick, ev_const, of_bool, pick_b, if_true, ↓g_move, onS_some, ↓g_load, rd_def, tyOk32, agg32, cells32, f17, rd_aggc, Nat.zero_add, List.length_cons, List.length_nil, Nat.reduceAdd, Nat.le_refl, List.drop_zero, List.take_succ_cons, List.take_zero]
      refine call1S (by simp -implicitDefEqProofs only [List.map_cons, Nat.reduceLT, ev_tab, upd_eq, List.map_nil] <;> rfl) d21 ?_
      simp -implicitDefEqProofs only [↓dops_cons, yielded_tab, dstAt_s, dstAt_0, Nat.reduceLT, ybv_some, ne_eq, Nat.reduceEqDiff, not_false_eq_true, upd_ne, upd_eq, boolOf_b, ↓g_guard_t, ↓g_load, ev_tab, rd_def, tyOk32, agg32, cells32, f18, rd_aggc, Nat.zero_add, List.length_cons, List.length_nil, Nat.reduceAdd, Nat.le_refl, List.drop_zero, List.take_succ_cons, List.take_zero, if_true, onS_some]
      refine call1S (by simp -implicitDefEqProofs only [List.map_cons, Nat.reduceLT, ev_tab, upd_eq, List.map_nil] <;> rfl) d25 ?_
      simp -implicitDefEqProofs only [↓dops_cons, yielded_tab, dstAt_s, dstAt_0, Nat.reduceLT, ybv_some, ne_eq, Nat.reduceEqDiff, not_false_eq_true, upd_ne, upd_eq, boolOf_b, ↓g_guard_t]
      refine call1S (by simp -implicitDefEqProofs only [List.map_cons, Nat.reduceLT, ev_tab, ne_eq, Nat.reduceEqDiff, not_false_eq_true, upd_ne, upd_eq, List.map_nil] <;> rfl) c19 ?_
      simp -implicitDefEqProofs only [↓dops_cons, ↓g_pick, Nat.reduceLT, ev_tab, ne_eq, Nat.reduceEqDiff, not_false_eq_true, upd_ne, upd_eq, ev_const, of_bool, pick_b, if_true, ↓g_assign, ↓dops_p, ↓w_ret, retP_1, res_tmp, onS_some, and_true]
      exact pairs_cons (same_calm (by kernel_rfl)) (pairs_cons (same_ld _ _ Z2.length 0 rfl rfl (f11.trans f12.symm)) (pairs_cons (same_calm (by kernel_rfl)) (pairs_cons (same_calm (by kernel_rfl)) (pairs_cons (same_calm (by kernel_rfl)) (pairs_cons (same_calm (by kernel_rfl)) (pairs_cons (same_ld _ _ Z2.length 0 rfl rfl (f15.trans f16.symm)) (pairs_cons (same_calm (by kernel_rfl)) (pairs_cons (same_calm (by kernel_rfl)) (pairs_cons (same_ld _ _ Z2.length 0 rfl rfl (f17.trans f18.symm)) (pairs_cons (same_calm (by kernel_rfl)) pairs_nil))))))))))
    · rw [bigYes hL] at hb
      simp -implicitDefEqProofs only [↓w_seq, ↓w_region, ↓ops_cons, ↓g_assign, ↓ops_nil, ev_const, of_bool, ↓g_move, Nat.reduceLT, ev_tab, ne_eq, reduceCtorEq, not_false_eq_true, upd_ne, par0]
      refine call1S (by simp -implicitDefEqProofs only [List.map_cons, Nat.reduceLT, ev_tab, upd_eq, List.map_nil] <;> rfl) hb ?_
      simp -implicitDefEqProofs only [↓ops_nil, ↓w_cond, Nat.reduceLT, ev_tab, upd_eq, ↓w_seq, ↓w_region, ↓ops_cons, ↓g_assign, ↓w_ret, ev_const, of_bool, retP_1, res_tmp, onS_some, ↓w_skip, ↓g_move, ne_eq, reduceCtorEq, not_false_eq_true, upd_ne, par0, onB_true]
  obtain ⟨v, H', h1, rfl⟩ := key
  exact ⟨H', h1⟩
end Go.Proofs.Ytcjjcpdfnndenaa.Sim
