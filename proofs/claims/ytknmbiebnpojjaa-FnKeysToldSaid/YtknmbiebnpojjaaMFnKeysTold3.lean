/- Texts of this proof, put together. -/
import Derived.Test.YtknmbiebnpojjaaMFnKeysTold2
import Derived.Test.YtknmbiebnpojjaaTy
import Derived.Test.YtknmbiebnpojjaaChecked
import Derived.ChangeSlices
import Derived.ChangeShapes
import Derived.WideShapes
import Derived.ChangeArms
import Derived.ChangeOld
import Derived.ChangeStays
namespace Go.Proofs.Ytknmbiebnpojjaa.Sim
open Go
set_option maxRecDepth 100000
set_option maxHeartbeats 4000000
set_option linter.unusedSimpArgs false
set_option linter.unusedVariables false
theorem bdCur (x : AV) (h : Int) (hx : x.cells = [x]) : buildV Try.prog 110 [(0, x), (2, .sc (.int .i64 h))] = some (.agg [x, .sc (.int .i64 0), .sc (.int .i64 h)]) := by
  simp [buildV, fillA, placeS, overA, hx, cells_int, Try.underlying0, Try.underlying1, Try.underlying2, Try.underlying3, Try.underlying4, Try.underlying5, Try.underlying6, Try.underlying7, Try.underlying8, Try.underlying9, Try.underlying10, Try.underlying11, Try.underlying12, Try.underlying13, Try.underlying14, Try.underlying15, Try.underlying16, Try.underlying17, Try.underlying18, Try.underlying19, Try.underlying20, Try.underlying21, Try.underlying22, Try.underlying23, Try.underlying24, Try.underlying25, Try.underlying26, Try.underlying27, Try.underlying28, Try.underlying29, Try.underlying30, Try.underlying31, Try.underlying32, Try.underlying33, Try.underlying34, Try.underlying35, Try.underlying36, Try.underlying37, Try.underlying38, Try.underlying39, Try.underlying40, Try.underlying41, Try.underlying42, Try.underlying43, Try.underlying44, Try.underlying45, Try.underlying46, Try.underlying47, Try.underlying48, Try.underlying49, Try.underlying50, Try.underlying51, Try.underlying52, Try.underlying53, Try.underlying54, Try.underlying55, Try.underlying56, Try.underlying57, Try.underlying58, Try.underlying59, Try.underlying60, Try.underlying61, Try.underlying62, Try.underlying63, Try.underlying64, Try.underlying65, Try.underlying66, Try.underlying67, Try.underlying68, Try.underlying69, Try.underlying70, Try.underlying71, Try.underlying72, Try.underlying73, Try.underlying74, Try.underlying75, Try.underlying76, Try.underlying77, Try.underlying78, Try.underlying79, Try.underlying80, Try.underlying81, Try.underlying82, Try.underlying83, Try.underlying84, Try.underlying85, Try.underlying86, Try.underlying87, Try.underlying88, Try.underlying89, Try.underlying90, Try.underlying91, Try.underlying92, Try.underlying93, Try.underlying94, Try.underlying95, Try.underlying96, Try.underlying97, Try.underlying98, Try.underlying99, Try.underlying100, Try.underlying101, Try.underlying102, Try.underlying103, Try.underlying104, Try.underlying105, Try.underlying106, Try.underlying107, Try.underlying108, Try.underlying109, Try.underlying110, Try.underlying111, Try.underlying112, Try.underlying113, Try.underlying114, Try.underlying115, Try.underlying116, Try.underlying117, Try.underlying118, Try.underlying119, Try.underlying120, Try.underlying121, Try.underlying122, Try.underlying123, Try.underlying124, Try.underlying125, Try.underlying126, Try.underlying127, Try.underlying128, Try.underlying129, Try.underlying130, Try.underlying131, Try.underlying132, Try.underlying133, Try.underlying134, Try.underlying135, Try.underlying136, Try.underlying137, Try.underlying138, Try.underlying139, Try.underlying140, Try.underlying141, Try.underlying142, Try.underlying143, Try.underlying144, Try.underlying145, Try.underlying146, Try.underlying147, tyOk0, agg0, cells0, tyOk1, agg1, cells1, tyOk2, agg2, cells2, zero2, info2, mk2, bs2_0, bs2_1, bs2_2, bs2_3, bs2_4, bs2_5, bs2_6, bs2_7, bs2_8, bs2_10, bs2_11, bs2_12, bs2_13, tyOk3, agg3, cells3, zero3, apS26, apN26, info3, mk3, bs3_0, bs3_1, bs3_2, bs3_3, bs3_4, bs3_5, bs3_6, bs3_7, bs3_8, bs3_10, bs3_11, bs3_12, bs3_13, tyOk4, agg4, cells4, zero4, info4, mk4, bs4_0, bs4_1, bs4_2, apS52, apN52, tyOk5, agg5, cells5, isU5, zero5, apS22, apN22, apStr22, info5, mk5, bs5_0, bs5_1, bs5_2, bs5_3, bs5_4, bs5_5, bs5_6, bs5_7, bs5_8, bs5_10, bs5_11, bs5_12, bs5_13, tyOk6, agg6, cells6, isU6, zero6, info6, mk6, bs6_0, bs6_1, bs6_2, bs6_3, bs6_4, bs6_5, bs6_6, bs6_7, bs6_8, bs6_10, bs6_11, bs6_12, bs6_13, tyOk7, agg7, cells7, zero7, fadr7_0, fld7_0, fadr7_1, fld7_1, fadr7_2, fld7_2, fadr7_3, fld7_3, bz7, bds7, tyOk8, agg8, cells8, zero8, fadr8_0, fld8_0, fadr8_1, fld8_1, fadr8_2, fld8_2, fadr8_3, fld8_3, bz8, bds8, tyOk9, agg9, cells9, zero9, info9, bs9_0, bs9_1, bs9_2, bs9_3, bs9_4, bs9_5, bs9_6, bs9_8, bs9_9, bs9_10, apS125, apN125, tyOk10, agg10, cells10, zero10, info10, bs10_0, bs10_1, bs10_2, bs10_3, bs10_4, bs10_5, bs10_6, bs10_8, bs10_9, bs10_10, tyOk11, agg11, cells11, zero11, info11, bs11_0, bs11_1, bs11_2, bs11_3, bs11_4, bs11_5, bs11_6, bs11_8, bs11_9, bs11_10, tyOk12, agg12, cells12, zero12, info12, mk12, bs12_0, bs12_1, bs12_2, bs12_3, bs12_4, bs12_5, bs12_6, bs12_7, bs12_8, bs12_10, bs12_11, bs12_12, bs12_13, tyOk13, agg13, cells13, zero13, fadr13_0, fld13_0, fadr13_1, fld13_1, bz13, bds13, tyOk14, agg14, cells14, zero14, fadr14_0, fld14_0, fadr14_1, fld14_1, bz14, bds14, tyOk15, agg15, cells15, zero15, tyOk16, agg16, cells16, zero16, tyOk17, agg17, cells17, zero17, tyOk18, agg18, cells18, zero18, fadr18_0, fld18_0, bz18, bds18, tyOk19, agg19, cells19, zero19, fadr19_0, fld19_0, bz19, bds19, tyOk20, agg20, cells20, tyOk21, agg21, cells21, zero21, info21, mk21, bs21_0, bs21_1, bs21_2, bs21_3, bs21_4, bs21_5, bs21_6, bs21_7, bs21_8, bs21_10, bs21_11, bs21_12, bs21_13, tyOk22, agg22, cells22, zero22, tyOk23, agg23, cells23, tyOk24, agg24, cells24, tyOk25, agg25, cells25, tyOk26, agg26, cells26, zero26, tyOk27, agg27, cells27, tyOk28, agg28, cells28, tyOk29, agg29, cells29, zero29, info29, mk29, bs29_0, bs29_1, bs29_2, bs29_3, bs29_4, bs29_5, bs29_6, bs29_7, bs29_8, bs29_10, bs29_11, bs29_12, bs29_13, tyOk30, agg30, cells30, tyOk31, agg31, cells31, tyOk32, agg32, cells32, tyOk33, agg33, cells33, tyOk34, agg34, cells34, tyOk35, agg35, cells35, tyOk36, agg36, cells36, tyOk37, agg37, cells37, tyOk38, agg38, cells38, tyOk39, agg39, cells39, tyOk40, agg40, cells40, tyOk41, agg41, cells41, tyOk42, agg42, cells42, tyOk43, agg43, cells43, tyOk44, agg44, cells44, tyOk45, agg45, cells45, tyOk46, agg46, cells46, tyOk47, agg47, cells47, tyOk48, agg48, cells48, tyOk49, agg49, cells49, zero49, tyOk50, agg50, cells50, tyOk51, agg51, cells51, tyOk52, agg52, cells52, zero52, tyOk53, agg53, cells53, zero53, fadr53_0, fld53_0, fadr53_1, fld53_1, fadr53_2, fld53_2, fadr53_3, fld53_3, bz53, bds53, tyOk54, agg54, cells54, zero54, fadr54_0, fld54_0, fadr54_1, fld54_1, fadr54_2, fld54_2, fadr54_3, fld54_3, bz54, bds54, tyOk55, agg55, cells55, tyOk56, agg56, cells56, tyOk57, agg57, cells57, zero57, fadr57_0, fld57_0, fadr57_1, fld57_1, fadr57_2, fld57_2, fadr57_3, fld57_3, bz57, bds57, tyOk58, agg58, cells58, zero58, info58, apS49, apN49, bs58_1, bs58_0, fadr58_0, fld58_0, fadr58_1, fld58_1, fadr58_2, fld58_2, fadr58_3, fld58_3, bz58, bds58, tyOk59, agg59, cells59, tyOk60, agg60, cells60, tyOk61, agg61, cells61, tyOk62, agg62, cells62, tyOk63, agg63, cells63, tyOk64, agg64, cells64, tyOk65, agg65, cells65, tyOk66, agg66, cells66, tyOk67, agg67, cells67, tyOk68, agg68, cells68, tyOk69, agg69, cells69, tyOk70, agg70, cells70, tyOk71, agg71, cells71, tyOk72, agg72, cells72, tyOk73, agg73, cells73, tyOk74, agg74, cells74, zero74, tyOk75, agg75, cells75, tyOk76, agg76, cells76, tyOk77, agg77, cells77, tyOk78, agg78, cells78, zero78, ix78, bz78, tyOk79, agg79, cells79, tyOk80, agg80, cells80, tyOk81, agg81, cells81, tyOk82, agg82, cells82, tyOk83, agg83, cells83, tyOk84, agg84, cells84, tyOk85, agg85, cells85, zero85, info85, mk85, bs85_0, bs85_1, bs85_2, bs85_3, bs85_4, bs85_5, bs85_6, bs85_7, bs85_8, bs85_10, bs85_11, bs85_12, bs85_13, tyOk86, agg86, cells86, zero86, ix86, bz86, bd86, tyOk87, agg87, cells87, tyOk88, agg88, cells88, zero88, ix88, bz88, tyOk89, agg89, cells89, tyOk90, agg90, cells90, tyOk91, agg91, cells91, tyOk92, agg92, cells92, tyOk93, agg93, cells93, tyOk94, agg94, cells94, tyOk95, agg95, cells95, tyOk96, agg96, cells96, tyOk97, agg97, cells97, tyOk98, agg98, cells98, tyOk99, agg99, cells99, tyOk100, agg100, cells100, tyOk101, agg101, cells101, tyOk102, agg102, cells102, tyOk103, agg103, cells103, tyOk104, agg104, cells104, tyOk105, agg105, cells105, tyOk106, agg106, cells106, tyOk107, agg107, cells107, tyOk108, agg108, cells108, tyOk109, agg109, cells109, zero109, fadr109_0, fld109_0, fadr109_1, fld109_1, fadr109_2, fld109_2, bz109, bds109, tyOk110, agg110, cells110, zero110, fadr110_0, fld110_0, fadr110_1, fld110_1, fadr110_2, fld110_2, bz110, bds110, tyOk111, agg111, cells111, tyOk112, agg112, cells112, tyOk113, agg113, cells113, zero113, tyOk114, agg114, cells114, zero114, fadr114_0, fld114_0, fadr114_1, fld114_1, bz114, bds114, tyOk115, agg115, cells115, zero115, fadr115_0, fld115_0, fadr115_1, fld115_1, bz115, bds115, tyOk116, agg116, cells116, tyOk117, agg117, cells117, tyOk118, agg118, cells118, tyOk119, agg119, cells119, tyOk120, agg120, cells120, tyOk121, agg121, cells121, tyOk122, agg122, cells122, tyOk123, agg123, cells123, tyOk124, agg124, cells124, tyOk125, agg125, cells125, zero125, tyOk126, agg126, cells126, tyOk127, agg127, cells127, tyOk128, agg128, cells128, tyOk129, agg129, cells129, zero129, info129, mk129, bs129_0, bs129_1, bs129_2, bs129_3, bs129_4, bs129_5, bs129_6, bs129_7, bs129_8, bs129_10, bs129_11, bs129_12, bs129_13, tyOk130, agg130, cells130, tyOk131, agg131, cells131, tyOk132, agg132, cells132, zero132, tyOk133, agg133, cells133, zero133, tyOk134, agg134, cells134, tyOk135, agg135, cells135, tyOk136, agg136, cells136, zero136, fadr136_0, fld136_0, fadr136_1, fld136_1, fadr136_2, fld136_2, fadr136_3, fld136_3, bz136, bds136, tyOk137, agg137, cells137, zero137, fadr137_0, fld137_0, fadr137_1, fld137_1, fadr137_2, fld137_2, fadr137_3, fld137_3, bz137, bds137, tyOk138, agg138, cells138, zero138, tyOk139, agg139, cells139, zero139, tyOk140, agg140, cells140, zero140, tyOk141, agg141, cells141, isU141, zero141, info141, mk141, bs141_0, bs141_1, bs141_2, bs141_3, bs141_4, bs141_5, bs141_6, bs141_7, bs141_8, bs141_10, bs141_11, bs141_12, bs141_13, tyOk142, agg142, cells142, isU142, zero142, info142, mk142, bs142_0, bs142_1, bs142_2, bs142_3, bs142_4, bs142_5, bs142_6, bs142_7, bs142_8, bs142_10, bs142_11, bs142_12, bs142_13, tyOk143, agg143, cells143, tyOk144, agg144, cells144, zero144, info144, mk144, bs144_0, bs144_1, bs144_2, bs144_3, bs144_4, bs144_5, bs144_6, bs144_7, bs144_8, bs144_10, bs144_11, bs144_12, bs144_13, tyOk145, agg145, cells145, zero145, info145, mk145, bs145_0, bs145_1, bs145_2, bs145_3, bs145_4, bs145_5, bs145_6, bs145_7, bs145_8, bs145_10, bs145_11, bs145_12, bs145_13, tyOk146, agg146, cells146, fadr146_0, fld146_0, fadr146_1, fld146_1, fadr146_2, fld146_2, fadr146_3, fld146_3, fadr146_4, fld146_4, fadr146_5, fld146_5, fadr146_6, fld146_6, fadr146_7, fld146_7, fadr146_8, fld146_8, fadr146_9, fld146_9, fadr146_10, fld146_10, tyOk147, agg147, cells147, fadr147_0, fld147_0, fadr147_1, fld147_1, fadr147_2, fld147_2, fadr147_3, fld147_3, fadr147_4, fld147_4, fadr147_5, fld147_5, fadr147_6, fld147_6, fadr147_7, fld147_7, fadr147_8, fld147_8, fadr147_9, fld147_9, fadr147_10, fld147_10]
theorem drawNew {H : AHeap} {x : AV} {L : List Int} (hx : IsL H x .u8 L) (hL : L.length ≤ 4000000) : ∃ (r : Nat) (Z : AHeap), Sound Try.prog 58 [x] H (.ptr r 0) Z ∧ H.length ≤ r ∧ Cur Z r x L ∧ Ext H Z := by
  suffices h : ∃ v Z, Sound Try.prog 58 [x] H v Z ∧ ∃ r, v = .ptr r 0 ∧ H.length ≤ r ∧ Cur Z r x L ∧ Ext H Z by
    obtain ⟨v, Z, h1, r, rfl, h3⟩ := h
    exact ⟨r, Z, h1, h3⟩
  refine Sound.runP (args := [x]) 32 [.tmp 2] Try.func58 rfl rfl rfl rfl (by simp) (fun v Z => ∃ r, v = .ptr r 0 ∧ H.length ≤ r ∧ Cur Z r x L ∧ Ext H Z) ?_
  have lx := fun e => hx.len e
  have x1 : x.cells = [x] ∧ x.one = true := by
    rcases hx.kind with ⟨_, _, _, rfl⟩ | rfl <;> exact ⟨rfl, rfl⟩
  simp -implicitDefEqProofs only [↓w_seq, ↓w_region, ↓ops_cons, ↓g_assign, ↓ops_nil, ev_const, ↓g_move, ↓g_len, Try.underlying22, Nat.reduceLT, ev_tab, ne_eq, reduceCtorEq, not_false_eq_true, upd_ne, par0, upd_eq, lx, ↓g_binOp, of_int, ↓w_block, onS_some, b_add]
  refine w_loop (ι := Nat) (fun i s => ∃ (T : Nat → AV), s = ⟨tab 32 T, H⟩ ∧ i ≤ L.length ∧ T 0 = x ∧ (∃ h : Int, T 3 = .sc (.int .i64 h)) ∧ T 4 = .sc (.int .i64 i)) (fun i => L.length - i) ?_ (i := 0) ?_
  · rintro i s ⟨T, rfl, a1, a2, ⟨h, a3⟩, a4⟩
    have hend : Cur (H ++ [cur x 0 h]) H.length x L := ⟨⟨0, h, at_end _ _⟩, (Ext.more H _).isL hx⟩
    by_cases hi : i < L.length
    · have k1 : (i : Int) < L.length := by omega
      have k2 : (0 : Int) ≤ i := by omega
      have e1 : IntKind.i64.wrap ((i : Int) + 1) = i + 1 := w64 (by omega) (by omega)
      by_cases h4 : i < 4000
      · have k3 : (i : Int) < 4000 := by omega
        obtain ⟨q, o, rfl, hq⟩ := hx.get hi
        simp -implicitDefEqProofs only [↓w_seq, ↓w_region, ↓ops_cons, ↓g_move, ↓g_len, Try.underlying22, Nat.reduceLT, ev_tab, a4, ne_eq, reduceCtorEq, not_false_eq_true, upd_ne, a2, upd_eq, lx, ↓g_binOp, Nat.reduceEqDiff, onS_some, b_lss, k1, decide_true, yielded_tab, dstAt_s, dstAt_0, ybv_some, boolOf_b, ↓g_guard_t, ev_const, of_int, k3, ↓g_pick, of_bool, pick_b, if_true, ↓ops_nil, ↓w_cond, ↓w_skip, ↓w_block, a3, b_mul, ↓g_indexAddr, adr_sl, k2, cells5, tyOk5, and_self, Int.toNat_natCast, Nat.mul_one, Nat.zero_add, ↓g_load, ↓g_convert, Try.underlying5, Try.underlying3, ↓g_assign, b_add, e1, rd_def, agg5, hq, rd_ints, hi, c_int, b_and, ↓w_exit, ↓g_buildV, List.map_cons, List.map_nil, ↓g_box, ↓w_ret, retP_1, res_tmp, alK_some, onB_true]
        refine ⟨i + 1, by omega, _, rfl, by omega, ?_, ?_, ?_⟩
        · simp -implicitDefEqProofs only [ne_eq, reduceCtorEq, not_false_eq_true, upd_ne, a2]
        · simp -implicitDefEqProofs only [ne_eq, Nat.reduceEqDiff, not_false_eq_true, upd_ne, upd_eq]
          exact ⟨_, rfl⟩
        · simp -implicitDefEqProofs only [upd_eq] <;> rfl
      · have k3 : ¬ (i : Int) < 4000 := by omega
        simp -implicitDefEqProofs only [↓w_seq, ↓w_region, ↓ops_cons, ↓g_move, ↓g_len, Try.underlying22, Nat.reduceLT, ev_tab, a4, ne_eq, reduceCtorEq, not_false_eq_true, upd_ne, a2, upd_eq, lx, ↓g_binOp, Nat.reduceEqDiff, onS_some, b_lss, k1, decide_true, yielded_tab, dstAt_s, dstAt_0, ybv_some, boolOf_b, ↓g_guard_t, ev_const, of_int, k3, decide_false, ↓g_pick, of_bool, pick_b, if_true, ↓ops_nil, ↓w_cond, ↓w_skip, ↓w_block, a3, b_mul, ↓g_indexAddr, ↓g_load, ↓g_convert, Try.underlying5, Try.underlying3, ↓g_assign, b_add, ↓w_exit, ↓g_buildV, List.map_cons, List.map_nil, bdCur _ _ x1.1, ↓g_box, ↓w_ret, retP_1, res_tmp, alK_some, cells_agg, List.all_cons, x1, one_int, List.all_nil, Bool.and_self, true_and, onB_false]
        exact ⟨_, rfl, Nat.le_refl _, hend, Ext.more _ _⟩
    · have k1 : ¬ (i : Int) < L.length := by omega
      simp -implicitDefEqProofs only [↓w_seq, ↓w_region, ↓ops_cons, ↓g_move, ↓g_len, Try.underlying22, Nat.reduceLT, ev_tab, a4, ne_eq, reduceCtorEq, not_false_eq_true, upd_ne, a2, upd_eq, lx, ↓g_binOp, Nat.reduceEqDiff, onS_some, b_lss, k1, decide_false, yielded_tab, dstAt_s, dstAt_0, ybv_some, boolOf_b, Bool.not_true, ↓g_guard_f, ↓g_pick, ev_const, of_bool, pick_b, if_false, ↓ops_nil, ↓w_cond, ↓w_skip, ↓w_block, a3, of_int, b_mul, ↓g_indexAddr, ↓g_load, ↓g_convert, Try.underlying5, Try.underlying3, ↓g_assign, b_add, ↓w_exit, ↓g_buildV, List.map_cons, List.map_nil, bdCur _ _ x1.1, ↓g_box, ↓w_ret, retP_1, res_tmp, alK_some, cells_agg, List.all_cons, x1, one_int, List.all_nil, Bool.and_self, true_and, if_true, onB_false]
      exact ⟨_, rfl, Nat.le_refl _, hend, Ext.more _ _⟩
  · refine ⟨_, rfl, by omega, ?_, ?_, ?_⟩
    · simp -implicitDefEqProofs only [ne_eq, reduceCtorEq, not_false_eq_true, upd_ne, par0]
    · simp -implicitDefEqProofs only [ne_eq, Nat.reduceEqDiff, not_false_eq_true, upd_ne, upd_eq]
      exact ⟨_, rfl⟩
    · simp -implicitDefEqProofs only [upd_eq, Int.cast_ofNat_Int] <;> rfl
/-- Twelve numbers below 10000. -/
theorem drawPlaces {H : AHeap} {x : AV} {L : List Int} (hx : IsL H x .u8 L) (hL : L.length ≤ 4000000) : ∃ (l : List Nat) (q : Nat) (Z : AHeap), l.length = 12 ∧ (∀ a ∈ l, a < 10000) ∧ H.length ≤ q ∧ Z[q]? = some ⟨ints .i64 (l.map fun a : Nat => (a : Int)), true, true⟩ ∧ Sound Try.prog 19 [x] H (.sl q 0 12 1) Z ∧ Ext H Z := by
  suffices h : ∃ v Z, Sound Try.prog 19 [x] H v Z ∧ ∃ (l : List Nat) (q : Nat), l.length = 12 ∧ (∀ a ∈ l, a < 10000) ∧ H.length ≤ q ∧ Z[q]? = some ⟨ints .i64 (l.map fun a : Nat => (a : Int)), true, true⟩ ∧ v = .sl q 0 12 1 ∧ Ext H Z by
    obtain ⟨v, Z, h1, l, q, h2, h3, h4, h5, rfl, h6⟩ := h
    exact ⟨l, q, Z, h2, h3, h4, h5, h1, h6⟩
  refine Sound.runP (args := [x]) 21 [.tmp 2] Try.func19 rfl rfl rfl rfl (by simp) (fun v Z => ∃ (l : List Nat) (q : Nat), l.length = 12 ∧ (∀ a ∈ l, a < 10000) ∧ H.length ≤ q ∧ Z[q]? = some ⟨ints .i64 (l.map fun a : Nat => (a : Int)), true, true⟩ ∧ v = .sl q 0 12 1 ∧ Ext H Z) ?_
  simp -implicitDefEqProofs only [↓w_seq, ↓w_region, ↓ops_cons, ↓g_assign, ↓ops_nil, ev_const, ↓g_move, Nat.reduceLT, ev_tab, ne_eq, reduceCtorEq, not_false_eq_true, upd_ne, par0]
  obtain ⟨r, Z0, n1, n2, n3, n4⟩ := drawNew hx hL
  refine call1S (by simp -implicitDefEqProofs only [List.map_cons, Nat.reduceLT, ev_tab, upd_eq, List.map_nil] <;> rfl) n1 ?_
  simp -implicitDefEqProofs only [↓ops_cons, ↓g_assign, ↓ops_nil, ↓w_seq, ↓w_region, Nat.reduceLT, ev_tab, upd_eq, ↓g_move]
  obtain ⟨v, Z1, v1, v2, v3⟩ := drawByte n3 hL
  refine call1S (by simp -implicitDefEqProofs only [List.map_cons, Nat.reduceLT, ev_tab, upd_eq, List.map_nil] <;> rfl) v2 ?_
  simp -implicitDefEqProofs only [↓ops_nil, ↓w_seq, ↓w_region, ↓ops_cons, ↓g_buildSlice, Try.underlying26, List.map_nil, bs3_0, ↓g_assign, Nat.reduceLT, ev_tab, upd_eq, ↓w_block, ev_const, of_int, alK_some, ints_one, true_and]
  have c0 := n3.dr v3
  have hr := c0.lt
  refine w_loop (ι := Nat) (fun i s => ∃ (T : Nat → AV) (Z : AHeap) (l : List Nat) (q : Nat), s = ⟨tab 21 T, Z⟩ ∧ i ≤ 12 ∧ l.length = i ∧ (∀ a ∈ l, a < 10000) ∧ Dr r x Z1 Z ∧ Z1.length ≤ q ∧ Z[q]? = some ⟨ints .i64 (l.map fun a : Nat => (a : Int)), true, true⟩ ∧ T 3 = .ptr r 0 ∧ T 4 = .sl q 0 i 1 ∧ T 5 = .sc (.int .i64 i)) (fun i => 12 - i) ?_ (i := 0) ?_
  · rintro i s ⟨T, Z, l, q, rfl, a0, a1, ab, a2, a3, a4, a5, a6, a7⟩
    by_cases h : i < 12
    · have k1 : (i : Int) < 12 := by omega
      have e1 : IntKind.i64.wrap ((i : Int) + 1) = i + 1 := w64 (by omega) (by omega)
      simp -implicitDefEqProofs only [↓w_seq, ↓w_region, ↓ops_cons, ↓g_move, ↓g_binOp, Nat.reduceLT, ev_tab, a7, upd_eq, ev_const, of_int, b_lss, k1, decide_true, ↓ops_nil, ↓w_cond, ↓w_skip, ↓w_block, ne_eq, Nat.reduceEqDiff, not_false_eq_true, upd_ne, a6, a5, ↓w_exit, ↓g_assign, ↓w_ret, retP_1, res_tmp, onS_some, if_true, onB_true]
      obtain ⟨m, Y, m1, m2, m3⟩ := drawBelow (c0.dr a2) hL 10000 (by omega) (by omega)
      refine call1S (by simp -implicitDefEqProofs only [List.map_cons, Nat.reduceLT, ev_tab, upd_eq, ev_const, of_int, List.map_nil, Int.cast_ofNat_Int] <;> rfl) m2 ?_
      have hY := m3.at (c0.dr a2) a4
      have hq : q < Y.length := at_lt hY
      have hY2 : ∀ g : Reg, (Y ++ [g])[q]? = some ⟨ints .i64 (l.map fun a : Nat => (a : Int)), true, true⟩ := fun g => (at_more _ _ _ hq).trans hY
      have hll : (l.map fun a : Nat => (a : Int)).length = i := by rw [List.length_map, a1]
      have k3 : i ≤ (l.map fun a : Nat => (a : Int)).length := by omega
      have k4 : (i + 1) * 8 ≤ 140737488355328 := by omega
      have k5 : i + 1 ≤ 140737488355328 := by omega
      have k6 : (l.map fun a : Nat => (a : Int)).take i = l.map fun a : Nat => (a : Int) := List.take_of_length_le (by omega)
      have hmm : (l ++ [m]).map (fun a : Nat => (a : Int)) = (l.map fun a : Nat => (a : Int)) ++ [(m : Int)] := by simp
      generalize hA : (l.map fun a : Nat => (a : Int)) = A at *
      simp -implicitDefEqProofs only [↓ops_cons, ↓g_buildSlice, Try.underlying26, List.map_cons, Nat.reduceLT, ev_tab, upd_eq, List.map_nil, bs3_1, ↓g_append, ne_eq, Nat.reduceEqDiff, not_false_eq_true, upd_ne, apS26, ↓g_assign, ↓ops_nil, ↓w_region, ↓g_move, ↓g_binOp, a7, ev_const, of_int, b_add, e1, onS_some, alK_some, ints_one, hY2, src_sl, at_end, at_ints, Nat.zero_add, List.length_cons, List.length_nil, Nat.le_refl, List.drop_zero, List.take_succ_cons, List.take_zero, if_true, ap_ints, k3, k4, k5, and_self, List.length_append, k6, true_and]
      refine ⟨i + 1, by omega, _, _, l ++ [m], Y.length + 1, rfl, by omega, by simp [a1], ?_, ((((a2.trans m3).more hr _).kill a3 hr).more hr _), ?_, ?_, ?_, ?_, ?_⟩
      · intro b hb
        rcases List.mem_append.1 hb with hb | hb
        · exact ab b hb
        · simp at hb
          omega
      · have := (a2.trans m3).1
        omega
      · have := at_end (killReg (Y ++ [⟨ints .i64 [(m : Int)], true, true⟩]) q) ⟨ints .i64 (A ++ [(m : Int)]), true, true⟩
        rw [hmm]
        rwa [kill_len, List.length_append, List.length_singleton] at this
      · simp -implicitDefEqProofs only [ne_eq, Nat.reduceEqDiff, not_false_eq_true, upd_ne, a5]
      · simp -implicitDefEqProofs only [ne_eq, Nat.reduceEqDiff, not_false_eq_true, upd_ne, upd_eq]
      · simp -implicitDefEqProofs only [upd_eq] <;> rfl
    · have k1 : ¬ (i : Int) < 12 := by omega
      have hi : i = 12 := by omega
      subst hi
      simp -implicitDefEqProofs only [↓w_seq, ↓w_region, Nat.reduceSub, ↓ops_cons, ↓g_move, ↓g_binOp, Nat.reduceLT, ev_tab, a7, Int.cast_ofNat_Int, upd_eq, ev_const, of_int, b_lss, Int.reduceLT, decide_false, ↓ops_nil, ↓w_cond, ↓w_skip, ↓w_block, ne_eq, Nat.reduceEqDiff, not_false_eq_true, upd_ne, a6, a5, ↓w_exit, ↓g_assign, ↓w_ret, retP_1, res_tmp, onS_some, if_true, onB_false]
      have e0 : Ext H Z1 := Dr.ext n4 v3 n2
      exact ⟨l, q, a1, ab, Nat.le_trans e0.1 a3, a4, rfl, Dr.ext e0 a2 n2⟩
  · refine ⟨_, _, [], Z1.length, rfl, by omega, rfl, by simp, Dr.start c0 _, Nat.le_refl _, at_end _ _, ?_, ?_, ?_⟩ <;> simp -implicitDefEqProofs only [ne_eq, Nat.reduceEqDiff, not_false_eq_true, upd_ne, upd_eq, Int.cast_ofNat_Int] <;> rfl
theorem drawSome {H : AHeap} {r : Nat} {x : AV} {L : List Int} (c : Cur H r x L) (hL : L.length ≤ 4000000) : ∃ (z : ByteArray) (Z : AHeap), z.size ≤ 200 ∧ Sound Try.prog 57 [.ptr r 0] H (.sc (.string z)) Z ∧ Dr r x H Z := by
  suffices h : ∃ v Z, Sound Try.prog 57 [.ptr r 0] H v Z ∧ ∃ z : ByteArray, z.size ≤ 200 ∧ v = .sc (.string z) ∧ Dr r x H Z by
    obtain ⟨v, Z, h1, n, h2, rfl, h3⟩ := h
    exact ⟨n, Z, h2, h1, h3⟩
  refine Sound.runP (args := [.ptr r 0]) 10 [.tmp 2] Try.func57 rfl rfl rfl rfl (by simp) (fun v Z => ∃ z : ByteArray, z.size ≤ 200 ∧ v = .sc (.string z) ∧ Dr r x H Z) ?_
  simp -implicitDefEqProofs only [↓w_seq, ↓w_region, ↓ops_cons, ↓g_assign, ↓ops_nil, ev_const, of_str, ↓g_move, ↓g_buildSlice, Try.underlying26, Nat.reduceLT, ev_tab, ne_eq, reduceCtorEq, not_false_eq_true, upd_ne, par0, List.map_cons, of_int, List.map_nil, bs3_13, alK_some, ints_one, true_and]
  obtain ⟨j, Z1, j1, j2, j3⟩ := drawPickInt (c.app _) hL (.at (at_end _ ⟨ints .i64 [0, 1, 3, 9, 54, 55, 56, 63, 64, 65, 119, 120, 200], true, true⟩) rfl) (by decide) (by decide)
  refine call1S (by simp -implicitDefEqProofs only [List.map_cons, Nat.reduceLT, ev_tab, ne_eq, Nat.reduceEqDiff, not_false_eq_true, upd_ne, upd_eq, List.map_nil, List.length_cons, List.length_nil, Nat.zero_add, Nat.reduceAdd] <;> rfl) j2 ?_
  have hj : ∀ j < 13, ∃ n : Nat, n ≤ 200 ∧ ([0, 1, 3, 9, 54, 55, 56, 63, 64, 65, 119, 120, 200] : List Int).getD j 0 = n := by
    decide
  obtain ⟨n, n1, n2⟩ := hj j j1
  rw [n2]
  simp -implicitDefEqProofs only [↓ops_cons, ↓g_assign, ↓ops_nil, ↓w_seq, ↓w_region, Nat.reduceLT, ev_tab, upd_eq, ↓g_move, ne_eq, reduceCtorEq, not_false_eq_true, upd_ne, par0, Nat.reduceEqDiff]
  obtain ⟨z, Z2, z1, z2, z3⟩ := drawText ((c.app _).dr j3) hL n (by omega)
  refine call1S (by simp -implicitDefEqProofs only [List.map_cons, Nat.reduceLT, ev_tab, ne_eq, Nat.reduceEqDiff, not_false_eq_true, upd_ne, upd_eq, List.map_nil] <;> rfl) z2 ?_
  simp -implicitDefEqProofs only [↓ops_cons, ↓g_assign, ↓ops_nil, ↓w_ret, Nat.reduceLT, ev_tab, upd_eq, retP_1, res_tmp, onS_some]
  exact ⟨z, by omega, rfl, (j3.app).trans z3⟩
theorem drawTextOf {H : AHeap} {x : AV} {L : List Int} (hx : IsL H x .u8 L) (hL : L.length ≤ 4000000) : ∃ (z : ByteArray) (Z : AHeap), z.size ≤ 200 ∧ Sound Try.prog 9 [x] H (.sc (.string z)) Z ∧ Ext H Z := by
  suffices h : ∃ v Z, Sound Try.prog 9 [x] H v Z ∧ ∃ z : ByteArray, z.size ≤ 200 ∧ v = .sc (.string z) ∧ Ext H Z by
    obtain ⟨v, Z, h1, n, h2, rfl, h3⟩ := h
    exact ⟨n, Z, h2, h1, h3⟩
  refine Sound.runP (args := [x]) 6 [.tmp 2] Try.func9 rfl rfl rfl rfl (by simp) (fun v Z => ∃ z : ByteArray, z.size ≤ 200 ∧ v = .sc (.string z) ∧ Ext H Z) ?_
  obtain ⟨r, Z0, n1, n2, n3, n4⟩ := drawNew hx hL
  obtain ⟨z, Z1, z1, z2, z3⟩ := drawSome n3 hL
  simp -implicitDefEqProofs only [↓w_seq, ↓w_region, ↓ops_cons, ↓g_assign, ↓ops_nil, ev_const, of_str, ↓g_move, Nat.reduceLT, ev_tab, ne_eq, reduceCtorEq, not_false_eq_true, upd_ne, par0]
  refine call1S (by simp -implicitDefEqProofs only [List.map_cons, Nat.reduceLT, ev_tab, upd_eq, List.map_nil] <;> rfl) n1 ?_
  simp -implicitDefEqProofs only [↓ops_cons]
  refine call1S (by simp -implicitDefEqProofs only [List.map_cons, Nat.reduceLT, ev_tab, upd_eq, List.map_nil] <;> rfl) z2 ?_
  simp -implicitDefEqProofs only [↓ops_cons, ↓g_assign, ↓ops_nil, ↓w_ret, Nat.reduceLT, ev_tab, upd_eq, retP_1, res_tmp, onS_some]
  exact ⟨z, z1, rfl, Dr.ext n4 z3 n2⟩
end Go.Proofs.Ytknmbiebnpojjaa.Sim
namespace Go.Proofs.Ytknmbiebnpojjaa.Sim
open Go
set_option maxRecDepth 100000
set_option maxHeartbeats 4000000
set_option linter.unusedSimpArgs false
set_option linter.unusedVariables false
theorem draw22Text {H : AHeap} {r : Nat} {x : AV} {L : List Int} (c : Cur H r x L) (hL : L.length ≤ 4000000) : ∃ (z : ByteArray) (Z : AHeap), z.size ≤ 97 ∧ Sound Try.prog 78 [.ptr r 0] H (.sc (.string z)) Z ∧ Dr r x H Z := by
  suffices h : ∃ v Z, Sound Try.prog 78 [.ptr r 0] H v Z ∧ ∃ z : ByteArray, z.size ≤ 97 ∧ v = .sc (.string z) ∧ Dr r x H Z by
    obtain ⟨v, Z, h1, n, h2, rfl, h3⟩ := h
    exact ⟨n, Z, h2, h1, h3⟩
  refine Sound.runP (args := [.ptr r 0]) 10 [.tmp 2] Try.func78 rfl rfl rfl rfl (by simp) (fun v Z => ∃ z : ByteArray, z.size ≤ 97 ∧ v = .sc (.string z) ∧ Dr r x H Z) ?_
  simp -implicitDefEqProofs only [↓w_seq, ↓w_region, ↓ops_cons, ↓g_assign, ↓ops_nil, ev_const, of_str, ↓g_move, ↓g_buildSlice, Try.underlying125, Nat.reduceLT, ev_tab, ne_eq, reduceCtorEq, not_false_eq_true, upd_ne, par0, List.map_cons, List.map_nil, bs9_4, alK_some, strs_one, true_and]
  obtain ⟨j, Z1, j1, j2, j3⟩ := drawPick (l := [(⟨#[]⟩ : ByteArray), (⟨#[97]⟩ : ByteArray), (⟨#[72, 105, 32, 84, 104, 101, 114, 101]⟩ : ByteArray), (⟨#[119, 104, 97, 116, 32, 100, 111, 32, 121, 97, 32, 119, 97, 110, 116, 32, 102, 111, 114, 32, 110, 111, 116, 104, 105, 110, 103, 63]⟩ : ByteArray)]) (c.app _) hL (at_end _ ⟨strs [(⟨#[]⟩ : ByteArray), (⟨#[97]⟩ : ByteArray), (⟨#[72, 105, 32, 84, 104, 101, 114, 101]⟩ : ByteArray), (⟨#[119, 104, 97, 116, 32, 100, 111, 32, 121, 97, 32, 119, 97, 110, 116, 32, 102, 111, 114, 32, 110, 111, 116, 104, 105, 110, 103, 63]⟩ : ByteArray)], true, true⟩) (by decide) (by decide)
  refine call1S (by simp -implicitDefEqProofs only [List.map_cons, Nat.reduceLT, ev_tab, ne_eq, Nat.reduceEqDiff, not_false_eq_true, upd_ne, upd_eq, List.map_nil, List.length_cons, List.length_nil, Nat.zero_add, Nat.reduceAdd] <;> rfl) j2 ?_
  have hj : ∀ j < 4, (([(⟨#[]⟩ : ByteArray), (⟨#[97]⟩ : ByteArray), (⟨#[72, 105, 32, 84, 104, 101, 114, 101]⟩ : ByteArray), (⟨#[119, 104, 97, 116, 32, 100, 111, 32, 121, 97, 32, 119, 97, 110, 116, 32, 102, 111, 114, 32, 110, 111, 116, 104, 105, 110, 103, 63]⟩ : ByteArray)] : List ByteArray).getD j ByteArray.empty).size ≤ 28 := by
    decide
  have hz := hj j j1
  generalize ([(⟨#[]⟩ : ByteArray), (⟨#[97]⟩ : ByteArray), (⟨#[72, 105, 32, 84, 104, 101, 114, 101]⟩ : ByteArray), (⟨#[119, 104, 97, 116, 32, 100, 111, 32, 121, 97, 32, 119, 97, 110, 116, 32, 102, 111, 114, 32, 110, 111, 116, 104, 105, 110, 103, 63]⟩ : ByteArray)] : List ByteArray).getD j ByteArray.empty = z at *
  simp -implicitDefEqProofs only [↓ops_cons, ↓g_move, Nat.reduceLT, ev_tab, ne_eq, reduceCtorEq, not_false_eq_true, upd_ne, par0]
  obtain ⟨n, Z2, n1, n2, n3⟩ := drawBelow ((c.app _).dr j3) hL 70 (by omega) (by omega)
  refine call1S (by simp -implicitDefEqProofs only [List.map_cons, Nat.reduceLT, ev_tab, upd_eq, ev_const, of_int, List.map_nil, Int.cast_ofNat_Int] <;> rfl) n2 ?_
  simp -implicitDefEqProofs only [↓ops_cons]
  refine call1 (by simp -implicitDefEqProofs only [List.map_cons, Nat.reduceLT, ev_tab, upd_eq, ev_const, of_int, List.map_nil] <;> rfl) (longD n 7 (by omega)) ?_
  have hr : (repD n 7).length = n := List.length_replicate ..
  simp -implicitDefEqProofs only [↓ops_cons, ↓g_binOp, Nat.reduceLT, ev_tab, ne_eq, Nat.reduceEqDiff, not_false_eq_true, upd_ne, upd_eq, t_add, son_size, hr, ↓g_assign, ↓ops_nil, ↓w_ret, retP_1, res_tmp, onS_some, onS_ite]
  refine ⟨by omega, _, ?_, rfl, (j3.app).trans n3⟩
  rw [ByteArray.size_append, son_size, hr]
  omega
end Go.Proofs.Ytknmbiebnpojjaa.Sim
namespace Go.Proofs.Ytknmbiebnpojjaa.Sim
open Go
set_option maxRecDepth 100000
set_option maxHeartbeats 4000000
set_option linter.unusedSimpArgs false
set_option linter.unusedVariables false
theorem draw22Key {H : AHeap} {r : Nat} {x : AV} {L : List Int} (c : Cur H r x L) (hL : L.length ≤ 4000000) : ∃ (z : ByteArray) (Z : AHeap), z.size ≤ 100 ∧ Sound Try.prog 77 [.ptr r 0] H (.sc (.string z)) Z ∧ Dr r x H Z := by
  suffices h : ∃ v Z, Sound Try.prog 77 [.ptr r 0] H v Z ∧ ∃ z : ByteArray, z.size ≤ 100 ∧ v = .sc (.string z) ∧ Dr r x H Z by
    obtain ⟨v, Z, h1, n, h2, rfl, h3⟩ := h
    exact ⟨n, Z, h2, h1, h3⟩
  refine Sound.runP (args := [.ptr r 0]) 12 [.tmp 2] Try.func77 rfl rfl rfl rfl (by simp) (fun v Z => ∃ z : ByteArray, z.size ≤ 100 ∧ v = .sc (.string z) ∧ Dr r x H Z) ?_
  simp -implicitDefEqProofs only [↓w_seq, ↓w_region, ↓ops_cons, ↓g_assign, ↓ops_nil, ev_const, of_str, ↓g_move, ↓g_buildSlice, Try.underlying26, Nat.reduceLT, ev_tab, ne_eq, reduceCtorEq, not_false_eq_true, upd_ne, par0, List.map_cons, of_int, List.map_nil, bs3_8, alK_some, ints_one, true_and]
  obtain ⟨j, Z1, j1, j2, j3⟩ := drawPickInt (c.app _) hL (.at (at_end _ ⟨ints .i64 [0, 1, 20, 32, 63, 64, 65, 100], true, true⟩) rfl) (by decide) (by decide)
  refine call1S (by simp -implicitDefEqProofs only [List.map_cons, Nat.reduceLT, ev_tab, ne_eq, Nat.reduceEqDiff, not_false_eq_true, upd_ne, upd_eq, List.map_nil, List.length_cons, List.length_nil, Nat.zero_add, Nat.reduceAdd] <;> rfl) j2 ?_
  have hj : ∀ j < 8, ∃ n : Nat, n ≤ 100 ∧ ([0, 1, 20, 32, 63, 64, 65, 100] : List Int).getD j 0 = n := by
    decide
  obtain ⟨n, n1, n2⟩ := hj j j1
  rw [n2]
  simp -implicitDefEqProofs only [↓ops_cons, ↓g_assign, ↓ops_nil, ↓w_seq, ↓w_region, Nat.reduceLT, ev_tab, upd_eq, ↓g_move, ne_eq, reduceCtorEq, not_false_eq_true, upd_ne, par0]
  obtain ⟨f, Z2, f1, f2, f3⟩ := drawByte ((c.app _).dr j3) hL
  refine call1S (by simp -implicitDefEqProofs only [List.map_cons, Nat.reduceLT, ev_tab, upd_eq, List.map_nil] <;> rfl) f2 ?_
  simp -implicitDefEqProofs only [↓ops_cons, ↓g_convert, Try.underlying3, Try.underlying5, Nat.reduceLT, ev_tab, upd_eq, c_int]
  refine call1 (by simp -implicitDefEqProofs only [List.map_cons, Nat.reduceLT, ev_tab, ne_eq, Nat.reduceEqDiff, not_false_eq_true, upd_ne, upd_eq, List.map_nil] <;> rfl) (longD n _ (by omega)) ?_
  have hr : ∀ b, (repD n b).length = n := fun b => List.length_replicate ..
  simp -implicitDefEqProofs only [↓ops_cons, ↓g_assign, ↓ops_nil, ↓w_ret, Nat.reduceLT, ev_tab, upd_eq, retP_1, res_tmp, onS_some]
  exact ⟨_, by rw [son_size, hr]; omega, rfl, (j3.app).trans f3⟩
theorem drawHmac {H : AHeap} {x : AV} {L : List Int} (hx : IsL H x .u8 L) (hL : L.length ≤ 4000000) : ∃ (a b : ByteArray) (Z : AHeap), a.size ≤ 100 ∧ b.size ≤ 97 ∧ Sound Try.prog 84 [x] H (.tup [.sc (.string a), .sc (.string b)]) Z ∧ Ext H Z := by
  suffices h : ∃ v Z, Sound Try.prog 84 [x] H v Z ∧ ∃ (a b : ByteArray), a.size ≤ 100 ∧ b.size ≤ 97 ∧ v = .tup [.sc (.string a), .sc (.string b)] ∧ Ext H Z by
    obtain ⟨v, Z, h1, a, b, h2, h3, rfl, h4⟩ := h
    exact ⟨a, b, Z, h2, h3, h1, h4⟩
  refine Sound.runP (args := [x]) 13 [.tmp 2, .tmp 3] Try.func84 rfl rfl rfl rfl (by simp) (fun v Z => ∃ (a b : ByteArray), a.size ≤ 100 ∧ b.size ≤ 97 ∧ v = .tup [.sc (.string a), .sc (.string b)] ∧ Ext H Z) ?_
  simp -implicitDefEqProofs only [↓w_seq, ↓w_region, ↓ops_cons, ↓g_assign, ↓ops_nil, ev_const, of_str, ↓g_move, Nat.reduceLT, ev_tab, ne_eq, reduceCtorEq, not_false_eq_true, upd_ne, par0]
  obtain ⟨r, Z0, n1, n2, n3, n4⟩ := drawNew hx hL
  refine call1S (by simp -implicitDefEqProofs only [List.map_cons, Nat.reduceLT, ev_tab, upd_eq, List.map_nil] <;> rfl) n1 ?_
  simp -implicitDefEqProofs only [↓ops_cons, ↓g_assign, ↓ops_nil, ↓w_seq, ↓w_region, Nat.reduceLT, ev_tab, upd_eq, ↓g_move]
  obtain ⟨a, Z1, a1, a2, a3⟩ := draw22Key n3 hL
  refine call1S (by simp -implicitDefEqProofs only [List.map_cons, Nat.reduceLT, ev_tab, upd_eq, List.map_nil] <;> rfl) a2 ?_
  simp -implicitDefEqProofs only [↓ops_cons, ↓g_assign, ↓ops_nil, ↓w_seq, ↓w_region, Nat.reduceLT, ev_tab, upd_eq, ↓g_move, ne_eq, Nat.reduceEqDiff, not_false_eq_true, upd_ne]
  obtain ⟨b, Z2, b1, b2, b3⟩ := draw22Text (n3.dr a3) hL
  refine call1S (by simp -implicitDefEqProofs only [List.map_cons, Nat.reduceLT, ev_tab, upd_eq, List.map_nil] <;> rfl) b2 ?_
  simp -implicitDefEqProofs only [↓ops_cons, ↓g_assign, ↓ops_nil, ↓w_ret, Nat.reduceLT, ev_tab, ne_eq, Nat.reduceEqDiff, not_false_eq_true, upd_ne, upd_eq, retP_2, res_tmp, onS_some]
  exact ⟨a, b, a1, b1, rfl, Dr.ext n4 (a3.trans b3) n2⟩
theorem drawSpoilt {H : AHeap} {r : Nat} {x : AV} {L : List Int} (c : Cur H r x L) (hL : L.length ≤ 4000000) (z : ByteArray) (hz : z.size ≤ 100000) : ∃ (u : ByteArray) (Z : AHeap), u.size ≤ z.size + 1 ∧ Sound Try.prog 95 [.ptr r 0, .sc (.string z)] H (.sc (.string u)) Z ∧ Dr r x H Z := by
  suffices h : ∃ v Z, Sound Try.prog 95 [.ptr r 0, .sc (.string z)] H v Z ∧ ∃ u : ByteArray, u.size ≤ z.size + 1 ∧ v = .sc (.string u) ∧ Dr r x H Z by
    obtain ⟨v, Z, h1, n, h2, rfl, h3⟩ := h
    exact ⟨n, Z, h2, h1, h3⟩
  refine Sound.runP (args := [.ptr r 0, .sc (.string z)]) 45 [.tmp 4] Try.func95 rfl rfl rfl rfl (by simp) (fun v Z => ∃ u : ByteArray, u.size ≤ z.size + 1 ∧ v = .sc (.string u) ∧ Dr r x H Z) ?_
  obtain ⟨j, Z1, j1, j2, j3⟩ := drawBelow c hL 12 (by omega) (by omega)
  have c1 := c.dr j3
  by_cases h0 : (j : Int) = 0
  · obtain ⟨t, Z2, t1, t2, t3⟩ := drawText c1 hL 1 (by omega)
    have hb : z.size + t.size ≤ 9223372036854775807 := by omega
    simp -implicitDefEqProofs only [↓w_seq, ↓w_region, ↓ops_cons, ↓g_assign, ↓ops_nil, ev_const, of_str, ↓g_move, Nat.reduceLT, ev_tab, ne_eq, reduceCtorEq, not_false_eq_true, upd_ne, par0]
    refine call1S (by simp -implicitDefEqProofs only [List.map_cons, Nat.reduceLT, ev_tab, upd_eq, ev_const, of_int, List.map_nil, Int.cast_ofNat_Int] <;> rfl) j2 ?_
    simp -implicitDefEqProofs only [↓ops_nil, ↓w_block, ↓w_seq, ↓w_region, h0, ↓ops_cons, ↓g_binOp, Nat.reduceLT, ev_tab, upd_eq, ev_const, of_int, b_eql, decide_true, ↓g_assign, ↓w_cond, ↓g_move, ne_eq, Nat.reduceEqDiff, not_false_eq_true, upd_ne, par1, reduceCtorEq, par0, Int.reduceEq, decide_false, ↓g_len, Try.underlying9, len_str, onS_some, b_add, ↓w_skip, ↓w_ret, retP_1, res_tmp, b_gtr, onB_dec, onB_false, onB_true]
    refine call1S (by simp -implicitDefEqProofs only [List.map_cons, Nat.reduceLT, ev_tab, upd_eq, ev_const, of_int, List.map_nil, Int.cast_ofNat_Int] <;> rfl) t2 ?_
    simp -implicitDefEqProofs only [↓ops_cons, ↓g_binOp, Nat.reduceLT, ev_tab, ne_eq, Nat.reduceEqDiff, not_false_eq_true, upd_ne, upd_eq, t_add, hb, if_true, ↓g_assign, ↓ops_nil, ↓w_ret, retP_1, res_tmp, onS_some]
    exact ⟨_, by rw [ByteArray.size_append]; omega, rfl, j3.trans t3⟩
  · by_cases h1 : (j : Int) = 1
    · obtain ⟨k, Z2, k1, k2, k3⟩ := drawBelow c1 hL (z.size + 1) (by omega) (by omega)
      have e1 : IntKind.i64.wrap ((z.size : Int) + 1) = ((z.size + 1 : Nat) : Int) := by rw [w64 (by omega) (by omega)]; omega
      have q1 : (0 : Int) ≤ (k : Int) := by omega
      have q2 : k ≤ z.size := by omega
      simp -implicitDefEqProofs only [↓w_seq, ↓w_region, ↓ops_cons, ↓g_assign, ↓ops_nil, ev_const, of_str, ↓g_move, Nat.reduceLT, ev_tab, ne_eq, reduceCtorEq, not_false_eq_true, upd_ne, par0]
      refine call1S (by simp -implicitDefEqProofs only [List.map_cons, Nat.reduceLT, ev_tab, upd_eq, ev_const, of_int, List.map_nil, Int.cast_ofNat_Int] <;> rfl) j2 ?_
      simp -implicitDefEqProofs only [↓ops_nil, ↓w_block, ↓w_seq, ↓w_region, h1, ↓ops_cons, ↓g_binOp, Nat.reduceLT, ev_tab, upd_eq, ev_const, of_int, b_eql, Int.reduceEq, decide_false, ↓g_assign, ↓w_cond, ↓g_move, ne_eq, Nat.reduceEqDiff, not_false_eq_true, upd_ne, par1, reduceCtorEq, par0, decide_true, ↓g_len, Try.underlying9, len_str, onS_some, b_add, e1, ↓w_skip, ↓w_ret, retP_1, res_tmp, b_gtr, onB_dec, onB_false, onB_true]
      refine call1S (by simp -implicitDefEqProofs only [List.map_cons, Nat.reduceLT, ev_tab, ne_eq, Nat.reduceEqDiff, not_false_eq_true, upd_ne, upd_eq, List.map_nil] <;> rfl) k2 ?_
      simp -implicitDefEqProofs only [↓ops_cons, ↓g_slice, Try.underlying9, Nat.reduceLT, ev_tab, ne_eq, Nat.reduceEqDiff, not_false_eq_true, upd_ne, upd_eq, Option.map_none, Option.map_some, cut_str, bnd_none, bnd_int, q1, Int.toNat_natCast, if_true, cutS_some, Nat.zero_le, q2, and_self, ↓g_assign, ↓ops_nil, ↓w_ret, retP_1, res_tmp, onS_some]
      exact ⟨_, by rw [ByteArray.size_extract]; omega, rfl, j3.trans k3⟩
    · by_cases h23 : (j : Int) = 2 ∨ (j : Int) = 3
      · by_cases hs : 0 < z.size
        · obtain ⟨k, Z2, k1, k2, k3⟩ := drawBelow c1 hL z.size hs (by omega)
          obtain ⟨t, Z3, t1, t2, t3⟩ := drawText (c1.dr k3) hL 1 (by omega)
          have hs2 : (0 : Int) < z.size := by omega
          have e1 : IntKind.i64.wrap ((k : Int) + 1) = ((k + 1 : Nat) : Int) := by rw [w64 (by omega) (by omega)]; omega
          have q1 : (0 : Int) ≤ (k : Int) := by omega
          have q2 : k ≤ z.size := by omega
          have q3 : (0 : Int) ≤ ((k + 1 : Nat) : Int) := by omega
          have q4 : k + 1 ≤ z.size := by omega
          have q5 : (z.extract 0 k).size = k := by rw [ByteArray.size_extract]; omega
          have q6 : (z.extract (k + 1) z.size).size = z.size - (k + 1) := by rw [ByteArray.size_extract]; omega
          have q7 : k + 1 ≤ 9223372036854775807 := by omega
          have q8 : (z.extract 0 k ++ t).size = k + 1 := by rw [ByteArray.size_append, q5, t1]
          have q9 : k + 1 + (z.size - (k + 1)) ≤ 9223372036854775807 := by omega
          have res : ∃ u : ByteArray, u.size ≤ z.size + 1 ∧ AV.sc (.string ((z.extract 0 k ++ t) ++ z.extract (k + 1) z.size)) = AV.sc (.string u) ∧ Dr r x H Z3 := ⟨_, by rw [ByteArray.size_append, q8, q6]; omega, rfl, (j3.trans k3).trans t3⟩
          rcases h23 with h2 | h3
          · simp -implicitDefEqProofs only [↓w_seq, ↓w_region, ↓ops_cons, ↓g_assign, ↓ops_nil, ev_const, of_str, ↓g_move, Nat.reduceLT, ev_tab, ne_eq, reduceCtorEq, not_false_eq_true, upd_ne, par0]
            refine call1S (by simp -implicitDefEqProofs only [List.map_cons, Nat.reduceLT, ev_tab, upd_eq, ev_const, of_int, List.map_nil, Int.cast_ofNat_Int] <;> rfl) j2 ?_
            simp -implicitDefEqProofs only [↓ops_nil, ↓w_block, ↓w_seq, ↓w_region, h2, ↓ops_cons, ↓g_binOp, Nat.reduceLT, ev_tab, upd_eq, ev_const, of_int, b_eql, Int.reduceEq, decide_false, ↓g_assign, ↓w_cond, ↓g_move, ne_eq, Nat.reduceEqDiff, not_false_eq_true, upd_ne, par1, reduceCtorEq, par0, ↓g_len, Try.underlying9, len_str, onS_some, b_add, decide_true, ↓w_skip, ↓w_ret, retP_1, res_tmp, b_gtr, hs2, onB_true, onB_false]
            refine call1S (by simp -implicitDefEqProofs only [List.map_cons, Nat.reduceLT, ev_tab, ne_eq, Nat.reduceEqDiff, not_false_eq_true, upd_ne, upd_eq, List.map_nil] <;> rfl) k2 ?_
            simp -implicitDefEqProofs only [↓ops_cons, ↓g_assign, ↓ops_nil, ↓w_seq, Nat.reduceLT, ev_tab, upd_eq]
            refine drawn [] follows (by kernel_rfl) (by kernel_rfl) ?_
            simp -implicitDefEqProofs only [↓dops_cons, ↓g_move, ↓g_slice, Try.underlying9, Nat.reduceLT, ev_tab, ne_eq, Nat.reduceEqDiff, not_false_eq_true, upd_ne, par1, upd_eq, Option.map_none, Option.map_some, cut_str, bnd_none, bnd_int, q1, Int.toNat_natCast, if_true, cutS_some, Nat.zero_le, q2, and_self, reduceCtorEq, par0, onS_some]
            refine call1S (by simp -implicitDefEqProofs only [List.map_cons, Nat.reduceLT, ev_tab, upd_eq, ev_const, of_int, List.map_nil, Int.cast_ofNat_Int] <;> rfl) t2 ?_
            simp -implicitDefEqProofs only [↓dops_cons, ↓g_binOp, Nat.reduceLT, ev_tab, ne_eq, Nat.reduceEqDiff, not_false_eq_true, upd_ne, upd_eq, t_add, q5, t1, q7, if_true, ↓g_move, par1, ev_const, of_int, b_add, e1, ↓g_slice, Try.underlying9, Option.map_some, Option.map_none, cut_str, bnd_none, ↓g_assign, ↓dops_0, ↓w_ret, retP_1, res_tmp, onS_some, bnd_int, q3, Int.toNat_natCast, cutS_some, q4, Nat.le_refl, and_self, q8, q6, q9]
            exact res
          · have h2 : ¬ (j : Int) = 2 := by omega
            simp -implicitDefEqProofs only [↓w_seq, ↓w_region, ↓ops_cons, ↓g_assign, ↓ops_nil, ev_const, of_str, ↓g_move, Nat.reduceLT, ev_tab, ne_eq, reduceCtorEq, not_false_eq_true, upd_ne, par0]
            refine call1S (by simp -implicitDefEqProofs only [List.map_cons, Nat.reduceLT, ev_tab, upd_eq, ev_const, of_int, List.map_nil, Int.cast_ofNat_Int] <;> rfl) j2 ?_
            simp -implicitDefEqProofs only [↓ops_nil, ↓w_block, ↓w_seq, ↓w_region, h3, ↓ops_cons, ↓g_binOp, Nat.reduceLT, ev_tab, upd_eq, ev_const, of_int, b_eql, Int.reduceEq, decide_false, ↓g_assign, ↓w_cond, ↓g_move, ne_eq, Nat.reduceEqDiff, not_false_eq_true, upd_ne, par1, reduceCtorEq, par0, ↓g_len, Try.underlying9, len_str, onS_some, b_add, ↓w_skip, ↓w_ret, retP_1, res_tmp, b_gtr, hs2, decide_true, onB_true, onB_false]
            refine call1S (by simp -implicitDefEqProofs only [List.map_cons, Nat.reduceLT, ev_tab, ne_eq, Nat.reduceEqDiff, not_false_eq_true, upd_ne, upd_eq, List.map_nil] <;> rfl) k2 ?_
            simp -implicitDefEqProofs only [↓ops_cons, ↓g_assign, ↓ops_nil, ↓w_seq, Nat.reduceLT, ev_tab, upd_eq]
            refine drawn [] follows (by kernel_rfl) (by kernel_rfl) ?_
            simp -implicitDefEqProofs only [↓dops_cons, ↓g_move, ↓g_slice, Try.underlying9, Nat.reduceLT, ev_tab, ne_eq, Nat.reduceEqDiff, not_false_eq_true, upd_ne, par1, upd_eq, Option.map_none, Option.map_some, cut_str, bnd_none, bnd_int, q1, Int.toNat_natCast, if_true, cutS_some, Nat.zero_le, q2, and_self, reduceCtorEq, par0, onS_some]
            refine call1S (by simp -implicitDefEqProofs only [List.map_cons, Nat.reduceLT, ev_tab, upd_eq, ev_const, of_int, List.map_nil, Int.cast_ofNat_Int] <;> rfl) t2 ?_
            simp -implicitDefEqProofs only [↓dops_cons, ↓g_binOp, Nat.reduceLT, ev_tab, ne_eq, Nat.reduceEqDiff, not_false_eq_true, upd_ne, upd_eq, t_add, q5, t1, q7, if_true, ↓g_move, par1, ev_const, of_int, b_add, e1, ↓g_slice, Try.underlying9, Option.map_some, Option.map_none, cut_str, bnd_none, ↓g_assign, ↓dops_0, ↓w_ret, retP_1, res_tmp, onS_some, bnd_int, q3, Int.toNat_natCast, cutS_some, q4, Nat.le_refl, and_self, q8, q6, q9]
            exact res
        · have hs2 : ¬ (0 : Int) < z.size := by omega
          rcases h23 with h2 | h3
          · simp -implicitDefEqProofs only [↓w_seq, ↓w_region, ↓ops_cons, ↓g_assign, ↓ops_nil, ev_const, of_str, ↓g_move, Nat.reduceLT, ev_tab, ne_eq, reduceCtorEq, not_false_eq_true, upd_ne, par0]
            refine call1S (by simp -implicitDefEqProofs only [List.map_cons, Nat.reduceLT, ev_tab, upd_eq, ev_const, of_int, List.map_nil, Int.cast_ofNat_Int] <;> rfl) j2 ?_
            simp -implicitDefEqProofs only [↓ops_nil, ↓w_block, ↓w_seq, ↓w_region, h2, ↓ops_cons, ↓g_binOp, Nat.reduceLT, ev_tab, upd_eq, ev_const, of_int, b_eql, Int.reduceEq, decide_false, ↓g_assign, ↓w_cond, ↓g_move, ne_eq, Nat.reduceEqDiff, not_false_eq_true, upd_ne, par1, reduceCtorEq, par0, ↓g_len, Try.underlying9, len_str, onS_some, b_add, decide_true, ↓w_skip, ↓w_ret, retP_1, res_tmp, b_gtr, hs2, onB_false, onB_true]
            exact ⟨z, by omega, rfl, j3⟩
          · have h2 : ¬ (j : Int) = 2 := by omega
            simp -implicitDefEqProofs only [↓w_seq, ↓w_region, ↓ops_cons, ↓g_assign, ↓ops_nil, ev_const, of_str, ↓g_move, Nat.reduceLT, ev_tab, ne_eq, reduceCtorEq, not_false_eq_true, upd_ne, par0]
            refine call1S (by simp -implicitDefEqProofs only [List.map_cons, Nat.reduceLT, ev_tab, upd_eq, ev_const, of_int, List.map_nil, Int.cast_ofNat_Int] <;> rfl) j2 ?_
            simp -implicitDefEqProofs only [↓ops_nil, ↓w_block, ↓w_seq, ↓w_region, h3, ↓ops_cons, ↓g_binOp, Nat.reduceLT, ev_tab, upd_eq, ev_const, of_int, b_eql, Int.reduceEq, decide_false, ↓g_assign, ↓w_cond, ↓g_move, ne_eq, Nat.reduceEqDiff, not_false_eq_true, upd_ne, par1, reduceCtorEq, par0, ↓g_len, Try.underlying9, len_str, onS_some, b_add, ↓w_skip, ↓w_ret, retP_1, res_tmp, b_gtr, hs2, onB_false, decide_true, onB_true]
            exact ⟨z, by omega, rfl, j3⟩
      · have h2 : ¬ (j : Int) = 2 := fun h => h23 (.inl h)
        have h3 : ¬ (j : Int) = 3 := fun h => h23 (.inr h)
        simp -implicitDefEqProofs only [↓w_seq, ↓w_region, ↓ops_cons, ↓g_assign, ↓ops_nil, ev_const, of_str, ↓g_move, Nat.reduceLT, ev_tab, ne_eq, reduceCtorEq, not_false_eq_true, upd_ne, par0]
        refine call1S (by simp -implicitDefEqProofs only [List.map_cons, Nat.reduceLT, ev_tab, upd_eq, ev_const, of_int, List.map_nil, Int.cast_ofNat_Int] <;> rfl) j2 ?_
        simp -implicitDefEqProofs only [↓ops_nil, ↓w_block, ↓w_seq, ↓w_region, ↓ops_cons, ↓g_binOp, Nat.reduceLT, ev_tab, upd_eq, ev_const, of_int, b_eql, h0, decide_false, ↓g_assign, ↓w_cond, ↓g_move, ne_eq, Nat.reduceEqDiff, not_false_eq_true, upd_ne, par1, reduceCtorEq, par0, h1, ↓g_len, Try.underlying9, len_str, onS_some, b_add, h2, ↓w_skip, ↓w_ret, retP_1, res_tmp, b_gtr, onB_dec, h3, onB_false]
        exact ⟨z, by omega, rfl, j3⟩
end Go.Proofs.Ytknmbiebnpojjaa.Sim
namespace Go.Proofs.Ytknmbiebnpojjaa.Sim
open Go
set_option maxRecDepth 100000
set_option maxHeartbeats 4000000
set_option linter.unusedSimpArgs false
set_option linter.unusedVariables false
theorem bigS {H : AHeap} {x : AV} {L : List Int} (hx : IsL H x .u8 L) : Sound Try.prog 8 [x] H (.sc (.bool (decide ((1048576 : Int) < L.length)))) H := by
  refine Sound.run 6 [.tmp 2] Try.func8 rfl rfl rfl rfl (by simp) ?_
  have lx := fun e => hx.len e
  simp -implicitDefEqProofs only [↓w_seq, ↓w_region, ↓ops_cons, ↓g_assign, ↓ops_nil, ev_const, of_bool, ↓g_move, ↓g_len, Try.underlying22, Nat.reduceLT, ev_tab, ne_eq, reduceCtorEq, not_false_eq_true, upd_ne, par0, upd_eq, lx, ↓g_binOp, of_int, ↓w_ret, ret_one, and_true, onS_some, b_gtr]
theorem bigNo {L : List Int} (h : L.length ≤ 1048576) : decide ((1048576 : Int) < L.length) = false := decide_eq_false (by omega)
theorem bigYes {L : List Int} (h : ¬ L.length ≤ 1048576) : decide ((1048576 : Int) < L.length) = true := decide_eq_true (by omega)
end Go.Proofs.Ytknmbiebnpojjaa.Sim
namespace Go.Proofs.Ytknmbiebnpojjaa.Sim
open Go
set_option maxRecDepth 100000
set_option maxHeartbeats 4000000
set_option linter.unusedSimpArgs false
set_option linter.unusedVariables false
theorem draw23Num {H : AHeap} {r : Nat} {x : AV} {L : List Int} (c : Cur H r x L) (hL : L.length ≤ 4000000) : ∃ (n : Int) (Z : AHeap), Sound Try.prog 76 [.ptr r 0] H (.sc (.int .i64 n)) Z ∧ Dr r x H Z := by
  suffices h : ∃ v Z, Sound Try.prog 76 [.ptr r 0] H v Z ∧ ∃ n : Int, v = .sc (.int .i64 n) ∧ Dr r x H Z by
    obtain ⟨v, Z, h1, n, rfl, h3⟩ := h
    exact ⟨n, Z, h1, h3⟩
  refine Sound.runP (args := [.ptr r 0]) 6 [.tmp 2] Try.func76 rfl rfl rfl rfl (by simp) (fun v Z => ∃ n : Int, v = .sc (.int .i64 n) ∧ Dr r x H Z) ?_
  simp -implicitDefEqProofs only [↓w_seq, ↓w_region, Int.reduceNeg, ↓ops_cons, ↓g_assign, ↓ops_nil, ev_const, of_int, ↓g_move, ↓g_buildSlice, Try.underlying26, Nat.reduceLT, ev_tab, ne_eq, reduceCtorEq, not_false_eq_true, upd_ne, par0, List.map_cons, List.map_nil, bs3_11, alK_some, ints_one, true_and]
  obtain ⟨j, Z1, j1, j2, j3⟩ := drawPickInt (c.app _) hL (.at (at_end _ ⟨ints .i64 [0, 1, 12, 32, 33, 42, 100, 300, -1, 8161, 65536], true, true⟩) rfl) (by decide) (by decide)
  refine call1S (by simp -implicitDefEqProofs only [List.map_cons, Nat.reduceLT, ev_tab, ne_eq, Nat.reduceEqDiff, not_false_eq_true, upd_ne, upd_eq, List.map_nil, Int.reduceNeg, List.length_cons, List.length_nil, Nat.zero_add, Nat.reduceAdd] <;> rfl) j2 ?_
  simp -implicitDefEqProofs only [↓ops_cons, ↓g_assign, ↓ops_nil, ↓w_ret, Int.reduceNeg, Nat.reduceLT, ev_tab, upd_eq, retP_1, res_tmp, onS_some]
  exact ⟨_, rfl, j3.app⟩
theorem draw23Label {H : AHeap} {r : Nat} {x : AV} {L : List Int} (c : Cur H r x L) (hL : L.length ≤ 4000000) : ∃ (z : ByteArray) (Z : AHeap), Sound Try.prog 81 [.ptr r 0] H (.sc (.string z)) Z ∧ Dr r x H Z := by
  suffices h : ∃ v Z, Sound Try.prog 81 [.ptr r 0] H v Z ∧ ∃ z : ByteArray, v = .sc (.string z) ∧ Dr r x H Z by
    obtain ⟨v, Z, h1, n, rfl, h3⟩ := h
    exact ⟨n, Z, h1, h3⟩
  refine Sound.runP (args := [.ptr r 0]) 8 [.tmp 2] Try.func81 rfl rfl rfl rfl (by simp) (fun v Z => ∃ z : ByteArray, v = .sc (.string z) ∧ Dr r x H Z) ?_
  have l1 := longD 249 97 (by omega)
  have l2 := longD 250 97 (by omega)
  generalize strOfNums (repD 249 97) = A at *
  generalize strOfNums (repD 250 97) = B at *
  simp -implicitDefEqProofs only [↓w_seq, ↓w_region, ↓ops_cons, ↓g_assign, ↓ops_nil, ev_const, of_str, ↓g_move, Nat.reduceLT, ev_tab, ne_eq, reduceCtorEq, not_false_eq_true, upd_ne, par0]
  refine call1 (by simp -implicitDefEqProofs only [List.map_cons, ev_const, of_int, List.map_nil, Int.cast_ofNat_Int] <;> rfl) l1 ?_
  simp -implicitDefEqProofs only [↓ops_cons]
  refine call1 (by simp -implicitDefEqProofs only [List.map_cons, ev_const, of_int, List.map_nil, Int.cast_ofNat_Int] <;> rfl) l2 ?_
  simp -implicitDefEqProofs only [↓ops_cons, ↓g_buildSlice, Try.underlying125, List.map_cons, ev_const, of_str, Nat.reduceLT, ev_tab, ne_eq, Nat.reduceEqDiff, not_false_eq_true, upd_ne, upd_eq, List.map_nil, bs9_6, alK_some, strs_one, true_and]
  obtain ⟨j, Z1, j1, j2, j3⟩ := drawPick (l := [(⟨#[]⟩ : ByteArray), (⟨#[107, 101, 121]⟩ : ByteArray), (⟨#[105, 118]⟩ : ByteArray), (⟨#[99, 32, 97, 112, 32, 116, 114, 97, 102, 102, 105, 99]⟩ : ByteArray), A, B]) (c.app _) hL (at_end _ ⟨strs [(⟨#[]⟩ : ByteArray), (⟨#[107, 101, 121]⟩ : ByteArray), (⟨#[105, 118]⟩ : ByteArray), (⟨#[99, 32, 97, 112, 32, 116, 114, 97, 102, 102, 105, 99]⟩ : ByteArray), A, B], true, true⟩) (by simp) (by simp)
  refine call1S (by simp -implicitDefEqProofs only [List.map_cons, Nat.reduceLT, ev_tab, ne_eq, Nat.reduceEqDiff, not_false_eq_true, upd_ne, upd_eq, List.map_nil, List.length_cons, List.length_nil, Nat.zero_add, Nat.reduceAdd] <;> rfl) j2 ?_
  simp -implicitDefEqProofs only [↓ops_cons, ↓g_assign, ↓ops_nil, ↓w_ret, Nat.reduceLT, ev_tab, upd_eq, retP_1, res_tmp, onS_some]
  exact ⟨_, rfl, j3.app⟩
theorem drawExpanded {H : AHeap} {x : AV} {L : List Int} (hx : IsL H x .u8 L) (hL : L.length ≤ 4000000) : ∃ (a b : ByteArray) (n : Int) (Z : AHeap), a.size ≤ 100 ∧ b.size ≤ 97 ∧ Sound Try.prog 20 [x] H (.tup [.sc (.string a), .sc (.string b), .sc (.int .i64 n)]) Z ∧ Ext H Z := by
  suffices h : ∃ v Z, Sound Try.prog 20 [x] H v Z ∧ ∃ (a b : ByteArray) (n : Int), a.size ≤ 100 ∧ b.size ≤ 97 ∧ v = .tup [.sc (.string a), .sc (.string b), .sc (.int .i64 n)] ∧ Ext H Z by
    obtain ⟨v, Z, h1, a, b, n, h2, h3, rfl, h4⟩ := h
    exact ⟨a, b, n, Z, h2, h3, h1, h4⟩
  refine Sound.runP (args := [x]) 18 [.tmp 2, .tmp 3, .tmp 4] Try.func20 rfl rfl rfl rfl (by simp) (fun v Z => ∃ (a b : ByteArray) (n : Int), a.size ≤ 100 ∧ b.size ≤ 97 ∧ v = .tup [.sc (.string a), .sc (.string b), .sc (.int .i64 n)] ∧ Ext H Z) ?_
  simp -implicitDefEqProofs only [↓w_seq, ↓w_region, ↓ops_cons, ↓g_assign, ↓ops_nil, ev_const, of_str, of_int, ↓g_move, Nat.reduceLT, ev_tab, ne_eq, reduceCtorEq, not_false_eq_true, upd_ne, par0]
  obtain ⟨r, Z0, n1, n2, n3, n4⟩ := drawNew hx hL
  refine call1S (by simp -implicitDefEqProofs only [List.map_cons, Nat.reduceLT, ev_tab, upd_eq, List.map_nil] <;> rfl) n1 ?_
  simp -implicitDefEqProofs only [↓ops_cons, ↓g_assign, ↓ops_nil, ↓w_seq, ↓w_region, Nat.reduceLT, ev_tab, upd_eq, ↓g_move]
  obtain ⟨n, Z1, m2, m3⟩ := draw23Num n3 hL
  refine call1S (by simp -implicitDefEqProofs only [List.map_cons, Nat.reduceLT, ev_tab, upd_eq, List.map_nil] <;> rfl) m2 ?_
  simp -implicitDefEqProofs only [↓ops_cons, ↓g_assign, ↓ops_nil, ↓w_seq, ↓w_region, Nat.reduceLT, ev_tab, upd_eq, ↓g_move, ne_eq, Nat.reduceEqDiff, not_false_eq_true, upd_ne]
  obtain ⟨a, Z2, a1, a2, a3⟩ := draw22Key (n3.dr m3) hL
  refine call1S (by simp -implicitDefEqProofs only [List.map_cons, Nat.reduceLT, ev_tab, upd_eq, List.map_nil] <;> rfl) a2 ?_
  simp -implicitDefEqProofs only [↓ops_cons, ↓g_assign, ↓ops_nil, ↓w_seq, ↓w_region, Nat.reduceLT, ev_tab, upd_eq, ↓g_move, ne_eq, Nat.reduceEqDiff, not_false_eq_true, upd_ne]
  obtain ⟨b, Z3, b1, b2, b3⟩ := draw22Text ((n3.dr m3).dr a3) hL
  refine call1S (by simp -implicitDefEqProofs only [List.map_cons, Nat.reduceLT, ev_tab, upd_eq, List.map_nil] <;> rfl) b2 ?_
  simp -implicitDefEqProofs only [↓ops_cons, ↓g_move, ↓g_assign, ↓ops_nil, ↓w_ret, Nat.reduceLT, ev_tab, ne_eq, Nat.reduceEqDiff, not_false_eq_true, upd_ne, upd_eq, retP_3, res_tmp, onS_some]
  exact ⟨a, b, n, a1, b1, rfl, Dr.ext n4 ((m3.trans a3).trans b3) n2⟩
theorem drawLabelOf {H : AHeap} {x : AV} {L : List Int} (hx : IsL H x .u8 L) (hL : L.length ≤ 4000000) : ∃ (a b : ByteArray) (n : Int) (Z : AHeap), Sound Try.prog 26 [x] H (.tup [.sc (.string a), .sc (.string b), .sc (.int .i64 n)]) Z ∧ Ext H Z := by
  suffices h : ∃ v Z, Sound Try.prog 26 [x] H v Z ∧ ∃ (a b : ByteArray) (n : Int), v = .tup [.sc (.string a), .sc (.string b), .sc (.int .i64 n)] ∧ Ext H Z by
    obtain ⟨v, Z, h1, a, b, n, rfl, h4⟩ := h
    exact ⟨a, b, n, Z, h1, h4⟩
  refine Sound.runP (args := [x]) 26 [.tmp 2, .tmp 3, .tmp 4] Try.func26 rfl rfl rfl rfl (by simp) (fun v Z => ∃ (a b : ByteArray) (n : Int), v = .tup [.sc (.string a), .sc (.string b), .sc (.int .i64 n)] ∧ Ext H Z) ?_
  simp -implicitDefEqProofs only [↓w_seq, ↓w_region, ↓ops_cons, ↓g_assign, ↓ops_nil, ev_const, of_str, of_int, ↓g_move, Nat.reduceLT, ev_tab, ne_eq, reduceCtorEq, not_false_eq_true, upd_ne, par0]
  obtain ⟨r, Z0, n1, n2, n3, n4⟩ := drawNew hx hL
  refine call1S (by simp -implicitDefEqProofs only [List.map_cons, Nat.reduceLT, ev_tab, upd_eq, List.map_nil] <;> rfl) n1 ?_
  simp -implicitDefEqProofs only [↓ops_cons, ↓g_assign, ↓ops_nil, ↓w_seq, ↓w_region, Nat.reduceLT, ev_tab, upd_eq, ↓g_move]
  obtain ⟨n, Z1, m2, m3⟩ := draw23Num n3 hL
  refine call1S (by simp -implicitDefEqProofs only [List.map_cons, Nat.reduceLT, ev_tab, upd_eq, List.map_nil] <;> rfl) m2 ?_
  simp -implicitDefEqProofs only [↓ops_cons, ↓g_assign, ↓ops_nil, ↓w_seq, ↓w_region, Nat.reduceLT, ev_tab, upd_eq, ↓g_move, ne_eq, Nat.reduceEqDiff, not_false_eq_true, upd_ne]
  have c1 := n3.dr m3
  obtain ⟨a, Z2, a2, a3⟩ := draw23Label c1 hL
  refine call1S (by simp -implicitDefEqProofs only [List.map_cons, Nat.reduceLT, ev_tab, upd_eq, List.map_nil] <;> rfl) a2 ?_
  simp -implicitDefEqProofs only [↓ops_cons, ↓g_assign, ↓ops_nil, ↓w_seq, ↓w_region, Nat.reduceLT, ev_tab, upd_eq, ↓g_move, ne_eq, Nat.reduceEqDiff, not_false_eq_true, upd_ne]
  have c2 := c1.dr a3
  obtain ⟨b, Z3, b1, b2, b3⟩ := draw22Text c2 hL
  refine call1S (by simp -implicitDefEqProofs only [List.map_cons, Nat.reduceLT, ev_tab, upd_eq, List.map_nil] <;> rfl) b2 ?_
  simp -implicitDefEqProofs only [↓ops_cons, ↓g_assign, ↓ops_nil, ↓w_seq, ↓w_region, Nat.reduceLT, ev_tab, upd_eq, ↓g_move, ne_eq, Nat.reduceEqDiff, not_false_eq_true, upd_ne]
  have c3 := c2.dr b3
  obtain ⟨q, Z4, q1, q2⟩ := drawOnce c3 hL 8 (by omega) (by omega)
  refine call1S (by simp -implicitDefEqProofs only [List.map_cons, Nat.reduceLT, ev_tab, upd_eq, ev_const, of_int, List.map_nil, Int.cast_ofNat_Int] <;> rfl) q1 ?_
  have d4 := ((m3.trans a3).trans b3).trans q2
  cases q with
  | false =>
    simp -implicitDefEqProofs only [↓ops_nil, ↓w_cond, Nat.reduceLT, ev_tab, upd_eq, ↓w_region, ↓ops_cons, ↓g_move, ne_eq, Nat.reduceEqDiff, not_false_eq_true, upd_ne, ↓w_skip, ↓w_seq, ↓g_assign, ↓w_ret, retP_3, res_tmp, onS_some, onB_false]
    exact ⟨a, b, n, rfl, Dr.ext n4 d4 n2⟩
  | true =>
    simp -implicitDefEqProofs only [↓ops_nil, ↓w_cond, Nat.reduceLT, ev_tab, upd_eq, ↓w_region, ↓ops_cons, ↓g_move, ne_eq, Nat.reduceEqDiff, not_false_eq_true, upd_ne, ↓w_skip, ↓w_seq, ↓g_assign, ↓w_ret, retP_3, res_tmp, onS_some, onB_true]
    obtain ⟨k, Z5, k1, k2, k3⟩ := drawBelow (c3.dr q2) hL 2 (by omega) (by omega)
    refine call1S (by simp -implicitDefEqProofs only [List.map_cons, Nat.reduceLT, ev_tab, upd_eq, ev_const, of_int, List.map_nil, Int.cast_ofNat_Int] <;> rfl) k2 ?_
    have e1 : IntKind.i64.wrap (255 + (k : Int)) = ((255 + k : Nat) : Int) := by rw [w64 (by omega) (by omega)]; omega
    simp -implicitDefEqProofs only [↓ops_cons, ↓g_binOp, ev_const, of_int, Nat.reduceLT, ev_tab, upd_eq, b_add, e1, onS_some]
    refine call1 (by simp -implicitDefEqProofs only [List.map_cons, Nat.reduceLT, ev_tab, upd_eq, ev_const, of_int, List.map_nil] <;> rfl) (longD (255 + k) 1 (by omega)) ?_
    simp -implicitDefEqProofs only [↓ops_cons, ↓g_assign, ↓ops_nil, ↓w_seq, ↓w_region, Nat.reduceLT, ev_tab, upd_eq, ↓g_move, ↓w_ret, ne_eq, Nat.reduceEqDiff, not_false_eq_true, upd_ne, retP_3, res_tmp, onS_some]
    exact ⟨a, _, n, rfl, Dr.ext n4 (d4.trans k3) n2⟩
theorem drawExpandedLabel {H : AHeap} {x : AV} {L : List Int} (hx : IsL H x .u8 L) (hL : L.length ≤ 4000000) : ∃ (k a b : ByteArray) (n : Int) (Z : AHeap), k.size ≤ 100 ∧ Sound Try.prog 29 [x] H (.tup [.sc (.string k), .sc (.string a), .sc (.string b), .sc (.int .i64 n)]) Z ∧ Ext H Z := by
  suffices h : ∃ v Z, Sound Try.prog 29 [x] H v Z ∧ ∃ (k a b : ByteArray) (n : Int), k.size ≤ 100 ∧ v = .tup [.sc (.string k), .sc (.string a), .sc (.string b), .sc (.int .i64 n)] ∧ Ext H Z by
    obtain ⟨v, Z, h1, k, a, b, n, h2, rfl, h4⟩ := h
    exact ⟨k, a, b, n, Z, h2, h1, h4⟩
  refine Sound.runP (args := [x]) 25 [.tmp 2, .tmp 3, .tmp 4, .tmp 5] Try.func29 rfl rfl rfl rfl (by simp) (fun v Z => ∃ (k a b : ByteArray) (n : Int), k.size ≤ 100 ∧ v = .tup [.sc (.string k), .sc (.string a), .sc (.string b), .sc (.int .i64 n)] ∧ Ext H Z) ?_
  simp -implicitDefEqProofs only [↓w_seq, ↓w_region, ↓ops_cons, ↓g_assign, ↓ops_nil, ev_const, of_str, of_int, ↓g_move, Nat.reduceLT, ev_tab, ne_eq, reduceCtorEq, not_false_eq_true, upd_ne, par0]
  obtain ⟨r, Z0, n1, n2, n3, n4⟩ := drawNew hx hL
  refine call1S (by simp -implicitDefEqProofs only [List.map_cons, Nat.reduceLT, ev_tab, upd_eq, List.map_nil] <;> rfl) n1 ?_
  simp -implicitDefEqProofs only [↓ops_cons, ↓g_assign, ↓ops_nil, ↓w_seq, ↓w_region, Nat.reduceLT, ev_tab, upd_eq, ↓g_move]
  obtain ⟨k, Z1, k1, m2, m3⟩ := draw22Key n3 hL
  refine call1S (by simp -implicitDefEqProofs only [List.map_cons, Nat.reduceLT, ev_tab, upd_eq, List.map_nil] <;> rfl) m2 ?_
  simp -implicitDefEqProofs only [↓ops_cons, ↓g_assign, ↓ops_nil, ↓w_seq, ↓w_region, Nat.reduceLT, ev_tab, upd_eq, ↓g_move, ne_eq, reduceCtorEq, not_false_eq_true, upd_ne, par0]
  have e1 := Dr.ext n4 m3 n2
  obtain ⟨a, b, n, Z2, a1, a2⟩ := drawLabelOf (e1.isL hx) hL
  refine call1S (by simp -implicitDefEqProofs only [List.map_cons, Nat.reduceLT, ev_tab, upd_eq, List.map_nil] <;> rfl) a1 ?_
  simp -implicitDefEqProofs only [↓ops_cons, ↓g_move, ↓g_extract, Nat.reduceLT, ev_tab, upd_eq, ext_0, ne_eq, Nat.reduceEqDiff, not_false_eq_true, upd_ne, ext_1, ext_2, ↓g_assign, ↓ops_nil, ↓w_seq, ↓w_region, ↓w_ret, onS_some]
  exact ⟨k, a, b, n, k1, rfl, e1.trans a2⟩
theorem drawDerivedSecret {H : AHeap} {x : AV} {L : List Int} (hx : IsL H x .u8 L) (hL : L.length ≤ 4000000) : ∃ (k a b : ByteArray) (Z : AHeap), k.size ≤ 100 ∧ b.size ≤ 97 ∧ Sound Try.prog 32 [x] H (.tup [.sc (.string k), .sc (.string a), .sc (.string b)]) Z ∧ Ext H Z := by
  suffices h : ∃ v Z, Sound Try.prog 32 [x] H v Z ∧ ∃ (k a b : ByteArray), k.size ≤ 100 ∧ b.size ≤ 97 ∧ v = .tup [.sc (.string k), .sc (.string a), .sc (.string b)] ∧ Ext H Z by
    obtain ⟨v, Z, h1, k, a, b, h2, h3, rfl, h4⟩ := h
    exact ⟨k, a, b, Z, h2, h3, h1, h4⟩
  refine Sound.runP (args := [x]) 18 [.tmp 2, .tmp 3, .tmp 4] Try.func32 rfl rfl rfl rfl (by simp) (fun v Z => ∃ (k a b : ByteArray), k.size ≤ 100 ∧ b.size ≤ 97 ∧ v = .tup [.sc (.string k), .sc (.string a), .sc (.string b)] ∧ Ext H Z) ?_
  simp -implicitDefEqProofs only [↓w_seq, ↓w_region, ↓ops_cons, ↓g_assign, ↓ops_nil, ev_const, of_str, ↓g_move, Nat.reduceLT, ev_tab, ne_eq, reduceCtorEq, not_false_eq_true, upd_ne, par0]
  obtain ⟨r, Z0, n1, n2, n3, n4⟩ := drawNew hx hL
  refine call1S (by simp -implicitDefEqProofs only [List.map_cons, Nat.reduceLT, ev_tab, upd_eq, List.map_nil] <;> rfl) n1 ?_
  simp -implicitDefEqProofs only [↓ops_cons, ↓g_assign, ↓ops_nil, ↓w_seq, ↓w_region, Nat.reduceLT, ev_tab, upd_eq, ↓g_move]
  obtain ⟨k, Z1, k1, m2, m3⟩ := draw22Key n3 hL
  refine call1S (by simp -implicitDefEqProofs only [List.map_cons, Nat.reduceLT, ev_tab, upd_eq, List.map_nil] <;> rfl) m2 ?_
  simp -implicitDefEqProofs only [↓ops_cons, ↓g_assign, ↓ops_nil, ↓w_seq, ↓w_region, Nat.reduceLT, ev_tab, upd_eq, ↓g_move, ne_eq, Nat.reduceEqDiff, not_false_eq_true, upd_ne]
  have c1 := n3.dr m3
  obtain ⟨a, Z2, a2, a3⟩ := draw23Label c1 hL
  refine call1S (by simp -implicitDefEqProofs only [List.map_cons, Nat.reduceLT, ev_tab, upd_eq, List.map_nil] <;> rfl) a2 ?_
  simp -implicitDefEqProofs only [↓ops_cons, ↓g_assign, ↓ops_nil, ↓w_seq, ↓w_region, Nat.reduceLT, ev_tab, upd_eq, ↓g_move, ne_eq, Nat.reduceEqDiff, not_false_eq_true, upd_ne]
  have c2 := c1.dr a3
  obtain ⟨b, Z3, b1, b2, b3⟩ := draw22Text c2 hL
  refine call1S (by simp -implicitDefEqProofs only [List.map_cons, Nat.reduceLT, ev_tab, upd_eq, List.map_nil] <;> rfl) b2 ?_
  simp -implicitDefEqProofs only [↓ops_cons, ↓g_assign, ↓ops_nil, ↓w_ret, Nat.reduceLT, ev_tab, ne_eq, Nat.reduceEqDiff, not_false_eq_true, upd_ne, upd_eq, retP_3, res_tmp, onS_some]
  exact ⟨k, a, b, k1, b1, rfl, Dr.ext n4 ((m3.trans a3).trans b3) n2⟩
theorem drawExtracted {H : AHeap} {x : AV} {L : List Int} (hx : IsL H x .u8 L) (hL : L.length ≤ 4000000) : ∃ (a b : ByteArray) (Z : AHeap), a.size ≤ 100 ∧ b.size ≤ 97 ∧ Sound Try.prog 35 [x] H (.tup [.sc (.string a), .sc (.string b)]) Z ∧ Ext H Z := by
  suffices h : ∃ v Z, Sound Try.prog 35 [x] H v Z ∧ ∃ (a b : ByteArray), a.size ≤ 100 ∧ b.size ≤ 97 ∧ v = .tup [.sc (.string a), .sc (.string b)] ∧ Ext H Z by
    obtain ⟨v, Z, h1, a, b, h2, h3, rfl, h4⟩ := h
    exact ⟨a, b, Z, h2, h3, h1, h4⟩
  refine Sound.runP (args := [x]) 8 [.tmp 2, .tmp 3] Try.func35 rfl rfl rfl rfl (by simp) (fun v Z => ∃ (a b : ByteArray), a.size ≤ 100 ∧ b.size ≤ 97 ∧ v = .tup [.sc (.string a), .sc (.string b)] ∧ Ext H Z) ?_
  simp -implicitDefEqProofs only [↓w_seq, ↓w_region, ↓ops_cons, ↓g_assign, ↓ops_nil, ev_const, of_str, ↓g_move, Nat.reduceLT, ev_tab, ne_eq, reduceCtorEq, not_false_eq_true, upd_ne, par0]
  obtain ⟨a, b, Z2, a1, b1, a2, a3⟩ := drawHmac hx hL
  refine call1S (by simp -implicitDefEqProofs only [List.map_cons, Nat.reduceLT, ev_tab, upd_eq, List.map_nil] <;> rfl) a2 ?_
  simp -implicitDefEqProofs only [↓ops_cons, ↓g_extract, Nat.reduceLT, ev_tab, upd_eq, ext_0, ne_eq, Nat.reduceEqDiff, not_false_eq_true, upd_ne, ext_1, ↓g_assign, ↓ops_nil, ↓w_ret, retP_2, res_tmp, onS_some]
  exact ⟨a, b, a1, b1, rfl, a3⟩
end Go.Proofs.Ytknmbiebnpojjaa.Sim
namespace Go.Proofs.Ytknmbiebnpojjaa.Sim
open Go
set_option linter.unusedSimpArgs false
set_option linter.unusedVariables false
theorem entry {P : Program} {f : FuncId} {v : Value} {ags : List AV} {H0 H' : AHeap} (hs : Sound P f ags H0 (.sc v) H') (w : World) (cargs : Array Value) (ρ0 : Ren)
    (hreg : ∀ r g l, H0[r]? = some g → ρ0 r = some l → RegOk ρ0 w.heap.size w l g ∧ g.own = false) (hdom : ∀ r l, ρ0 r = some l → ∃ g, H0[r]? = some g)
    (hA : LR ρ0 ags cargs.toList) (hg : Gl w.heap.size w := by exact Gl.none rfl) : Calls P f cargs w fun e w' => e = .returned v ∧ RowKit.Below w.heap.size w w' := by
  obtain ⟨_, hlen, h3⟩ := hs
  have hR : Rel H'.length ρ0 w.heap.size (hf H0) w := by
    refine ⟨⟨Nat.le_refl _, hg⟩, ?_, ?_, ?_, ?_, ?_⟩
    · intro r l h
      obtain ⟨g, hg⟩ := hdom r l h
      obtain ⟨⟨c, e, fz, hb, _⟩, _⟩ := hreg r g l hg h
      exact (Array.getElem?_eq_some_iff.1 hb).1
    · intro r l h
      obtain ⟨g, hg⟩ := hdom r l h
      exact .inl ⟨g, hg⟩
    · intro r g h
      exact Nat.lt_of_lt_of_le (List.getElem?_eq_some_iff.1 h).1 hlen
    · intro r g l hg _ h
      exact (hreg r g l hg h).1
    · intro r1 r2 g1 g2 l1 l2 a1 _ _ _ c1 _ k1 _ _
      have := (hreg r1 g1 l1 a1 k1).2
      rw [this] at c1
      cases c1
  refine (h3 H'.length ρ0 w.heap.size w cargs (Nat.le_refl _) hR hA).mono ?_
  rintro e w' ⟨cv, ρ', rfl, hvr, hR', hG⟩
  refine ⟨by rw [hvr.sc_inv], hG.os, hG.tape, hG.output, hG.size, fun k hk => hG.frame k hk fun r g l hg _ ho hρ => ?_⟩
  have := (hreg r g l hg hρ).2
  rw [this] at ho
  cases ho
theorem add_spot {a : Addr} (h : a.spot = none) (i : Nat) : a.add i = ⟨a.block, a.off + i, none⟩ := by
  unfold Addr.add
  split
  · rename_i h0
    subst h0
    cases a
    simp_all
  · rfl
theorem param_ints {w : World} {a : Addr} {len cap : Nat} {zs : List Int} {k : IntKind} (hsp : a.spot = none) (hsh : ∃ row cells, w.shape? a.block = some (row, cells)) (hl : len ≤ cap) (hz : zs.length = cap)
    (hcell : ∀ i, i < zs.length → w.cell? (a.add i) = some (.int k (zs.getD i 0))) : ∃ (l : Loc) (off : Nat), (∀ ρ : Ren, RegOk ρ w.heap.size w l ⟨ints k (zs.take len), false, true⟩) ∧ ∀ (ρ : Ren) (r : Nat), ρ r = some l → VR ρ (.sl r 0 (zs.take len).length 1) (.slice (some a) len cap) := by
  obtain ⟨row, cells, hsh⟩ := hsh
  unfold World.shape? at hsh
  split at hsh
  case h_2 => cases hsh
  rename_i c elem fz hb
  have hbl : a.block < w.heap.size := (Array.getElem?_eq_some_iff.1 hb).1
  have hlen : (zs.take len).length = len := by rw [List.length_take]; omega
  rw [hlen]
  have ea : a = ⟨a.block, a.off, none⟩ := by cases a; simp_all
  rcases Nat.eq_zero_or_pos cap with h0 | h0
  · have hl0 : len = 0 := by omega
    subst hl0
    subst h0
    refine ⟨⟨a.block, 0, c.size⟩, 0, fun ρ => ⟨c, elem, fz, hb, rfl, by simp [ints], ?_, ⟨fun h => (by cases h), fun _ => hbl⟩⟩, fun ρ r h => ?_⟩
    · simp only [List.take_zero, ints, List.map_nil, List.length_nil]
      exact LR.nil
    · rw [ea]
      exact .sl0 h
  · have hc : ∀ i, i < cap → c[a.off + i]? = some (.int k (zs.getD i 0)) := by
      intro i hi
      have := hcell i (by omega)
      rw [add_spot hsp] at this
      rw [← this]
      simp [World.cell?, hb]
    have hfit : a.off + cap ≤ c.size := by
      have := (Array.getElem?_eq_some_iff.1 (hc (cap - 1) (by omega))).1
      omega
    refine ⟨⟨a.block, a.off, c.size⟩, 0, fun ρ => ⟨c, elem, fz, hb, rfl, by simp [ints]; omega, ?_, ⟨fun h => (by cases h), fun _ => hbl⟩⟩, fun ρ r h => ?_⟩
    · refine ⟨by simp [ints]; omega, ?_⟩
      intro i x y hx hy
      have hi : i < len := by
        have := (List.getElem?_eq_some_iff.1 hx).1
        simp [ints] at this
        omega
      have hx2 : x = .sc (.int k (zs.getD i 0)) := by
        simp only [ints, List.getElem?_map, List.getElem?_take, hi, if_true] at hx
        have hzi : i < zs.length := by omega
        rw [List.getElem?_eq_getElem hzi] at hx
        simp at hx
        rw [← hx]
        simp [hzi]
      have hy2 : y = .int k (zs.getD i 0) := by
        rw [List.getElem?_take] at hy
        split at hy
        · rw [List.getElem?_drop, Array.getElem?_toList, hc i (by omega)] at hy
          injection hy with hy
          exact hy.symm
        · cases hy
      rw [hx2, hy2]
      exact .sc _
    · rw [ea]
      have := VR.sl (ρ := ρ) (r := r) (off := 0) (len := len) (sz := 1) (cap := cap) (l := ⟨a.block, a.off, c.size⟩) h hl (by simp; omega)
      simpa using this
/-- A slice that is given holds its block. -/
theorem okWide_shape {P : Program} {w : World} {r : Reach} {b : Nat} {t e : TypeId} {a : Addr} {len cap : Nat} (ht : P.underlying t = some (.slice e)) (h : Value.okWide P w r b t (.slice (some a) len cap)) : a.spot = none ∧ ∃ row cells, w.shape? a.block = some (row, cells) := by
  unfold Value.okWide at h
  simp only [ht] at h
  unfold Cell.okWide at h
  simp only [ht] at h
  unfold Cell.ok at h
  simp only [ht] at h
  obtain ⟨_, _, _, h1, row, cells, h2, _⟩ := h
  exact ⟨h1, row, cells, h2⟩
theorem shut_nil {H : Type} {enc : TypeId × Value → H} {P : Program} {w : World} {base : Nat} {spare : Nat → Bool} {held : Bool} {t e : TypeId} (ht : P.underlying t = some (.slice e)) : DataW.Trod enc P w base spare held t (.slice none 0 0) .nil [] := ⟨1, by simp [DataW.trod_step, DataW.trodStep, Value.cells, ht]⟩
end Go.Proofs.Ytknmbiebnpojjaa.Sim
namespace Go.Proofs.Ytknmbiebnpojjaa.Sim
open Go
set_option linter.unusedSimpArgs false
set_option linter.unusedVariables false
/-- The kinds of flat cells. -/
inductive Kd where
  | b
  | s
  | i (k : IntKind)
def Kd.ok (k : Kd) (v : Value) : Prop :=
  match k with
  | .b => ∃ x, v = .bool x
  | .s => ∃ z, v = .string z ∧ z.size ≤ maxLen
  | .i q => ∃ n, v = .int q n
theorem Kd.ok.one {k : Kd} {v : Value} (h : k.ok v) : (AV.sc v).one = true := by
  cases k with
  | b => obtain ⟨x, rfl⟩ := h; rfl
  | s => obtain ⟨x, rfl, _⟩ := h; rfl
  | i q => obtain ⟨x, rfl⟩ := h; rfl
theorem Kd.ok.flat {k : Kd} {v : Value} (h : k.ok v) : Flat (.sc v) := .sc v
inductive Leaf where
  | f (k : Kd)
  | l (e : TypeId) (ks : List Kd)
def Leaf.kd? : Leaf → Option Kd
  | .f k => some k
  | .l _ _ => none
def leavesFs (P : Program) (rec : TypeId → Option (List Leaf)) : List Field → Nat → Option (List Leaf)
  | [], _ => some []
  | f :: fs, off => match rec f.type, leavesFs P rec fs (off + P.cellsOf f.type) with
    | some a, some b => if f.offset = off ∧ a.length = P.cellsOf f.type then some (a ++ b) else none
    | _, _ => none
def leaves (P : Program) : Nat → TypeId → Option (List Leaf)
  | 0, _ => none
  | d + 1, t => match P.underlying t with
    | some .bool => some [.f .b]
    | some .string => some [.f .s]
    | some (.int k) => some [.f (.i k)]
    | some (.slice e) => match leaves P d e with
      | some ls => match ls.mapM Leaf.kd? with
        | some ks => if P.cellsOf e = ks.length ∧ 0 < ks.length then some [.l e ks] else none
        | none => none
      | none => none
    | some (.struct fs) => match leavesFs P (leaves P d) fs.toList 0 with
      | some ls => if ls.length = P.cellsOf t then some ls else none
      | none => none
    | _ => none
section
variable {H : Type} {enc : TypeId × Value → H} {P : Program} {W : World} {base : Nat} {spare : Nat → Bool} {held : Bool}
def LeafOk (enc : TypeId × Value → H) (P : Program) (W : World) (base : Nat) (spare : Nat → Bool) (held : Bool) (l : Leaf) (v : Value) : Prop :=
  match l with
  | .f k => k.ok v
  | .l e ks => P.cellsOf e = ks.length ∧ 0 < ks.length ∧ (∃ d, leaves P d e = some (ks.map .f)) ∧ ∃ t n y, P.underlying t = some (.slice e) ∧ DataW.trod enc P W base spare held n t [v] = some y
theorem kd_map : ∀ (ls : List Leaf) (ks : List Kd), ls.mapM Leaf.kd? = some ks → ls = ks.map .f
  | [], ks, h => by
    simp at h
    subst h
    rfl
  | l :: ls, ks, h => by
    rw [List.mapM_cons] at h
    cases l with
    | l e k => simp [Leaf.kd?] at h
    | f k =>
      cases hl : ls.mapM Leaf.kd? with
      | none => simp [Leaf.kd?, hl] at h
      | some ks' =>
        simp [Leaf.kd?, hl] at h
        subst h
        rw [List.map_cons, ← kd_map ls ks' hl]
theorem mapM_all {α β : Type} {f : α → Option β} : ∀ {l : List α} {r : List β}, l.mapM f = some r → ∀ x ∈ l, ∃ y, f x = some y
  | [], r, _, x, hx => by cases hx
  | a :: l, r, h, x, hx => by
    rw [List.mapM_cons] at h
    cases ha : f a with
    | none => simp [ha] at h
    | some y =>
      cases hl : l.mapM f with
      | none => simp [ha, hl] at h
      | some ys =>
        rcases List.mem_cons.1 hx with rfl | hx
        · exact ⟨y, ha⟩
        · exact mapM_all hl x hx
theorem fs_ok (rec : TypeId → Option (List Leaf)) (r : TypeId → List Value → Option (DataW H × List MemPlace)) (L : Leaf → Value → Prop)
    (hr : ∀ t cs y ls, rec t = some ls → r t cs = some y → ∀ (i : Nat) l v, ls[i]? = some l → cs[i]? = some v → L l v) (cs : List Value) :
    ∀ (fs : List Field) (off : Nat) (ls : List Leaf), leavesFs P rec fs off = some ls → (∀ f ∈ fs, ∃ y, r f.type ((cs.drop f.offset).take (P.cellsOf f.type)) = some y) →
      ∀ (i : Nat) l v, ls[i]? = some l → cs[off + i]? = some v → L l v
  | [], off, ls, h, _, i, l, v, hl, _ => by
    simp [leavesFs] at h
    subst h
    simp at hl
  | f :: fs, off, ls, h, ha, i, l, v, hl, hv => by
    rw [leavesFs] at h
    cases h1 : rec f.type with
    | none => simp [h1] at h
    | some a =>
      cases h2 : leavesFs P rec fs (off + P.cellsOf f.type) with
      | none => simp [h1, h2] at h
      | some b =>
        simp only [h1, h2] at h
        split at h
        · rename_i hc
          obtain ⟨c1, c2⟩ := hc
          simp only [Option.some.injEq] at h
          subst h
          by_cases hi : i < a.length
          · rw [List.getElem?_append_left hi] at hl
            obtain ⟨y, hy⟩ := ha f (by simp)
            refine hr _ _ _ _ h1 hy i l v hl ?_
            rw [List.getElem?_take, if_pos (by omega), List.getElem?_drop, c1]
            exact hv
          · rw [List.getElem?_append_right (by omega)] at hl
            refine fs_ok rec r L hr cs fs _ b h2 (fun g hg => ha g (by simp [hg])) (i - a.length) l v hl ?_
            rw [← c2, show off + a.length + (i - a.length) = off + i by omega]
            exact hv
        · cases h
theorem leaves_ok : ∀ (d : Nat) (n : Nat) (t : TypeId) (cs : List Value) (y : DataW H × List MemPlace) (ls : List Leaf), leaves P d t = some ls → DataW.trod enc P W base spare held n t cs = some y →
    ∀ (i : Nat) l v, ls[i]? = some l → cs[i]? = some v → LeafOk enc P W base spare held l v
  | 0, n, t, cs, y, ls, h, _, i, l, v, _, _ => by cases h
  | d + 1, 0, t, cs, y, ls, h, hy, i, l, v, hl, hv => by simp [DataW.trod] at hy
  | d + 1, n + 1, t, cs, y, ls, h, hy, i, l, v, hl, hv => by
    have hy0 := hy
    rw [DataW.trod_step] at hy
    rw [leaves] at h
    cases hu : P.underlying t with
    | none => simp [hu] at h
    | some D =>
      rw [hu] at h
      unfold DataW.trodStep at hy
      cases D with
      | bool =>
        simp only [Option.some.injEq] at h
        subst h
        rw [hu] at hy
        have hc : ∃ b, cs = [.bool b] := by
          split at hy <;> simp_all
        obtain ⟨b, rfl⟩ := hc
        obtain ⟨rfl, rfl⟩ : i = 0 ∧ l = .f .b := by
          cases i with
          | zero => exact ⟨rfl, by simpa using hl.symm⟩
          | succ i => simp at hl
        simp at hv
        subst hv
        exact ⟨b, rfl⟩
      | string =>
        simp only [Option.some.injEq] at h
        subst h
        rw [hu] at hy
        have hc : ∃ b, cs = [.string b] ∧ b.size ≤ maxLen := by
          split at hy <;> simp_all
        obtain ⟨b, rfl, hb⟩ := hc
        obtain ⟨rfl, rfl⟩ : i = 0 ∧ l = .f .s := by
          cases i with
          | zero => exact ⟨rfl, by simpa using hl.symm⟩
          | succ i => simp at hl
        simp at hv
        subst hv
        exact ⟨b, rfl, hb⟩
      | int k =>
        simp only [Option.some.injEq] at h
        subst h
        rw [hu] at hy
        have hc : ∃ m, cs = [.int k m] := by
          split at hy <;> simp_all
        obtain ⟨m, rfl⟩ := hc
        obtain ⟨rfl, rfl⟩ : i = 0 ∧ l = .f (.i k) := by
          cases i with
          | zero => exact ⟨rfl, by simpa using hl.symm⟩
          | succ i => simp at hl
        simp at hv
        subst hv
        exact ⟨m, rfl⟩
      | slice e =>
        cases h1 : leaves P d e with
        | none => simp [h1] at h
        | some ls' =>
          cases h2 : ls'.mapM Leaf.kd? with
          | none => simp [h1, h2] at h
          | some ks =>
            simp only [h1, h2] at h
            split at h
            · rename_i hc
              simp only [Option.some.injEq] at h
              subst h
              obtain ⟨rfl, rfl⟩ : i = 0 ∧ l = .l e ks := by
                cases i with
                | zero => exact ⟨rfl, by simpa using hl.symm⟩
                | succ i => simp at hl
              have hcs : cs = [v] := by
                rw [hu] at hy
                split at hy <;> simp_all
              subst hcs
              exact ⟨hc.1, hc.2, ⟨d, by rw [h1, kd_map _ _ h2]⟩, t, n + 1, y, hu, hy0⟩
            · cases h
      | struct fs =>
        cases h1 : leavesFs P (leaves P d) fs.toList 0 with
        | none => simp [h1] at h
        | some ls' =>
          simp only [h1] at h
          split at h
          · rename_i hc
            simp only [Option.some.injEq] at h
            subst h
            rw [hu] at hy
            have hm : ∃ xs, fs.toList.mapM (fun f => DataW.trod enc P W base spare held n f.type ((cs.drop f.offset).take (P.cellsOf f.type))) = some xs := by
              split at hy <;> simp_all
              obtain ⟨xs, hx, _⟩ := hy.2
              exact ⟨xs, hx⟩
            obtain ⟨xs, hx⟩ := hm
            exact fs_ok (P := P) (leaves P d) (DataW.trod enc P W base spare held n) (LeafOk enc P W base spare held) (fun t cs y ls a b i l v => leaves_ok d n t cs y ls a b i l v) cs fs.toList 0 ls' h1 (fun f hf => mapM_all hx f hf) i l v hl (by simpa using hv)
          · cases h
      | _ => simp at h
/-- A row of flat cells. -/
structure Rw (ks : List Kd) where
  val : List Value
  ok : val.length = ks.length ∧ ∀ (i : Nat) k v, ks[i]? = some k → val[i]? = some v → k.ok v
def Rw.cs {ks : List Kd} (r : Rw ks) : List AV := r.val.map .sc
theorem Rw.encs {ks : List Kd} (h : 0 < ks.length) : Enc (Rw.cs (ks := ks)) ks.length := by
  refine ⟨fun a => by rw [Rw.cs, List.length_map]; exact a.ok.1, fun a => List.all_eq_true.2 fun x hx => ?_, h⟩
  obtain ⟨v, hv, rfl⟩ := List.mem_map.1 hx
  obtain ⟨i, hi⟩ := List.getElem?_of_mem hv
  have hlt := (List.getElem?_eq_some_iff.1 hi).1
  rw [a.ok.1] at hlt
  exact (a.ok.2 i ks[i] v (List.getElem?_eq_getElem hlt) hi).one
/-- A slice of the whole of a region of such rows, or none at all. -/
def IsR {ks : List Kd} (H : AHeap) (x : AV) (l : List (Rw ks)) : Prop := (x = .sc (.slice none 0 0) ∧ l = []) ∨ ∃ r own, x = .sl r 0 l.length ks.length ∧ H[r]? = some ⟨rows Rw.cs l, own, true⟩
def SlotOk (W : World) (s : Reg × Option Loc) : Prop := s.1.own = false ∧ ∀ (ρ : Ren) l, s.2 = some l → RegOk ρ W.heap.size W l s.1
theorem rows_mem {α : Type} {f : α → List AV} {l : List α} {a : AV} (h : a ∈ rows f l) : ∃ x ∈ l, a ∈ f x := by
  obtain ⟨y, hy, hya⟩ := List.mem_flatten.1 h
  obtain ⟨x, hx, rfl⟩ := List.mem_map.1 hy
  exact ⟨x, hx, hya⟩
theorem chunks {α : Type} (m : Nat) (p : List α → Prop) : ∀ (n : Nat) (cs : List α), cs.length = n * m → (∀ i, i < n → p ((cs.drop (i * m)).take m)) → ∃ rs : List (List α), rs.length = n ∧ rs.flatten = cs ∧ (∀ r ∈ rs, p r ∧ r.length = m)
  | 0, cs, hl, _ => ⟨[], rfl, by simp at hl; simp [hl], by simp⟩
  | n + 1, cs, hl, h => by
    have h1 : (cs.drop m).length = n * m := by rw [List.length_drop, hl, Nat.add_mul]; omega
    obtain ⟨rs, r1, r2, r3⟩ := chunks m p n (cs.drop m) h1 (fun i hi => by
      have := h (i + 1) (by omega)
      rw [List.drop_drop]
      rwa [Nat.add_mul, Nat.one_mul, Nat.add_comm] at this)
    refine ⟨cs.take m :: rs, by simp [r1], by simp [r2], ?_⟩
    intro r hr
    rcases List.mem_cons.1 hr with rfl | hr
    · refine ⟨by simpa using h 0 (by omega), ?_⟩
      rw [List.length_take, hl, Nat.add_mul]
      omega
    · exact r3 r hr
theorem map_rows {ks : List Kd} : ∀ (rs : List (List Value)), (∀ r ∈ rs, r.length = ks.length ∧ ∀ (i : Nat) k v, ks[i]? = some k → r[i]? = some v → k.ok v) → ∃ l : List (Rw ks), l.length = rs.length ∧ rows Rw.cs l = rs.flatten.map .sc
  | [], _ => ⟨[], rfl, rfl⟩
  | r :: rs, h => by
    obtain ⟨l, l1, l2⟩ := map_rows rs (fun q hq => h q (by simp [hq]))
    refine ⟨⟨r, h r (by simp)⟩ :: l, by simp [l1], ?_⟩
    rw [rows_cons, l2, List.flatten_cons, List.map_append]
    rfl
theorem slot {t e : TypeId} {ks : List Kd} {v : Value} {y : DataW H × List MemPlace} {n d : Nat} (ht : P.underlying t = some (.slice e)) (hm : P.cellsOf e = ks.length) (hp : 0 < ks.length) (hk : leaves P d e = some (ks.map .f))
    (h : DataW.trod enc P W 0 (fun _ => true) true n t [v] = some y) {u e2 : TypeId} (hu : P.underlying u = some (.slice e2)) {b0 : Nat} (hok : Cell.okWide P W .any b0 u v) :
    ∃ (l : List (Rw ks)) (s : Reg × Option Loc) (x : Nat → AV), SlotOk W s ∧ (∀ (ρ : Ren) r, ρ r = s.2 → VR ρ (x r) v) ∧ l.length ≤ 9223372036854775807 ∧ ∀ r (G : AHeap), G[r]? = some s.1 → IsR G (x r) l := by
  rcases DataW.trod_slice ht h with ⟨hv, _⟩ | ⟨a, len, cap, elems, rest, n', rfl, hv, _, hb, hl, hc, he1, he2, hsp, _⟩
  · simp only [List.cons.injEq, and_true] at hv
    subst hv
    refine ⟨[], (⟨[], false, true⟩, none), fun _ => .sc (.slice none 0 0), ⟨rfl, fun _ _ h => by cases h⟩, fun _ _ _ => .sc _, by simp, fun _ _ _ => .inl ⟨rfl, rfl⟩⟩
  · simp only [List.cons.injEq, and_true] at hv
    subst hv
    have hasp : a.spot = none ∧ ∃ row cells, W.shape? a.block = some (row, cells) := by
      unfold Cell.okWide at hok
      simp only [hu] at hok
      unfold Cell.ok at hok
      simp only [hu] at hok
      obtain ⟨_, _, _, h1, row, cells, h2, _⟩ := hok
      exact ⟨h1, row, cells, h2⟩
    obtain ⟨hspot, row, cells, hsh⟩ := hasp
    unfold World.shape? at hsh
    split at hsh
    case h_2 => cases hsh
    rename_i c elem fz hblk
    have hbl : a.block < W.heap.size := (Array.getElem?_eq_some_iff.1 hblk).1
    have ea : a = ⟨a.block, a.off, none⟩ := by cases a; simp_all
    have hadd : ∀ i, a.add i = ⟨a.block, a.off + i, none⟩ := fun i => add_spot hspot i
    have hadd2 : ∀ i j, (a.add i).add j = ⟨a.block, a.off + i + j, none⟩ := fun i j => by rw [hadd, add_spot rfl]
    have hcell : ∀ k, W.cell? ⟨a.block, k, none⟩ = c[k]? := fun k => by simp [World.cell?, hblk]
    obtain ⟨hr1, hr2⟩ := hsp rfl
    -- each element is read
    have each : ∀ i, i < cap → ∃ q yy, W.cells? 0 (a.add (i * P.cellsOf e)) (P.cellsOf e) = some q ∧ DataW.trod enc P W 0 (fun _ => true) true n' e q = some yy := by
      intro i hi
      by_cases h1 : i < len
      · have := he2 i h1
        rw [List.getElem?_eq_getElem (by omega), Option.bind_eq_some_iff] at this
        obtain ⟨q, q1, q2⟩ := this
        exact ⟨q, _, q1, q2⟩
      · have := hr2 (i - len) (by omega)
        rw [show len + (i - len) = i by omega, List.getElem?_eq_getElem (by omega), Option.bind_eq_some_iff] at this
        obtain ⟨q, q1, q2⟩ := this
        exact ⟨q, _, q1, q2⟩
    have eachc : ∀ i, i < cap → ∃ q yy, q.length = ks.length ∧ (∀ j, j < ks.length → c[a.off + i * ks.length + j]? = q[j]?) ∧ DataW.trod enc P W 0 (fun _ => true) true n' e q = some yy := by
      intro i hi
      obtain ⟨q, yy, q1, q2⟩ := each i hi
      obtain ⟨_, q4, q5⟩ := World.cells?_some q1
      rw [hm] at q4 q5
      refine ⟨q, yy, q4, fun j hj => ?_, q2⟩
      have := q5 j hj
      rw [hadd2, hcell] at this
      exact this
    have hfit : a.off + cap * ks.length ≤ c.size ∨ cap = 0 := by
      rcases Nat.eq_zero_or_pos cap with h0 | h0
      · exact .inr h0
      · obtain ⟨q, yy, q1, q2, _⟩ := eachc (cap - 1) (by omega)
        have := q2 (ks.length - 1) (by omega)
        rw [List.getElem?_eq_getElem (by omega)] at this
        have := (Array.getElem?_eq_some_iff.1 this).1
        have e2 : cap * ks.length = (cap - 1) * ks.length + ks.length := by
          obtain ⟨k, rfl⟩ : ∃ k, cap = k + 1 := ⟨cap - 1, by omega⟩
          rw [Nat.add_mul, Nat.one_mul, Nat.add_sub_cancel]
        exact .inl (by omega)
    rcases hfit with hfit | h0
    · have hlm : len * ks.length ≤ cap * ks.length := Nat.mul_le_mul_right _ hl
      let cs := (c.toList.drop a.off).take (len * ks.length)
      have hcl : cs.length = len * ks.length := by
        show ((c.toList.drop a.off).take (len * ks.length)).length = _
        have hcz : c.toList.length = c.size := Array.length_toList
        rw [List.length_take, List.length_drop, hcz]
        omega
      obtain ⟨rs, rs1, rs2, rs3⟩ := chunks ks.length (fun r => ∀ (i : Nat) k v, ks[i]? = some k → r[i]? = some v → k.ok v) len cs hcl (by
        intro i hi
        obtain ⟨q, yy, q1, q2, q3⟩ := eachc i (by omega)
        have hq : (cs.drop (i * ks.length)).take ks.length = q := by
          apply List.ext_getElem?
          intro j
          by_cases hj : j < ks.length
          · have hij : i * ks.length + j < len * ks.length := by
              have : (i + 1) * ks.length ≤ len * ks.length := Nat.mul_le_mul_right _ hi
              rw [Nat.add_mul, Nat.one_mul] at this
              omega
            rw [List.getElem?_take, if_pos hj, List.getElem?_drop, ← q2 j hj]
            show ((c.toList.drop a.off).take (len * ks.length))[i * ks.length + j]? = _
            rw [List.getElem?_take, if_pos hij, List.getElem?_drop, Array.getElem?_toList, Nat.add_assoc]
          · rw [List.getElem?_eq_none (by rw [List.length_take]; omega), List.getElem?_eq_none (by omega)]
        rw [hq]
        intro j k v hk1 hv1
        have := leaves_ok d n' e q yy _ hk q3 j (.f k) v (by rw [List.getElem?_map, hk1]; rfl) hv1
        exact this)
      obtain ⟨l, l1, l2⟩ := map_rows rs (fun r hr => ⟨(rs3 r hr).2, (rs3 r hr).1⟩)
      have hlen : l.length = len := by rw [l1, rs1]
      have hrl : (rows Rw.cs l).length = len * ks.length := by rw [rows_len (Rw.encs hp), hlen]
      refine ⟨l, (⟨rows Rw.cs l, false, true⟩, some ⟨a.block, a.off, c.size⟩), fun r => .sl r 0 len ks.length, ⟨rfl, ?_⟩, ?_, by rw [hlen]; exact Nat.le_trans hl (Nat.le_trans hc (by decide)), ?_⟩
      · intro ρ lc hlc
        simp only [Option.some.injEq] at hlc
        subst hlc
        refine ⟨c, elem, fz, hblk, rfl, ?_, ?_, fun h => (by cases h), fun _ => hbl⟩
        · rw [hrl]
          exact Nat.le_trans (Nat.add_le_add_left hlm _) hfit
        · rw [l2, rs2, List.length_map, hcl]
          refine ⟨by rw [List.length_map], ?_⟩
          intro i x z hx hz
          rw [List.getElem?_map] at hx
          have : cs[i]? = some z := hz
          rw [this] at hx
          simp at hx
          subst hx
          exact .sc _
      · intro ρ r hr
        rw [ea]
        have := VR.sl (ρ := ρ) (r := r) (off := 0) (len := len) (sz := ks.length) (cap := cap) (l := ⟨a.block, a.off, c.size⟩) hr hl (by simpa using hfit)
        simpa using this
      · intro r G hG
        exact .inr ⟨r, false, by rw [hlen], hG⟩
    · have hl0 : len = 0 := by omega
      subst hl0
      subst h0
      refine ⟨[], (⟨rows Rw.cs ([] : List (Rw ks)), false, true⟩, some ⟨a.block, 0, c.size⟩), fun r => .sl r 0 0 ks.length, ⟨rfl, ?_⟩, ?_, by simp, ?_⟩
      · intro ρ lc hlc
        simp only [Option.some.injEq] at hlc
        subst hlc
        refine ⟨c, elem, fz, hblk, rfl, by simp [rows], ?_, fun h => (by cases h), fun _ => hbl⟩
        simp only [rows, List.map_nil, List.flatten_nil, List.length_nil, List.take_zero]
        exact LR.nil
      · intro ρ r hr
        rw [ea]
        exact .sl0 hr
      · intro r G hG
        exact .inr ⟨r, false, rfl, hG⟩
/-- What a cell is told to be. -/
def CellSpec (l : Leaf) (v : Value) (x : AV) (g : Reg) (r : Nat) : Prop :=
  match l with
  | .f k => x = .sc v ∧ k.ok v
  | .l _ ks => ∃ q : List (Rw ks), q.length ≤ 9223372036854775807 ∧ ∀ G : AHeap, G[r]? = some g → IsR G x q
theorem open_cells : ∀ (ls : List Leaf) (cs : List Value) (off : Nat), cs.length = ls.length → (∀ (i : Nat) l v, ls[i]? = some l → cs[i]? = some v → LeafOk enc P W 0 (fun _ => true) true l v) →
    (∀ (i : Nat) e ks v, ls[i]? = some (.l e ks) → cs[i]? = some v → ∃ u e2 b0, P.underlying u = some (.slice e2) ∧ Cell.okWide P W .any b0 u v) →
    ∃ (S : List (Reg × Option Loc)) (xs : List AV), S.length = ls.length ∧ (∀ p ∈ S, SlotOk W p) ∧ (∀ ρ : Ren, (∀ i p, S[i]? = some p → ρ (off + i) = p.2) → LR ρ xs cs) ∧
      ∀ (i : Nat) l v, ls[i]? = some l → cs[i]? = some v → ∃ x p, xs[i]? = some x ∧ S[i]? = some p ∧ CellSpec l v x p.1 (off + i)
  | [], cs, off, hl, _, _ => ⟨[], [], rfl, by simp, fun ρ _ => by
      have : cs = [] := by simpa using hl
      subst this
      exact LR.nil, by simp⟩
  | l :: ls, [], off, hl, _, _ => by simp at hl
  | l :: ls, v :: cs, off, hl, h, hw => by
    obtain ⟨S, xs, s1, s2, s3, s4⟩ := open_cells ls cs (off + 1) (by simpa using hl) (fun i l v a b => h (i + 1) l v a b) (fun i e ks v a b => hw (i + 1) e ks v a b)
    have key : ∃ (p : Reg × Option Loc) (x : AV), SlotOk W p ∧ (∀ ρ : Ren, ρ off = p.2 → VR ρ x v) ∧ CellSpec l v x p.1 off := by
      have h0 := h 0 l v rfl rfl
      cases l with
      | f k => exact ⟨(⟨[], false, true⟩, none), .sc v, ⟨rfl, fun _ _ h => by cases h⟩, fun _ _ => .sc _, rfl, h0⟩
      | l e ks =>
        obtain ⟨h1, h2, ⟨d, h3⟩, t, n, y, h4, h5⟩ := h0
        obtain ⟨u, e2, b0, u1, u2⟩ := hw 0 e ks v rfl rfl
        obtain ⟨q, p, x, q1, q2, q4, q3⟩ := slot h4 h1 h2 h3 h5 u1 u2
        exact ⟨p, x off, q1, fun ρ hρ => q2 ρ off hρ, q, q4, fun G hG => q3 off G hG⟩
    obtain ⟨p, x, k1, k2, k3⟩ := key
    refine ⟨p :: S, x :: xs, by simp [s1], ?_, ?_, ?_⟩
    · intro q hq
      rcases List.mem_cons.1 hq with rfl | hq
      · exact k1
      · exact s2 q hq
    · intro ρ hρ
      refine LR.cons (k2 ρ (hρ 0 p rfl)) (s3 ρ fun i q hq => ?_)
      have := hρ (i + 1) q hq
      rwa [show off + (i + 1) = off + 1 + i by omega] at this
    · intro i l' v' hl' hv'
      cases i with
      | zero =>
        simp at hl' hv'
        subst hl' hv'
        exact ⟨x, p, rfl, rfl, k3⟩
      | succ i =>
        obtain ⟨x', p', a1, a2, a3⟩ := s4 i l' v' hl' hv'
        rw [show off + 1 + i = off + (i + 1) by omega] at a3
        exact ⟨x', p', a1, a2, a3⟩
theorem entryS {f : FuncId} {v : Value} {ags : List AV} {H' : AHeap} (S : List (Reg × Option Loc)) (hs : Sound P f ags (S.map (·.1)) (.sc v) H') (cargs : Array Value) (hS : ∀ p ∈ S, SlotOk W p)
    (hA : LR (fun r => (S[r]?).bind (·.2)) ags cargs.toList) : Calls P f cargs W fun e w' => e = .returned v ∧ RowKit.Below W.heap.size W w' := by
  refine entry hs W cargs _ ?_ ?_ hA
  · intro r g l hg hr
    rw [List.getElem?_map] at hg
    cases hp : S[r]? with
    | none => simp [hp] at hg
    | some p =>
      simp only [hp, Option.map_some, Option.some.injEq] at hg
      simp only [hp, Option.bind_some] at hr
      subst hg
      obtain ⟨o1, o2⟩ := hS p (List.mem_of_getElem? hp)
      exact ⟨o2 _ l hr, o1⟩
  · intro r l hr
    cases hp : S[r]? with
    | none => simp [hp] at hr
    | some p => exact ⟨p.1, by rw [List.getElem?_map, hp]; rfl⟩
def slicesPos (P : Program) : Bool := (List.range P.types.size).all fun t => match P.underlying t with | some (.slice e) => decide (0 < P.cellsOf e) | _ => true
/-- What was given is as it was. -/
theorem trodAll_stays {W' : World} {sp' : Nat → Bool} (h1 : laidOutB P = true) (h2 : mapsRowed P = true) (h3 : slicesPos P = true) (bel : RowKit.Below W.heap.size W W') (hsp : ∀ b, b < W.heap.size → sp' b = true) : ∀ {ts : List TypeId} {vs : List Value} {ds : List (DataW H)} {ps : List MemPlace}, (∀ t ∈ ts, t < P.types.size) → DataW.TrodAll enc P W base (fun _ => true) true ts vs ds ps → DataW.TrodAll enc P W' base sp' true ts vs ds ps
  | [], [], [], _, _, h => h
  | t :: _, _ :: _, _ :: _, _, hts, ⟨a, b, ⟨n, h4⟩, h5, e⟩ => by
    have hlt := DataW.trod_lt n _ _ _ h4
    refine ⟨a, b, ⟨n, DataW.trod_stays (kids_rows h1 h2) (fun {t e} ht hu => ?_) (fun h => by cases h) (hts t (by simp)) h4 (fun p hp => ?_) fun p hp => hsp _ (hlt p hp)⟩, trodAll_stays h1 h2 h3 bel hsp (fun t ht => hts t (by simp [ht])) h5, e⟩
    · have := List.all_eq_true.1 h3 t (List.mem_range.2 ht)
      rw [hu] at this
      simpa using this
    · have hl := hlt p hp
      cases p with
      | cell b off =>
        show W'.cell? ⟨b, off, none⟩ = W.cell? ⟨b, off, none⟩
        simp only [World.cell?, bel.block b hl]
      | map b => exact bel.block b hl
/-- The cells of a struct that is given. -/
theorem row_wide {t : TypeId} {cs : Array Value} {b0 : Nat} {r : Reach} (ts : List TypeId) (hts : P.cellTypes P.depth t = some ts) (h : Row.okWide P W r b0 t cs) (hn : cs.size = ts.length) : ∀ (i : Nat) v, cs[i]? = some v → ∃ u, ts[i]? = some u ∧ Cell.okWide P W r b0 u v := by
  obtain ⟨ts', h1, _, h3⟩ := h
  rw [hts] at h1
  simp only [Option.some.injEq] at h1
  subst h1
  intro i v hv
  obtain ⟨u, u1, u2⟩ := h3 i v hv
  have hi := (Array.getElem?_eq_some_iff.1 hv).1
  rw [Nat.mod_eq_of_lt (by omega)] at u1
  exact ⟨u, u1, u2⟩
def wideB (P : Program) (t : TypeId) (ls : List Leaf) : Bool :=
  match P.cellTypes P.depth t with
  | some ts => ts.length == ls.length && P.cellsOf t == ls.length && (List.range ls.length).all fun i => match ls[i]? with
    | some (.l _ _) => (match ts[i]? with
      | some u => (match P.underlying u with | some (.slice _) => true | _ => false)
      | none => false)
    | _ => true
  | none => false
theorem range_getD {α : Type} (d : α) (xs : List α) : xs = (List.range xs.length).map fun i => xs.getD i d := by
  apply List.ext_getElem (by simp)
  intro i h1 h2
  simp [h1]
def noSlot : Reg × Option Loc := (⟨[], false, true⟩, none)
theorem noSlot_ok : SlotOk W noSlot := ⟨rfl, fun _ _ h => by cases h⟩
/-- A struct that is given. -/
theorem open_struct {t : TypeId} {fs : Array Field} {v : Value} {d : DataW H} {p : List MemPlace} {b0 : Nat} (ls : List Leaf) (D : Nat) (ht : P.underlying t = some (.struct fs)) (hl : leaves P D t = some ls) (hw : wideB P t ls = true)
    (hv : Value.okWide P W .any b0 t v) (h : DataW.Trod enc P W 0 (fun _ => true) true t v d p) (off : Nat) :
    ∃ (X : Nat → AV) (G : Nat → Reg × Option Loc), (∀ i, SlotOk W (G i)) ∧ (∀ ρ : Ren, (∀ i, i < ls.length → ρ (off + i) = (G i).2) → VR ρ (.agg ((List.range ls.length).map X)) v) ∧ ∀ (i : Nat) l, ls[i]? = some l → ∃ v, CellSpec l v (X i) (G i).1 (off + i) := by
  unfold Value.okWide at hv
  simp only [ht] at hv
  obtain ⟨cs, rfl, hsz, hrow⟩ := hv
  unfold wideB at hw
  cases hts : P.cellTypes P.depth t with
  | none => simp [hts] at hw
  | some ts =>
    simp only [hts, Bool.and_eq_true, beq_iff_eq] at hw
    obtain ⟨⟨w1, w2⟩, w3⟩ := hw
    obtain ⟨n, hn⟩ := h
    have hcs : (Value.agg cs).cells.toList = cs.toList := rfl
    rw [hcs] at hn
    have hcl : cs.toList.length = ls.length := by rw [← w2, ← hsz]; exact Array.length_toList
    have hrw := row_wide ts hts hrow (by rw [hsz, w2, w1])
    obtain ⟨S, xs, s1, s2, s3, s4⟩ := open_cells ls cs.toList off hcl (leaves_ok D n t cs.toList _ ls hl hn) (fun i e ks v hi hvi => by
      rw [Array.getElem?_toList] at hvi
      obtain ⟨u, u1, u2⟩ := hrw i v hvi
      have hil := (List.getElem?_eq_some_iff.1 hi).1
      have := List.all_eq_true.1 w3 i (List.mem_range.2 hil)
      simp only [hi, u1] at this
      cases hu : P.underlying u with
      | none => simp [hu] at this
      | some D =>
        cases D with
        | slice e2 => exact ⟨u, e2, b0, hu, u2⟩
        | _ => simp [hu] at this)
    have hG : ∀ i, i < ls.length → S[i]? = some ((S[i]?).getD noSlot) := fun i hi => by rw [List.getElem?_eq_getElem (by omega)]; rfl
    have hxl : xs.length = ls.length := by
      have := (s3 (fun r => ((S[r - off]?).getD noSlot).2) (fun i p hp => by simp only [Nat.add_sub_cancel_left, hp]; rfl)).1
      rw [this, hcl]
    refine ⟨fun i => xs.getD i und, fun i => (S[i]?).getD noSlot, fun i => ?_, fun ρ hρ => ?_, fun i l hi => ?_⟩
    · cases hp : S[i]? with
      | none =>
        simp only [hp, Option.getD_none]
        exact noSlot_ok
      | some p =>
        simp only [hp, Option.getD_some]
        exact s2 p (List.mem_of_getElem? hp)
    · have := s3 ρ (fun i p hp => by
        have := hρ i (by rw [← s1]; exact (List.getElem?_eq_some_iff.1 hp).1)
        simp only [hp, Option.getD_some] at this
        exact this)
      rw [← hxl, ← range_getD]
      exact .agg (this.1.trans (Array.length_toList)) (fun i a v ha hv => this.2 i a v ha hv)
    · have hil := (List.getElem?_eq_some_iff.1 hi).1
      obtain ⟨x, p, a1, a2, a3⟩ := s4 i l cs.toList[i] hi (List.getElem?_eq_getElem (by omega))
      refine ⟨cs.toList[i], ?_⟩
      simp only [a2, Option.getD_some, List.getD_eq_getElem?_getD, a1]
      exact a3
/-- A slice, a number, a text that is given. -/
theorem open_one {t : TypeId} {v : Value} {d : DataW H} {p : List MemPlace} {b0 : Nat} (l : Leaf) (D : Nat) (hl : leaves P D t = some [l]) (hv : Value.okWide P W .any b0 t v) (hcw : ∀ e ks, l = .l e ks → ∃ e2, P.underlying t = some (.slice e2))
    (hvc : v.cells.toList = [v]) (h : DataW.Trod enc P W 0 (fun _ => true) true t v d p) (off : Nat) :
    ∃ (X : AV) (G : Reg × Option Loc), SlotOk W G ∧ (∀ ρ : Ren, ρ off = G.2 → VR ρ X v) ∧ CellSpec l v X G.1 off := by
  obtain ⟨n, hn⟩ := h
  rw [hvc] at hn
  obtain ⟨S, xs, s1, s2, s3, s4⟩ := open_cells [l] [v] off rfl (leaves_ok D n t [v] _ [l] hl hn) (fun i e ks u hi hvi => by
    cases i with
    | zero =>
      simp at hi hvi
      subst hi hvi
      obtain ⟨e2, he⟩ := hcw e ks rfl
      refine ⟨t, e2, b0, he, ?_⟩
      unfold Value.okWide at hv
      simpa only [he] using hv
    | succ i => simp at hi)
  obtain ⟨x, p, a1, a2, a3⟩ := s4 0 l v rfl rfl
  refine ⟨x, p, s2 p (List.mem_of_getElem? a2), fun ρ hρ => ?_, a3⟩
  have := s3 ρ (fun i q hq => by
    have hi := (List.getElem?_eq_some_iff.1 hq).1
    rw [s1] at hi
    obtain rfl : i = 0 := by simpa using hi
    rw [a2] at hq
    simp only [Option.some.injEq] at hq
    rw [← hq]
    exact hρ)
  exact this.2 0 x v a1 rfl
theorem slot_at (A B : List (Reg × Option Loc)) (n : Nat) (G : Nat → Reg × Option Loc) (off i : Nat) (hA : A.length = off) (hi : i < n) : ((A ++ ((List.range n).map G ++ B))[off + i]?).bind (·.2) = (G i).2 := by
  subst hA
  rw [List.getElem?_append_right (by omega), Nat.add_sub_cancel_left, List.getElem?_append_left (by simpa using hi), List.getElem?_map, List.getElem?_range hi]
  rfl
theorem slots_ok {n : Nat} {G : Nat → Reg × Option Loc} (h : ∀ i, SlotOk W (G i)) {B : List (Reg × Option Loc)} (hB : ∀ p ∈ B, SlotOk W p) : ∀ p ∈ (List.range n).map G ++ B, SlotOk W p := by
  intro p hp
  rcases List.mem_append.1 hp with hp | hp
  · obtain ⟨i, _, rfl⟩ := List.mem_map.1 hp
    exact h i
  · exact hB p hp
theorem slots_nil : ∀ p ∈ ([] : List (Reg × Option Loc)), SlotOk W p := fun p hp => by cases hp
/-- Rows of one number, of one truth. -/
def Rw.int1 {k : IntKind} (r : Rw [.i k]) : Int := match r.val with | [.int _ n] => n | _ => 0
def Rw.bool1 (r : Rw [.b]) : Bool := match r.val with | [.bool b] => b | _ => false
theorem rows_int1 {k : IntKind} : ∀ l : List (Rw [.i k]), rows Rw.cs l = ints k (l.map Rw.int1)
  | [] => rfl
  | ⟨r, h1, h2⟩ :: l => by
    rw [rows_cons, rows_int1 l]
    match r, h1, h2 with
    | [v], h1, h2 =>
      obtain ⟨n, rfl⟩ := h2 0 (.i k) v rfl rfl
      rfl
theorem rows_bool1 : ∀ l : List (Rw [.b]), rows Rw.cs l = bools (l.map Rw.bool1)
  | [] => rfl
  | ⟨r, h1, h2⟩ :: l => by
    rw [rows_cons, rows_bool1 l]
    match r, h1, h2 with
    | [v], h1, h2 =>
      obtain ⟨n, rfl⟩ := h2 0 .b v rfl rfl
      rfl
theorem IsR.ints {k : IntKind} {G : AHeap} {x : AV} {l : List (Rw [.i k])} (h : IsR G x l) : IsL G x k (l.map Rw.int1) := by
  rcases h with ⟨rfl, rfl⟩ | ⟨r, own, rfl, h⟩
  · exact .nil _ _
  · rw [rows_int1] at h
    exact .at h (by simp)
theorem IsR.bools {G : AHeap} {x : AV} {l : List (Rw [.b])} (h : IsR G x l) : IsB G x (l.map Rw.bool1) := by
  rcases h with ⟨rfl, rfl⟩ | ⟨r, own, rfl, h⟩
  · exact .nil _
  · rw [rows_bool1] at h
    exact .at h (by simp)
end
end Go.Proofs.Ytknmbiebnpojjaa.Sim
namespace Go.Proofs.Ytknmbiebnpojjaa.Sim
open Go
set_option maxRecDepth 100000
set_option maxHeartbeats 40000000
set_option linter.unusedSimpArgs false
set_option linter.unusedVariables false
theorem labelV_pair (a b : ByteArray) (n : Int) : ∃ (z : ByteArray) (c : Bool), labelV a b n = .tup [.sc (.string z), .sc (.bool c)] := by
  unfold labelV
  split
  · exact ⟨_, _, rfl⟩
  · exact ⟨_, _, rfl⟩
theorem lawFnKeysTold (H : AHeap) (x : AV) (L : List Int) (hL0 : L.length ≤ 9223372036854775807) (hx : IsL H x .u8 L) : ∃ H', Sound Try.prog 5 [x] H (.sc (.bool true)) H' := by
  have key : ∃ v H', Sound Try.prog 5 [x] H v H' ∧ v = .sc (.bool true) := by
    refine Sound.runP (args := [x]) 171 [.tmp 2] Try.func5 rfl rfl rfl rfl (by simp) (fun v Z => v = .sc (.bool true)) ?_
    have hb := bigS hx
    by_cases hL : L.length ≤ 1048576
    · rw [bigNo hL] at hb
      replace hL : L.length ≤ 4000000 := by omega
      simp -implicitDefEqProofs only [↓w_seq, ↓w_region, ↓ops_cons, ↓g_assign, ↓ops_nil, ev_const, of_bool, ↓g_move, Nat.reduceLT, ev_tab, ne_eq, reduceCtorEq, not_false_eq_true, upd_ne, par0]
      refine call1S (by simp -implicitDefEqProofs only [List.map_cons, Nat.reduceLT, ev_tab, upd_eq, List.map_nil] <;> rfl) hb ?_
      obtain ⟨k, f, n, Z1, k1, k2, a1, e1⟩ := drawExpanded hx hL
      have a2 := expI k f n (by omega) (by omega)
      have a3 := expS k f n (by omega) (by omega)
      obtain ⟨za, ba, ha⟩ := expV_pair k f n
      rw [ha] at a2 a3
      obtain ⟨s, u, m, Z2, b1, e2⟩ := drawLabelOf (e1.isL hx) hL
      have b2 := labelI s u m
      have b3 := labelS s u m
      obtain ⟨zb, bb, hbb⟩ := labelV_pair s u m
      rw [hbb] at b2 b3
      obtain ⟨k', s', u', m', Z3, k3, c1, e3⟩ := drawExpandedLabel ((e1.trans e2).isL hx) hL
      have c2 := xlbI k' s' u' m' (by omega)
      have c3 := xlbS k' s' u' m' (by omega)
      obtain ⟨zc, bc, hc⟩ := xlbV_pair k' s' u' m'
      rw [hc] at c2 c3
      obtain ⟨k4, s4, t4, Z4, k5, k6, d1, e4⟩ := drawDerivedSecret (((e1.trans e2).trans e3).isL hx) hL
      have d2 := derI k4 s4 t4 (by omega) (by omega)
      have d3 := derS k4 s4 t4 (by omega) (by omega)
      obtain ⟨zd, bd, hd⟩ := xlbV_pair k4 s4 (dig t4) 32
      rw [hd] at d2 d3
      obtain ⟨v, w, Z5, k7, k8, f1, e5⟩ := drawExtracted ((((e1.trans e2).trans e3).trans e4).isL hx) hL
      have f2 := extI v w (by omega) (by omega)
      have f3 := extS v w (by omega) (by omega)
      generalize hmac v w = V at *
      simp -implicitDefEqProofs only [↓ops_nil, ↓w_cond, Nat.reduceLT, ev_tab, upd_eq, ↓w_seq, ↓w_region, ↓ops_cons, ↓g_assign, ↓w_ret, ev_const, of_bool, retP_1, res_tmp, onS_some, ↓w_skip, ↓g_move, ne_eq, reduceCtorEq, not_false_eq_true, upd_ne, par0, onB_false]
      refine call1S (by simp -implicitDefEqProofs only [List.map_cons, Nat.reduceLT, ev_tab, upd_eq, List.map_nil] <;> rfl) a1 ?_
      simp -implicitDefEqProofs only [↓ops_cons, ↓g_move, ↓g_extract, Nat.reduceLT, ev_tab, upd_eq, ext_0, ne_eq, Nat.reduceEqDiff, not_false_eq_true, upd_ne, ext_1, ext_2, ↓g_assign, ↓ops_nil, ↓w_seq, ↓w_region, onS_some]
      refine call1 (by simp -implicitDefEqProofs only [List.map_cons, Nat.reduceLT, ev_tab, ne_eq, Nat.reduceEqDiff, not_false_eq_true, upd_ne, upd_eq, List.map_nil] <;> rfl) a2 ?_
      simp -implicitDefEqProofs only [↓ops_cons, ↓g_move, ↓g_extract, Nat.reduceLT, ev_tab, upd_eq, ext_0, ne_eq, Nat.reduceEqDiff, not_false_eq_true, upd_ne, ext_1, ↓g_assign, ↓ops_nil, ↓w_seq, ↓w_region, onS_some]
      refine call1 (by simp -implicitDefEqProofs only [List.map_cons, Nat.reduceLT, ev_tab, ne_eq, Nat.reduceEqDiff, not_false_eq_true, upd_ne, upd_eq, List.map_nil] <;> rfl) a3 ?_
      simp -implicitDefEqProofs only [↓ops_cons, ↓g_move, ↓g_extract, Nat.reduceLT, ev_tab, upd_eq, ext_0, ne_eq, Nat.reduceEqDiff, not_false_eq_true, upd_ne, ext_1, ↓g_assign, ↓ops_nil, ↓w_seq, ↓w_region, reduceCtorEq, par0, onS_some]
      refine call1S (by simp -implicitDefEqProofs only [List.map_cons, Nat.reduceLT, ev_tab, upd_eq, List.map_nil] <;> rfl) b1 ?_
      simp -implicitDefEqProofs only [↓ops_cons, ↓g_move, ↓g_extract, Nat.reduceLT, ev_tab, upd_eq, ext_0, ne_eq, Nat.reduceEqDiff, not_false_eq_true, upd_ne, ext_1, ext_2, ↓g_assign, ↓ops_nil, ↓w_seq, ↓w_region, onS_some]
      refine call1 (by simp -implicitDefEqProofs only [List.map_cons, Nat.reduceLT, ev_tab, ne_eq, Nat.reduceEqDiff, not_false_eq_true, upd_ne, upd_eq, List.map_nil] <;> rfl) b2 ?_
      simp -implicitDefEqProofs only [↓ops_cons, ↓g_move, ↓g_extract, Nat.reduceLT, ev_tab, upd_eq, ext_0, ne_eq, Nat.reduceEqDiff, not_false_eq_true, upd_ne, ext_1, ↓g_assign, ↓ops_nil, ↓w_seq, ↓w_region, onS_some]
      refine call1 (by simp -implicitDefEqProofs only [List.map_cons, Nat.reduceLT, ev_tab, ne_eq, Nat.reduceEqDiff, not_false_eq_true, upd_ne, upd_eq, List.map_nil] <;> rfl) b3 ?_
      simp -implicitDefEqProofs only [↓ops_cons, ↓g_move, ↓g_extract, Nat.reduceLT, ev_tab, upd_eq, ext_0, ne_eq, Nat.reduceEqDiff, not_false_eq_true, upd_ne, ext_1, ↓g_assign, ↓ops_nil, ↓w_seq, ↓w_region, reduceCtorEq, par0, onS_some]
      refine call1S (by simp -implicitDefEqProofs only [List.map_cons, Nat.reduceLT, ev_tab, upd_eq, List.map_nil] <;> rfl) c1 ?_
      simp -implicitDefEqProofs only [↓ops_cons, ↓g_move, ↓g_extract, Nat.reduceLT, ev_tab, upd_eq, ext_0, ne_eq, Nat.reduceEqDiff, not_false_eq_true, upd_ne, ext_1, ext_2, ext_3, ↓g_assign, ↓ops_nil, ↓w_seq, ↓w_region, onS_some]
      refine call1 (by simp -implicitDefEqProofs only [List.map_cons, Nat.reduceLT, ev_tab, ne_eq, Nat.reduceEqDiff, not_false_eq_true, upd_ne, upd_eq, List.map_nil] <;> rfl) c2 ?_
      simp -implicitDefEqProofs only [↓ops_cons, ↓g_move, ↓g_extract, Nat.reduceLT, ev_tab, upd_eq, ext_0, ne_eq, Nat.reduceEqDiff, not_false_eq_true, upd_ne, ext_1, ↓g_assign, ↓ops_nil, ↓w_seq, ↓w_region, onS_some]
      refine call1 (by simp -implicitDefEqProofs only [List.map_cons, Nat.reduceLT, ev_tab, ne_eq, Nat.reduceEqDiff, not_false_eq_true, upd_ne, upd_eq, List.map_nil] <;> rfl) c3 ?_
      simp -implicitDefEqProofs only [↓ops_cons, ↓g_move, ↓g_extract, Nat.reduceLT, ev_tab, upd_eq, ext_0, ne_eq, Nat.reduceEqDiff, not_false_eq_true, upd_ne, ext_1, ↓g_assign, ↓ops_nil, ↓w_seq, ↓w_region, reduceCtorEq, par0, onS_some]
      refine call1S (by simp -implicitDefEqProofs only [List.map_cons, Nat.reduceLT, ev_tab, upd_eq, List.map_nil] <;> rfl) d1 ?_
      simp -implicitDefEqProofs only [↓ops_cons, ↓g_move, ↓g_extract, Nat.reduceLT, ev_tab, upd_eq, ext_0, ne_eq, Nat.reduceEqDiff, not_false_eq_true, upd_ne, ext_1, ext_2, ↓g_assign, ↓ops_nil, ↓w_seq, ↓w_region, onS_some]
      refine call1 (by simp -implicitDefEqProofs only [List.map_cons, Nat.reduceLT, ev_tab, ne_eq, Nat.reduceEqDiff, not_false_eq_true, upd_ne, upd_eq, List.map_nil] <;> rfl) d2 ?_
      simp -implicitDefEqProofs only [↓ops_cons, ↓g_move, ↓g_extract, Nat.reduceLT, ev_tab, upd_eq, ext_0, ne_eq, Nat.reduceEqDiff, not_false_eq_true, upd_ne, ext_1, ↓g_assign, ↓ops_nil, ↓w_seq, ↓w_region, onS_some]
      refine call1 (by simp -implicitDefEqProofs only [List.map_cons, Nat.reduceLT, ev_tab, ne_eq, Nat.reduceEqDiff, not_false_eq_true, upd_ne, upd_eq, List.map_nil] <;> rfl) d3 ?_
      simp -implicitDefEqProofs only [↓ops_cons, ↓g_move, ↓g_extract, Nat.reduceLT, ev_tab, upd_eq, ext_0, ne_eq, Nat.reduceEqDiff, not_false_eq_true, upd_ne, ext_1, ↓g_assign, ↓ops_nil, ↓w_seq, ↓w_region, reduceCtorEq, par0, onS_some]
      refine call1S (by simp -implicitDefEqProofs only [List.map_cons, Nat.reduceLT, ev_tab, upd_eq, List.map_nil] <;> rfl) f1 ?_
      simp -implicitDefEqProofs only [↓ops_cons, ↓g_move, ↓g_extract, Nat.reduceLT, ev_tab, upd_eq, ext_0, ne_eq, Nat.reduceEqDiff, not_false_eq_true, upd_ne, ext_1, ↓g_assign, ↓ops_nil, ↓w_seq, ↓w_region, ↓g_binOp, t_eql, beq_self_eq_true, onS_some, yielded_tab, dstAt_s, dstAt_0, ybv_some, boolOf_b, ↓g_guard_t, v_eql _ _ _ _ Try.underlying4, ↓g_pick, ev_const, of_bool, pick_b, if_true]
      refine call1 (by simp -implicitDefEqProofs only [List.map_cons, Nat.reduceLT, ev_tab, ne_eq, Nat.reduceEqDiff, not_false_eq_true, upd_ne, upd_eq, List.map_nil] <;> rfl) f2 ?_
      simp -implicitDefEqProofs only [↓ops_cons, yielded_tab, dstAt_s, dstAt_0, Nat.reduceLT, ybv_some, ne_eq, Nat.reduceEqDiff, not_false_eq_true, upd_ne, upd_eq, boolOf_b, ↓g_guard_t, ↓g_move, ev_tab]
      refine call1 (by simp -implicitDefEqProofs only [List.map_cons, Nat.reduceLT, ev_tab, ne_eq, Nat.reduceEqDiff, not_false_eq_true, upd_ne, upd_eq, List.map_nil] <;> rfl) f3 ?_
      simp -implicitDefEqProofs only [↓ops_cons, yielded_tab, dstAt_s, dstAt_0, Nat.reduceLT, ybv_some, ne_eq, Nat.reduceEqDiff, not_false_eq_true, upd_ne, upd_eq, boolOf_b, ↓g_guard_t, ↓g_binOp, ev_tab, t_eql, beq_self_eq_true, ↓g_pick, ev_const, of_bool, pick_b, if_true, ↓g_assign, ↓ops_nil, ↓w_ret, retP_1, res_tmp, onS_some]
    · rw [bigYes hL] at hb
      simp -implicitDefEqProofs only [↓w_seq, ↓w_region, ↓ops_cons, ↓g_assign, ↓ops_nil, ev_const, of_bool, ↓g_move, Nat.reduceLT, ev_tab, ne_eq, reduceCtorEq, not_false_eq_true, upd_ne, par0]
      refine call1S (by simp -implicitDefEqProofs only [List.map_cons, Nat.reduceLT, ev_tab, upd_eq, List.map_nil] <;> rfl) hb ?_
      simp -implicitDefEqProofs only [↓ops_nil, ↓w_cond, Nat.reduceLT, ev_tab, upd_eq, ↓w_seq, ↓w_region, ↓ops_cons, ↓g_assign, ↓w_ret, ev_const, of_bool, retP_1, res_tmp, onS_some, ↓w_skip, ↓g_move, ne_eq, reduceCtorEq, not_false_eq_true, upd_ne, par0, onB_true]
  obtain ⟨v, H', h1, rfl⟩ := key
  exact ⟨H', h1⟩
end Go.Proofs.Ytknmbiebnpojjaa.Sim
