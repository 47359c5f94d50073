/- Texts of this proof, put together. -/
import Derived.Test.YtknmbiebnpojjaaMFnPiecesTold2
import Derived.Test.YtknmbiebnpojjaaMFnPiecesTold1
namespace Go.Proofs.Ytknmbiebnpojjaa.Sim
open Go
set_option maxRecDepth 100000
set_option maxHeartbeats 4000000
set_option linter.unusedSimpArgs false
set_option linter.unusedVariables false
theorem bdCur (x : AV) (h : Int) (hx : x.cells = [x]) : buildV Try.prog 110 [(0, x), (2, .sc (.int .i64 h))] = some (.agg [x, .sc (.int .i64 0), .sc (.int .i64 h)]) := by
  simp [buildV, fillA, placeS, overA, hx, cells_int, Try.underlying0, Try.underlying1, Try.underlying2, Try.underlying3, Try.underlying4, Try.underlying5, Try.underlying6, Try.underlying7, Try.underlying8, Try.underlying9, Try.underlying10, Try.underlying11, Try.underlying12, Try.underlying13, Try.underlying14, Try.underlying15, Try.underlying16, Try.underlying17, Try.underlying18, Try.underlying19, Try.underlying20, Try.underlying21, Try.underlying22, Try.underlying23, Try.underlying24, Try.underlying25, Try.underlying26, Try.underlying27, Try.underlying28, Try.underlying29, Try.underlying30, Try.underlying31, Try.underlying32, Try.underlying33, Try.underlying34, Try.underlying35, Try.underlying36, Try.underlying37, Try.underlying38, Try.underlying39, Try.underlying40, Try.underlying41, Try.underlying42, Try.underlying43, Try.underlying44, Try.underlying45, Try.underlying46, Try.underlying47, Try.underlying48, Try.underlying49, Try.underlying50, Try.underlying51, Try.underlying52, Try.underlying53, Try.underlying54, Try.underlying55, Try.underlying56, Try.underlying57, Try.underlying58, Try.underlying59, Try.underlying60, Try.underlying61, Try.underlying62, Try.underlying63, Try.underlying64, Try.underlying65, Try.underlying66, Try.underlying67, Try.underlying68, Try.underlying69, Try.underlying70, Try.underlying71, Try.underlying72, Try.underlying73, Try.underlying74, Try.underlying75, Try.underlying76, Try.underlying77, Try.underlying78, Try.underlying79, Try.underlying80, Try.underlying81, Try.underlying82, Try.underlying83, Try.underlying84, Try.underlying85, Try.underlying86, Try.underlying87, Try.underlying88, Try.underlying89, Try.underlying90, Try.underlying91, Try.underlying92, Try.underlying93, Try.underlying94, Try.underlying95, Try.underlying96, Try.underlying97, Try.underlying98, Try.underlying99, Try.underlying100, Try.underlying101, Try.underlying102, Try.underlying103, Try.underlying104, Try.underlying105, Try.underlying106, Try.underlying107, Try.underlying108, Try.underlying109, Try.underlying110, Try.underlying111, Try.underlying112, Try.underlying113, Try.underlying114, Try.underlying115, Try.underlying116, Try.underlying117, Try.underlying118, Try.underlying119, Try.underlying120, Try.underlying121, Try.underlying122, Try.underlying123, Try.underlying124, Try.underlying125, Try.underlying126, Try.underlying127, Try.underlying128, Try.underlying129, Try.underlying130, Try.underlying131, Try.underlying132, Try.underlying133, Try.underlying134, Try.underlying135, Try.underlying136, Try.underlying137, Try.underlying138, Try.underlying139, Try.underlying140, Try.underlying141, Try.underlying142, Try.underlying143, Try.underlying144, Try.underlying145, Try.underlying146, Try.underlying147, tyOk0, agg0, cells0, tyOk1, agg1, cells1, tyOk2, agg2, cells2, zero2, info2, mk2, bs2_0, bs2_1, bs2_2, bs2_3, bs2_4, bs2_5, bs2_6, bs2_7, bs2_8, bs2_10, bs2_11, bs2_12, bs2_13, tyOk3, agg3, cells3, zero3, apS26, apN26, info3, mk3, bs3_0, bs3_1, bs3_2, bs3_3, bs3_4, bs3_5, bs3_6, bs3_7, bs3_8, bs3_10, bs3_11, bs3_12, bs3_13, tyOk4, agg4, cells4, zero4, info4, mk4, bs4_0, bs4_1, bs4_2, apS52, apN52, tyOk5, agg5, cells5, isU5, zero5, apS22, apN22, apStr22, info5, mk5, bs5_0, bs5_1, bs5_2, bs5_3, bs5_4, bs5_5, bs5_6, bs5_7, bs5_8, bs5_10, bs5_11, bs5_12, bs5_13, tyOk6, agg6, cells6, isU6, zero6, info6, mk6, bs6_0, bs6_1, bs6_2, bs6_3, bs6_4, bs6_5, bs6_6, bs6_7, bs6_8, bs6_10, bs6_11, bs6_12, bs6_13, tyOk7, agg7, cells7, zero7, fadr7_0, fld7_0, fadr7_1, fld7_1, fadr7_2, fld7_2, fadr7_3, fld7_3, bz7, bds7, tyOk8, agg8, cells8, zero8, fadr8_0, fld8_0, fadr8_1, fld8_1, fadr8_2, fld8_2, fadr8_3, fld8_3, bz8, bds8, tyOk9, agg9, cells9, zero9, info9, bs9_0, bs9_1, bs9_2, bs9_3, bs9_4, bs9_5, bs9_6, bs9_8, bs9_9, bs9_10, apS125, apN125, tyOk10, agg10, cells10, zero10, info10, bs10_0, bs10_1, bs10_2, bs10_3, bs10_4, bs10_5, bs10_6, bs10_8, bs10_9, bs10_10, tyOk11, agg11, cells11, zero11, info11, bs11_0, bs11_1, bs11_2, bs11_3, bs11_4, bs11_5, bs11_6, bs11_8, bs11_9, bs11_10, tyOk12, agg12, cells12, zero12, info12, mk12, bs12_0, bs12_1, bs12_2, bs12_3, bs12_4, bs12_5, bs12_6, bs12_7, bs12_8, bs12_10, bs12_11, bs12_12, bs12_13, tyOk13, agg13, cells13, zero13, fadr13_0, fld13_0, fadr13_1, fld13_1, bz13, bds13, tyOk14, agg14, cells14, zero14, fadr14_0, fld14_0, fadr14_1, fld14_1, bz14, bds14, tyOk15, agg15, cells15, zero15, tyOk16, agg16, cells16, zero16, tyOk17, agg17, cells17, zero17, tyOk18, agg18, cells18, zero18, fadr18_0, fld18_0, bz18, bds18, tyOk19, agg19, cells19, zero19, fadr19_0, fld19_0, bz19, bds19, tyOk20, agg20, cells20, tyOk21, agg21, cells21, zero21, info21, mk21, bs21_0, bs21_1, bs21_2, bs21_3, bs21_4, bs21_5, bs21_6, bs21_7, bs21_8, bs21_10, bs21_11, bs21_12, bs21_13, tyOk22, agg22, cells22, zero22, tyOk23, agg23, cells23, tyOk24, agg24, cells24, tyOk25, agg25, cells25, tyOk26, agg26, cells26, zero26, tyOk27, agg27, cells27, tyOk28, agg28, cells28, tyOk29, agg29, cells29, zero29, info29, mk29, bs29_0, bs29_1, bs29_2, bs29_3, bs29_4, bs29_5, bs29_6, bs29_7, bs29_8, bs29_10, bs29_11, bs29_12, bs29_13, tyOk30, agg30, cells30, tyOk31, agg31, cells31, tyOk32, agg32, cells32, tyOk33, agg33, cells33, tyOk34, agg34, cells34, tyOk35, agg35, cells35, tyOk36, agg36, cells36, tyOk37, agg37, cells37, tyOk38, agg38, cells38, tyOk39, agg39, cells39, tyOk40, agg40, cells40, tyOk41, agg41, cells41, tyOk42, agg42, cells42, tyOk43, agg43, cells43, tyOk44, agg44, cells44, tyOk45, agg45, cells45, tyOk46, agg46, cells46, tyOk47, agg47, cells47, tyOk48, agg48, cells48, tyOk49, agg49, cells49, zero49, tyOk50, agg50, cells50, tyOk51, agg51, cells51, tyOk52, agg52, cells52, zero52, tyOk53, agg53, cells53, zero53, fadr53_0, fld53_0, fadr53_1, fld53_1, fadr53_2, fld53_2, fadr53_3, fld53_3, bz53, bds53, tyOk54, agg54, cells54, zero54, fadr54_0, fld54_0, fadr54_1, fld54_1, fadr54_2, fld54_2, fadr54_3, fld54_3, bz54, bds54, tyOk55, agg55, cells55, tyOk56, agg56, cells56, tyOk57, agg57, cells57, zero57, fadr57_0, fld57_0, fadr57_1, fld57_1, fadr57_2, fld57_2, fadr57_3, fld57_3, bz57, bds57, tyOk58, agg58, cells58, zero58, info58, apS49, apN49, bs58_1, bs58_0, fadr58_0, fld58_0, fadr58_1, fld58_1, fadr58_2, fld58_2, fadr58_3, fld58_3, bz58, bds58, tyOk59, agg59, cells59, tyOk60, agg60, cells60, tyOk61, agg61, cells61, tyOk62, agg62, cells62, tyOk63, agg63, cells63, tyOk64, agg64, cells64, tyOk65, agg65, cells65, tyOk66, agg66, cells66, tyOk67, agg67, cells67, tyOk68, agg68, cells68, tyOk69, agg69, cells69, tyOk70, agg70, cells70, tyOk71, agg71, cells71, tyOk72, agg72, cells72, tyOk73, agg73, cells73, tyOk74, agg74, cells74, zero74, tyOk75, agg75, cells75, tyOk76, agg76, cells76, tyOk77, agg77, cells77, tyOk78, agg78, cells78, zero78, ix78, bz78, tyOk79, agg79, cells79, tyOk80, agg80, cells80, tyOk81, agg81, cells81, tyOk82, agg82, cells82, tyOk83, agg83, cells83, tyOk84, agg84, cells84, tyOk85, agg85, cells85, zero85, info85, mk85, bs85_0, bs85_1, bs85_2, bs85_3, bs85_4, bs85_5, bs85_6, bs85_7, bs85_8, bs85_10, bs85_11, bs85_12, bs85_13, tyOk86, agg86, cells86, zero86, ix86, bz86, bd86, tyOk87, agg87, cells87, tyOk88, agg88, cells88, zero88, ix88, bz88, tyOk89, agg89, cells89, tyOk90, agg90, cells90, tyOk91, agg91, cells91, tyOk92, agg92, cells92, tyOk93, agg93, cells93, tyOk94, agg94, cells94, tyOk95, agg95, cells95, tyOk96, agg96, cells96, tyOk97, agg97, cells97, tyOk98, agg98, cells98, tyOk99, agg99, cells99, tyOk100, agg100, cells100, tyOk101, agg101, cells101, tyOk102, agg102, cells102, tyOk103, agg103, cells103, tyOk104, agg104, cells104, tyOk105, agg105, cells105, tyOk106, agg106, cells106, tyOk107, agg107, cells107, tyOk108, agg108, cells108, tyOk109, agg109, cells109, zero109, fadr109_0, fld109_0, fadr109_1, fld109_1, fadr109_2, fld109_2, bz109, bds109, tyOk110, agg110, cells110, zero110, fadr110_0, fld110_0, fadr110_1, fld110_1, fadr110_2, fld110_2, bz110, bds110, tyOk111, agg111, cells111, tyOk112, agg112, cells112, tyOk113, agg113, cells113, zero113, tyOk114, agg114, cells114, zero114, fadr114_0, fld114_0, fadr114_1, fld114_1, bz114, bds114, tyOk115, agg115, cells115, zero115, fadr115_0, fld115_0, fadr115_1, fld115_1, bz115, bds115, tyOk116, agg116, cells116, tyOk117, agg117, cells117, tyOk118, agg118, cells118, tyOk119, agg119, cells119, tyOk120, agg120, cells120, tyOk121, agg121, cells121, tyOk122, agg122, cells122, tyOk123, agg123, cells123, tyOk124, agg124, cells124, tyOk125, agg125, cells125, zero125, tyOk126, agg126, cells126, tyOk127, agg127, cells127, tyOk128, agg128, cells128, tyOk129, agg129, cells129, zero129, info129, mk129, bs129_0, bs129_1, bs129_2, bs129_3, bs129_4, bs129_5, bs129_6, bs129_7, bs129_8, bs129_10, bs129_11, bs129_12, bs129_13, tyOk130, agg130, cells130, tyOk131, agg131, cells131, tyOk132, agg132, cells132, zero132, tyOk133, agg133, cells133, zero133, tyOk134, agg134, cells134, tyOk135, agg135, cells135, tyOk136, agg136, cells136, zero136, fadr136_0, fld136_0, fadr136_1, fld136_1, fadr136_2, fld136_2, fadr136_3, fld136_3, bz136, bds136, tyOk137, agg137, cells137, zero137, fadr137_0, fld137_0, fadr137_1, fld137_1, fadr137_2, fld137_2, fadr137_3, fld137_3, bz137, bds137, tyOk138, agg138, cells138, zero138, tyOk139, agg139, cells139, zero139, tyOk140, agg140, cells140, zero140, tyOk141, agg141, cells141, isU141, zero141, info141, mk141, bs141_0, bs141_1, bs141_2, bs141_3, bs141_4, bs141_5, bs141_6, bs141_7, bs141_8, bs141_10, bs141_11, bs141_12, bs141_13, tyOk142, agg142, cells142, isU142, zero142, info142, mk142, bs142_0, bs142_1, bs142_2, bs142_3, bs142_4, bs142_5, bs142_6, bs142_7, bs142_8, bs142_10, bs142_11, bs142_12, bs142_13, tyOk143, agg143, cells143, tyOk144, agg144, cells144, zero144, info144, mk144, bs144_0, bs144_1, bs144_2, bs144_3, bs144_4, bs144_5, bs144_6, bs144_7, bs144_8, bs144_10, bs144_11, bs144_12, bs144_13, tyOk145, agg145, cells145, zero145, info145, mk145, bs145_0, bs145_1, bs145_2, bs145_3, bs145_4, bs145_5, bs145_6, bs145_7, bs145_8, bs145_10, bs145_11, bs145_12, bs145_13, tyOk146, agg146, cells146, fadr146_0, fld146_0, fadr146_1, fld146_1, fadr146_2, fld146_2, fadr146_3, fld146_3, fadr146_4, fld146_4, fadr146_5, fld146_5, fadr146_6, fld146_6, fadr146_7, fld146_7, fadr146_8, fld146_8, fadr146_9, fld146_9, fadr146_10, fld146_10, tyOk147, agg147, cells147, fadr147_0, fld147_0, fadr147_1, fld147_1, fadr147_2, fld147_2, fadr147_3, fld147_3, fadr147_4, fld147_4, fadr147_5, fld147_5, fadr147_6, fld147_6, fadr147_7, fld147_7, fadr147_8, fld147_8, fadr147_9, fld147_9, fadr147_10, fld147_10]
theorem drawNew {H : AHeap} {x : AV} {L : List Int} (hx : IsL H x .u8 L) (hL : L.length ≤ 4000000) : ∃ (r : Nat) (Z : AHeap), Sound Try.prog 58 [x] H (.ptr r 0) Z ∧ H.length ≤ r ∧ Cur Z r x L ∧ Ext H Z := by
  suffices h : ∃ v Z, Sound Try.prog 58 [x] H v Z ∧ ∃ r, v = .ptr r 0 ∧ H.length ≤ r ∧ Cur Z r x L ∧ Ext H Z by
    obtain ⟨v, Z, h1, r, rfl, h3⟩ := h
    exact ⟨r, Z, h1, h3⟩
  refine Sound.runP (args := [x]) 32 [.tmp 2] Try.func58 rfl rfl rfl rfl (by simp) (fun v Z => ∃ r, v = .ptr r 0 ∧ H.length ≤ r ∧ Cur Z r x L ∧ Ext H Z) ?_
  have lx := fun e => hx.len e
  have x1 : x.cells = [x] ∧ x.one = true := by
    rcases hx.kind with ⟨_, _, _, rfl⟩ | rfl <;> exact ⟨rfl, rfl⟩
  simp -implicitDefEqProofs only [↓w_seq, ↓w_region, ↓ops_cons, ↓g_assign, ↓ops_nil, ev_const, ↓g_move, ↓g_len, Try.underlying22, Nat.reduceLT, ev_tab, ne_eq, reduceCtorEq, not_false_eq_true, upd_ne, par0, upd_eq, lx, ↓g_binOp, of_int, ↓w_block, onS_some, b_add]
  refine w_loop (ι := Nat) (fun i s => ∃ (T : Nat → AV), s = ⟨tab 32 T, H⟩ ∧ i ≤ L.length ∧ T 0 = x ∧ (∃ h : Int, T 3 = .sc (.int .i64 h)) ∧ T 4 = .sc (.int .i64 i)) (fun i => L.length - i) ?_ (i := 0) ?_
  · rintro i s ⟨T, rfl, a1, a2, ⟨h, a3⟩, a4⟩
    have hend : Cur (H ++ [cur x 0 h]) H.length x L := ⟨⟨0, h, at_end _ _⟩, (Ext.more H _).isL hx⟩
    by_cases hi : i < L.length
    · have k1 : (i : Int) < L.length := by omega
      have k2 : (0 : Int) ≤ i := by omega
      have e1 : IntKind.i64.wrap ((i : Int) + 1) = i + 1 := w64 (by omega) (by omega)
      by_cases h4 : i < 4000
      · have k3 : (i : Int) < 4000 := by omega
        obtain ⟨q, o, rfl, hq⟩ := hx.get hi
        simp -implicitDefEqProofs only [↓w_seq, ↓w_region, ↓ops_cons, ↓g_move, ↓g_len, Try.underlying22, Nat.reduceLT, ev_tab, a4, ne_eq, reduceCtorEq, not_false_eq_true, upd_ne, a2, upd_eq, lx, ↓g_binOp, Nat.reduceEqDiff, onS_some, b_lss, k1, decide_true, yielded_tab, dstAt_s, dstAt_0, ybv_some, boolOf_b, ↓g_guard_t, ev_const, of_int, k3, ↓g_pick, of_bool, pick_b, if_true, ↓ops_nil, ↓w_cond, ↓w_skip, ↓w_block, a3, b_mul, ↓g_indexAddr, adr_sl, k2, cells5, tyOk5, and_self, Int.toNat_natCast, Nat.mul_one, Nat.zero_add, ↓g_load, ↓g_convert, Try.underlying5, Try.underlying3, ↓g_assign, b_add, e1, rd_def, agg5, hq, rd_ints, hi, c_int, b_and, ↓w_exit, ↓g_buildV, List.map_cons, List.map_nil, ↓g_box, ↓w_ret, retP_1, res_tmp, alK_some, onB_true]
        refine ⟨i + 1, by omega, _, rfl, by omega, ?_, ?_, ?_⟩
        · simp -implicitDefEqProofs only [ne_eq, reduceCtorEq, not_false_eq_true, upd_ne, a2]
        · simp -implicitDefEqProofs only [ne_eq, Nat.reduceEqDiff, not_false_eq_true, upd_ne, upd_eq]
          exact ⟨_, rfl⟩
        · simp -implicitDefEqProofs only [upd_eq] <;> rfl
      · have k3 : ¬ (i : Int) < 4000 := by omega
        simp -implicitDefEqProofs only [↓w_seq, ↓w_region, ↓ops_cons, ↓g_move, ↓g_len, Try.underlying22, Nat.reduceLT, ev_tab, a4, ne_eq, reduceCtorEq, not_false_eq_true, upd_ne, a2, upd_eq, lx, ↓g_binOp, Nat.reduceEqDiff, onS_some, b_lss, k1, decide_true, yielded_tab, dstAt_s, dstAt_0, ybv_some, boolOf_b, ↓g_guard_t, ev_const, of_int, k3, decide_false, ↓g_pick, of_bool, pick_b, if_true, ↓ops_nil, ↓w_cond, ↓w_skip, ↓w_block, a3, b_mul, ↓g_indexAddr, ↓g_load, ↓g_convert, Try.underlying5, Try.underlying3, ↓g_assign, b_add, ↓w_exit, ↓g_buildV, List.map_cons, List.map_nil, bdCur _ _ x1.1, ↓g_box, ↓w_ret, retP_1, res_tmp, alK_some, cells_agg, List.all_cons, x1, one_int, List.all_nil, Bool.and_self, true_and, onB_false]
        exact ⟨_, rfl, Nat.le_refl _, hend, Ext.more _ _⟩
    · have k1 : ¬ (i : Int) < L.length := by omega
      simp -implicitDefEqProofs only [↓w_seq, ↓w_region, ↓ops_cons, ↓g_move, ↓g_len, Try.underlying22, Nat.reduceLT, ev_tab, a4, ne_eq, reduceCtorEq, not_false_eq_true, upd_ne, a2, upd_eq, lx, ↓g_binOp, Nat.reduceEqDiff, onS_some, b_lss, k1, decide_false, yielded_tab, dstAt_s, dstAt_0, ybv_some, boolOf_b, Bool.not_true, ↓g_guard_f, ↓g_pick, ev_const, of_bool, pick_b, if_false, ↓ops_nil, ↓w_cond, ↓w_skip, ↓w_block, a3, of_int, b_mul, ↓g_indexAddr, ↓g_load, ↓g_convert, Try.underlying5, Try.underlying3, ↓g_assign, b_add, ↓w_exit, ↓g_buildV, List.map_cons, List.map_nil, bdCur _ _ x1.1, ↓g_box, ↓w_ret, retP_1, res_tmp, alK_some, cells_agg, List.all_cons, x1, one_int, List.all_nil, Bool.and_self, true_and, if_true, onB_false]
      exact ⟨_, rfl, Nat.le_refl _, hend, Ext.more _ _⟩
  · refine ⟨_, rfl, by omega, ?_, ?_, ?_⟩
    · simp -implicitDefEqProofs only [ne_eq, reduceCtorEq, not_false_eq_true, upd_ne, par0]
    · simp -implicitDefEqProofs only [ne_eq, Nat.reduceEqDiff, not_false_eq_true, upd_ne, upd_eq]
      exact ⟨_, rfl⟩
    · simp -implicitDefEqProofs only [upd_eq, Int.cast_ofNat_Int] <;> rfl
/-- Twelve numbers below 10000. -/
theorem drawPlaces {H : AHeap} {x : AV} {L : List Int} (hx : IsL H x .u8 L) (hL : L.length ≤ 4000000) : ∃ (l : List Nat) (q : Nat) (Z : AHeap), l.length = 12 ∧ (∀ a ∈ l, a < 10000) ∧ H.length ≤ q ∧ Z[q]? = some ⟨ints .i64 (l.map fun a : Nat => (a : Int)), true, true⟩ ∧ Sound Try.prog 19 [x] H (.sl q 0 12 1) Z ∧ Ext H Z := by
  suffices h : ∃ v Z, Sound Try.prog 19 [x] H v Z ∧ ∃ (l : List Nat) (q : Nat), l.length = 12 ∧ (∀ a ∈ l, a < 10000) ∧ H.length ≤ q ∧ Z[q]? = some ⟨ints .i64 (l.map fun a : Nat => (a : Int)), true, true⟩ ∧ v = .sl q 0 12 1 ∧ Ext H Z by
    obtain ⟨v, Z, h1, l, q, h2, h3, h4, h5, rfl, h6⟩ := h
    exact ⟨l, q, Z, h2, h3, h4, h5, h1, h6⟩
  refine Sound.runP (args := [x]) 21 [.tmp 2] Try.func19 rfl rfl rfl rfl (by simp) (fun v Z => ∃ (l : List Nat) (q : Nat), l.length = 12 ∧ (∀ a ∈ l, a < 10000) ∧ H.length ≤ q ∧ Z[q]? = some ⟨ints .i64 (l.map fun a : Nat => (a : Int)), true, true⟩ ∧ v = .sl q 0 12 1 ∧ Ext H Z) ?_
  simp -implicitDefEqProofs only [↓w_seq, ↓w_region, ↓ops_cons, ↓g_assign, ↓ops_nil, ev_const, ↓g_move, Nat.reduceLT, ev_tab, ne_eq, reduceCtorEq, not_false_eq_true, upd_ne, par0]
  obtain ⟨r, Z0, n1, n2, n3, n4⟩ := drawNew hx hL
  refine call1S (by simp -implicitDefEqProofs only [List.map_cons, Nat.reduceLT, ev_tab, upd_eq, List.map_nil] <;> rfl) n1 ?_
  simp -implicitDefEqProofs only [↓ops_cons, ↓g_assign, ↓ops_nil, ↓w_seq, ↓w_region, Nat.reduceLT, ev_tab, upd_eq, ↓g_move]
  obtain ⟨v, Z1, v1, v2, v3⟩ := drawByte n3 hL
  refine call1S (by simp -implicitDefEqProofs only [List.map_cons, Nat.reduceLT, ev_tab, upd_eq, List.map_nil] <;> rfl) v2 ?_
  simp -implicitDefEqProofs only [↓ops_nil, ↓w_seq, ↓w_region, ↓ops_cons, ↓g_buildSlice, Try.underlying26, List.map_nil, bs3_0, ↓g_assign, Nat.reduceLT, ev_tab, upd_eq, ↓w_block, ev_const, of_int, alK_some, ints_one, true_and]
  have c0 := n3.dr v3
  have hr := c0.lt
  refine w_loop (ι := Nat) (fun i s => ∃ (T : Nat → AV) (Z : AHeap) (l : List Nat) (q : Nat), s = ⟨tab 21 T, Z⟩ ∧ i ≤ 12 ∧ l.length = i ∧ (∀ a ∈ l, a < 10000) ∧ Dr r x Z1 Z ∧ Z1.length ≤ q ∧ Z[q]? = some ⟨ints .i64 (l.map fun a : Nat => (a : Int)), true, true⟩ ∧ T 3 = .ptr r 0 ∧ T 4 = .sl q 0 i 1 ∧ T 5 = .sc (.int .i64 i)) (fun i => 12 - i) ?_ (i := 0) ?_
  · rintro i s ⟨T, Z, l, q, rfl, a0, a1, ab, a2, a3, a4, a5, a6, a7⟩
    by_cases h : i < 12
    · have k1 : (i : Int) < 12 := by omega
      have e1 : IntKind.i64.wrap ((i : Int) + 1) = i + 1 := w64 (by omega) (by omega)
      simp -implicitDefEqProofs only [↓w_seq, ↓w_region, ↓ops_cons, ↓g_move, ↓g_binOp, Nat.reduceLT, ev_tab, a7, upd_eq, ev_const, of_int, b_lss, k1, decide_true, ↓ops_nil, ↓w_cond, ↓w_skip, ↓w_block, ne_eq, Nat.reduceEqDiff, not_false_eq_true, upd_ne, a6, a5, ↓w_exit, ↓g_assign, ↓w_ret, retP_1, res_tmp, onS_some, if_true, onB_true]
      obtain ⟨m, Y, m1, m2, m3⟩ := drawBelow (c0.dr a2) hL 10000 (by omega) (by omega)
      refine call1S (by simp -implicitDefEqProofs only [List.map_cons, Nat.reduceLT, ev_tab, upd_eq, ev_const, of_int, List.map_nil, Int.cast_ofNat_Int] <;> rfl) m2 ?_
      have hY := m3.at (c0.dr a2) a4
      have hq : q < Y.length := at_lt hY
      have hY2 : ∀ g : Reg, (Y ++ [g])[q]? = some ⟨ints .i64 (l.map fun a : Nat => (a : Int)), true, true⟩ := fun g => (at_more _ _ _ hq).trans hY
      have hll : (l.map fun a : Nat => (a : Int)).length = i := by rw [List.length_map, a1]
      have k3 : i ≤ (l.map fun a : Nat => (a : Int)).length := by omega
      have k4 : (i + 1) * 8 ≤ 140737488355328 := by omega
      have k5 : i + 1 ≤ 140737488355328 := by omega
      have k6 : (l.map fun a : Nat => (a : Int)).take i = l.map fun a : Nat => (a : Int) := List.take_of_length_le (by omega)
      have hmm : (l ++ [m]).map (fun a : Nat => (a : Int)) = (l.map fun a : Nat => (a : Int)) ++ [(m : Int)] := by simp
      generalize hA : (l.map fun a : Nat => (a : Int)) = A at *
      simp -implicitDefEqProofs only [↓ops_cons, ↓g_buildSlice, Try.underlying26, List.map_cons, Nat.reduceLT, ev_tab, upd_eq, List.map_nil, bs3_1, ↓g_append, ne_eq, Nat.reduceEqDiff, not_false_eq_true, upd_ne, apS26, ↓g_assign, ↓ops_nil, ↓w_region, ↓g_move, ↓g_binOp, a7, ev_const, of_int, b_add, e1, onS_some, alK_some, ints_one, hY2, src_sl, at_end, at_ints, Nat.zero_add, List.length_cons, List.length_nil, Nat.le_refl, List.drop_zero, List.take_succ_cons, List.take_zero, if_true, ap_ints, k3, k4, k5, and_self, List.length_append, k6, true_and]
      refine ⟨i + 1, by omega, _, _, l ++ [m], Y.length + 1, rfl, by omega, by simp [a1], ?_, ((((a2.trans m3).more hr _).kill a3 hr).more hr _), ?_, ?_, ?_, ?_, ?_⟩
      · intro b hb
        rcases List.mem_append.1 hb with hb | hb
        · exact ab b hb
        · simp at hb
          omega
      · have := (a2.trans m3).1
        omega
      · have := at_end (killReg (Y ++ [⟨ints .i64 [(m : Int)], true, true⟩]) q) ⟨ints .i64 (A ++ [(m : Int)]), true, true⟩
        rw [hmm]
        rwa [kill_len, List.length_append, List.length_singleton] at this
      · simp -implicitDefEqProofs only [ne_eq, Nat.reduceEqDiff, not_false_eq_true, upd_ne, a5]
      · simp -implicitDefEqProofs only [ne_eq, Nat.reduceEqDiff, not_false_eq_true, upd_ne, upd_eq]
      · simp -implicitDefEqProofs only [upd_eq] <;> rfl
    · have k1 : ¬ (i : Int) < 12 := by omega
      have hi : i = 12 := by omega
      subst hi
      simp -implicitDefEqProofs only [↓w_seq, ↓w_region, Nat.reduceSub, ↓ops_cons, ↓g_move, ↓g_binOp, Nat.reduceLT, ev_tab, a7, Int.cast_ofNat_Int, upd_eq, ev_const, of_int, b_lss, Int.reduceLT, decide_false, ↓ops_nil, ↓w_cond, ↓w_skip, ↓w_block, ne_eq, Nat.reduceEqDiff, not_false_eq_true, upd_ne, a6, a5, ↓w_exit, ↓g_assign, ↓w_ret, retP_1, res_tmp, onS_some, if_true, onB_false]
      have e0 : Ext H Z1 := Dr.ext n4 v3 n2
      exact ⟨l, q, a1, ab, Nat.le_trans e0.1 a3, a4, rfl, Dr.ext e0 a2 n2⟩
  · refine ⟨_, _, [], Z1.length, rfl, by omega, rfl, by simp, Dr.start c0 _, Nat.le_refl _, at_end _ _, ?_, ?_, ?_⟩ <;> simp -implicitDefEqProofs only [ne_eq, Nat.reduceEqDiff, not_false_eq_true, upd_ne, upd_eq, Int.cast_ofNat_Int] <;> rfl
theorem drawSome {H : AHeap} {r : Nat} {x : AV} {L : List Int} (c : Cur H r x L) (hL : L.length ≤ 4000000) : ∃ (z : ByteArray) (Z : AHeap), z.size ≤ 200 ∧ Sound Try.prog 57 [.ptr r 0] H (.sc (.string z)) Z ∧ Dr r x H Z := by
  suffices h : ∃ v Z, Sound Try.prog 57 [.ptr r 0] H v Z ∧ ∃ z : ByteArray, z.size ≤ 200 ∧ v = .sc (.string z) ∧ Dr r x H Z by
    obtain ⟨v, Z, h1, n, h2, rfl, h3⟩ := h
    exact ⟨n, Z, h2, h1, h3⟩
  refine Sound.runP (args := [.ptr r 0]) 10 [.tmp 2] Try.func57 rfl rfl rfl rfl (by simp) (fun v Z => ∃ z : ByteArray, z.size ≤ 200 ∧ v = .sc (.string z) ∧ Dr r x H Z) ?_
  simp -implicitDefEqProofs only [↓w_seq, ↓w_region, ↓ops_cons, ↓g_assign, ↓ops_nil, ev_const, of_str, ↓g_move, ↓g_buildSlice, Try.underlying26, Nat.reduceLT, ev_tab, ne_eq, reduceCtorEq, not_false_eq_true, upd_ne, par0, List.map_cons, of_int, List.map_nil, bs3_13, alK_some, ints_one, true_and]
  obtain ⟨j, Z1, j1, j2, j3⟩ := drawPickInt (c.app _) hL (.at (at_end _ ⟨ints .i64 [0, 1, 3, 9, 54, 55, 56, 63, 64, 65, 119, 120, 200], true, true⟩) rfl) (by decide) (by decide)
  refine call1S (by simp -implicitDefEqProofs only [List.map_cons, Nat.reduceLT, ev_tab, ne_eq, Nat.reduceEqDiff, not_false_eq_true, upd_ne, upd_eq, List.map_nil, List.length_cons, List.length_nil, Nat.zero_add, Nat.reduceAdd] <;> rfl) j2 ?_
  have hj : ∀ j < 13, ∃ n : Nat, n ≤ 200 ∧ ([0, 1, 3, 9, 54, 55, 56, 63, 64, 65, 119, 120, 200] : List Int).getD j 0 = n := by
    decide
  obtain ⟨n, n1, n2⟩ := hj j j1
  rw [n2]
  simp -implicitDefEqProofs only [↓ops_cons, ↓g_assign, ↓ops_nil, ↓w_seq, ↓w_region, Nat.reduceLT, ev_tab, upd_eq, ↓g_move, ne_eq, reduceCtorEq, not_false_eq_true, upd_ne, par0, Nat.reduceEqDiff]
  obtain ⟨z, Z2, z1, z2, z3⟩ := drawText ((c.app _).dr j3) hL n (by omega)
  refine call1S (by simp -implicitDefEqProofs only [List.map_cons, Nat.reduceLT, ev_tab, ne_eq, Nat.reduceEqDiff, not_false_eq_true, upd_ne, upd_eq, List.map_nil] <;> rfl) z2 ?_
  simp -implicitDefEqProofs only [↓ops_cons, ↓g_assign, ↓ops_nil, ↓w_ret, Nat.reduceLT, ev_tab, upd_eq, retP_1, res_tmp, onS_some]
  exact ⟨z, by omega, rfl, (j3.app).trans z3⟩
theorem drawTextOf {H : AHeap} {x : AV} {L : List Int} (hx : IsL H x .u8 L) (hL : L.length ≤ 4000000) : ∃ (z : ByteArray) (Z : AHeap), z.size ≤ 200 ∧ Sound Try.prog 9 [x] H (.sc (.string z)) Z ∧ Ext H Z := by
  suffices h : ∃ v Z, Sound Try.prog 9 [x] H v Z ∧ ∃ z : ByteArray, z.size ≤ 200 ∧ v = .sc (.string z) ∧ Ext H Z by
    obtain ⟨v, Z, h1, n, h2, rfl, h3⟩ := h
    exact ⟨n, Z, h2, h1, h3⟩
  refine Sound.runP (args := [x]) 6 [.tmp 2] Try.func9 rfl rfl rfl rfl (by simp) (fun v Z => ∃ z : ByteArray, z.size ≤ 200 ∧ v = .sc (.string z) ∧ Ext H Z) ?_
  obtain ⟨r, Z0, n1, n2, n3, n4⟩ := drawNew hx hL
  obtain ⟨z, Z1, z1, z2, z3⟩ := drawSome n3 hL
  simp -implicitDefEqProofs only [↓w_seq, ↓w_region, ↓ops_cons, ↓g_assign, ↓ops_nil, ev_const, of_str, ↓g_move, Nat.reduceLT, ev_tab, ne_eq, reduceCtorEq, not_false_eq_true, upd_ne, par0]
  refine call1S (by simp -implicitDefEqProofs only [List.map_cons, Nat.reduceLT, ev_tab, upd_eq, List.map_nil] <;> rfl) n1 ?_
  simp -implicitDefEqProofs only [↓ops_cons]
  refine call1S (by simp -implicitDefEqProofs only [List.map_cons, Nat.reduceLT, ev_tab, upd_eq, List.map_nil] <;> rfl) z2 ?_
  simp -implicitDefEqProofs only [↓ops_cons, ↓g_assign, ↓ops_nil, ↓w_ret, Nat.reduceLT, ev_tab, upd_eq, retP_1, res_tmp, onS_some]
  exact ⟨z, z1, rfl, Dr.ext n4 z3 n2⟩
end Go.Proofs.Ytknmbiebnpojjaa.Sim
namespace Go.Proofs.Ytknmbiebnpojjaa.Sim
open Go
set_option maxRecDepth 100000
set_option maxHeartbeats 4000000
set_option linter.unusedSimpArgs false
set_option linter.unusedVariables false
theorem draw22Text {H : AHeap} {r : Nat} {x : AV} {L : List Int} (c : Cur H r x L) (hL : L.length ≤ 4000000) : ∃ (z : ByteArray) (Z : AHeap), z.size ≤ 97 ∧ Sound Try.prog 78 [.ptr r 0] H (.sc (.string z)) Z ∧ Dr r x H Z := by
  suffices h : ∃ v Z, Sound Try.prog 78 [.ptr r 0] H v Z ∧ ∃ z : ByteArray, z.size ≤ 97 ∧ v = .sc (.string z) ∧ Dr r x H Z by
    obtain ⟨v, Z, h1, n, h2, rfl, h3⟩ := h
    exact ⟨n, Z, h2, h1, h3⟩
  refine Sound.runP (args := [.ptr r 0]) 10 [.tmp 2] Try.func78 rfl rfl rfl rfl (by simp) (fun v Z => ∃ z : ByteArray, z.size ≤ 97 ∧ v = .sc (.string z) ∧ Dr r x H Z) ?_
  simp -implicitDefEqProofs only [↓w_seq, ↓w_region, ↓ops_cons, ↓g_assign, ↓ops_nil, ev_const, of_str, ↓g_move, ↓g_buildSlice, Try.underlying125, Nat.reduceLT, ev_tab, ne_eq, reduceCtorEq, not_false_eq_true, upd_ne, par0, List.map_cons, List.map_nil, bs9_4, alK_some, strs_one, true_and]
  obtain ⟨j, Z1, j1, j2, j3⟩ := drawPick (l := [(⟨#[]⟩ : ByteArray), (⟨#[97]⟩ : ByteArray), (⟨#[72, 105, 32, 84, 104, 101, 114, 101]⟩ : ByteArray), (⟨#[119, 104, 97, 116, 32, 100, 111, 32, 121, 97, 32, 119, 97, 110, 116, 32, 102, 111, 114, 32, 110, 111, 116, 104, 105, 110, 103, 63]⟩ : ByteArray)]) (c.app _) hL (at_end _ ⟨strs [(⟨#[]⟩ : ByteArray), (⟨#[97]⟩ : ByteArray), (⟨#[72, 105, 32, 84, 104, 101, 114, 101]⟩ : ByteArray), (⟨#[119, 104, 97, 116, 32, 100, 111, 32, 121, 97, 32, 119, 97, 110, 116, 32, 102, 111, 114, 32, 110, 111, 116, 104, 105, 110, 103, 63]⟩ : ByteArray)], true, true⟩) (by decide) (by decide)
  refine call1S (by simp -implicitDefEqProofs only [List.map_cons, Nat.reduceLT, ev_tab, ne_eq, Nat.reduceEqDiff, not_false_eq_true, upd_ne, upd_eq, List.map_nil, List.length_cons, List.length_nil, Nat.zero_add, Nat.reduceAdd] <;> rfl) j2 ?_
  have hj : ∀ j < 4, (([(⟨#[]⟩ : ByteArray), (⟨#[97]⟩ : ByteArray), (⟨#[72, 105, 32, 84, 104, 101, 114, 101]⟩ : ByteArray), (⟨#[119, 104, 97, 116, 32, 100, 111, 32, 121, 97, 32, 119, 97, 110, 116, 32, 102, 111, 114, 32, 110, 111, 116, 104, 105, 110, 103, 63]⟩ : ByteArray)] : List ByteArray).getD j ByteArray.empty).size ≤ 28 := by
    decide
  have hz := hj j j1
  generalize ([(⟨#[]⟩ : ByteArray), (⟨#[97]⟩ : ByteArray), (⟨#[72, 105, 32, 84, 104, 101, 114, 101]⟩ : ByteArray), (⟨#[119, 104, 97, 116, 32, 100, 111, 32, 121, 97, 32, 119, 97, 110, 116, 32, 102, 111, 114, 32, 110, 111, 116, 104, 105, 110, 103, 63]⟩ : ByteArray)] : List ByteArray).getD j ByteArray.empty = z at *
  simp -implicitDefEqProofs only [↓ops_cons, ↓g_move, Nat.reduceLT, ev_tab, ne_eq, reduceCtorEq, not_false_eq_true, upd_ne, par0]
  obtain ⟨n, Z2, n1, n2, n3⟩ := drawBelow ((c.app _).dr j3) hL 70 (by omega) (by omega)
  refine call1S (by simp -implicitDefEqProofs only [List.map_cons, Nat.reduceLT, ev_tab, upd_eq, ev_const, of_int, List.map_nil, Int.cast_ofNat_Int] <;> rfl) n2 ?_
  simp -implicitDefEqProofs only [↓ops_cons]
  refine call1 (by simp -implicitDefEqProofs only [List.map_cons, Nat.reduceLT, ev_tab, upd_eq, ev_const, of_int, List.map_nil] <;> rfl) (longD n 7 (by omega)) ?_
  have hr : (repD n 7).length = n := List.length_replicate ..
  simp -implicitDefEqProofs only [↓ops_cons, ↓g_binOp, Nat.reduceLT, ev_tab, ne_eq, Nat.reduceEqDiff, not_false_eq_true, upd_ne, upd_eq, t_add, son_size, hr, ↓g_assign, ↓ops_nil, ↓w_ret, retP_1, res_tmp, onS_some, onS_ite]
  refine ⟨by omega, _, ?_, rfl, (j3.app).trans n3⟩
  rw [ByteArray.size_append, son_size, hr]
  omega
end Go.Proofs.Ytknmbiebnpojjaa.Sim
namespace Go.Proofs.Ytknmbiebnpojjaa.Sim
open Go
set_option maxRecDepth 100000
set_option maxHeartbeats 4000000
set_option linter.unusedSimpArgs false
set_option linter.unusedVariables false
theorem draw22Key {H : AHeap} {r : Nat} {x : AV} {L : List Int} (c : Cur H r x L) (hL : L.length ≤ 4000000) : ∃ (z : ByteArray) (Z : AHeap), z.size ≤ 100 ∧ Sound Try.prog 77 [.ptr r 0] H (.sc (.string z)) Z ∧ Dr r x H Z := by
  suffices h : ∃ v Z, Sound Try.prog 77 [.ptr r 0] H v Z ∧ ∃ z : ByteArray, z.size ≤ 100 ∧ v = .sc (.string z) ∧ Dr r x H Z by
    obtain ⟨v, Z, h1, n, h2, rfl, h3⟩ := h
    exact ⟨n, Z, h2, h1, h3⟩
  refine Sound.runP (args := [.ptr r 0]) 12 [.tmp 2] Try.func77 rfl rfl rfl rfl (by simp) (fun v Z => ∃ z : ByteArray, z.size ≤ 100 ∧ v = .sc (.string z) ∧ Dr r x H Z) ?_
  simp -implicitDefEqProofs only [↓w_seq, ↓w_region, ↓ops_cons, ↓g_assign, ↓ops_nil, ev_const, of_str, ↓g_move, ↓g_buildSlice, Try.underlying26, Nat.reduceLT, ev_tab, ne_eq, reduceCtorEq, not_false_eq_true, upd_ne, par0, List.map_cons, of_int, List.map_nil, bs3_8, alK_some, ints_one, true_and]
  obtain ⟨j, Z1, j1, j2, j3⟩ := drawPickInt (c.app _) hL (.at (at_end _ ⟨ints .i64 [0, 1, 20, 32, 63, 64, 65, 100], true, true⟩) rfl) (by decide) (by decide)
  refine call1S (by simp -implicitDefEqProofs only [List.map_cons, Nat.reduceLT, ev_tab, ne_eq, Nat.reduceEqDiff, not_false_eq_true, upd_ne, upd_eq, List.map_nil, List.length_cons, List.length_nil, Nat.zero_add, Nat.reduceAdd] <;> rfl) j2 ?_
  have hj : ∀ j < 8, ∃ n : Nat, n ≤ 100 ∧ ([0, 1, 20, 32, 63, 64, 65, 100] : List Int).getD j 0 = n := by
    decide
  obtain ⟨n, n1, n2⟩ := hj j j1
  rw [n2]
  simp -implicitDefEqProofs only [↓ops_cons, ↓g_assign, ↓ops_nil, ↓w_seq, ↓w_region, Nat.reduceLT, ev_tab, upd_eq, ↓g_move, ne_eq, reduceCtorEq, not_false_eq_true, upd_ne, par0]
  obtain ⟨f, Z2, f1, f2, f3⟩ := drawByte ((c.app _).dr j3) hL
  refine call1S (by simp -implicitDefEqProofs only [List.map_cons, Nat.reduceLT, ev_tab, upd_eq, List.map_nil] <;> rfl) f2 ?_
  simp -implicitDefEqProofs only [↓ops_cons, ↓g_convert, Try.underlying3, Try.underlying5, Nat.reduceLT, ev_tab, upd_eq, c_int]
  refine call1 (by simp -implicitDefEqProofs only [List.map_cons, Nat.reduceLT, ev_tab, ne_eq, Nat.reduceEqDiff, not_false_eq_true, upd_ne, upd_eq, List.map_nil] <;> rfl) (longD n _ (by omega)) ?_
  have hr : ∀ b, (repD n b).length = n := fun b => List.length_replicate ..
  simp -implicitDefEqProofs only [↓ops_cons, ↓g_assign, ↓ops_nil, ↓w_ret, Nat.reduceLT, ev_tab, upd_eq, retP_1, res_tmp, onS_some]
  exact ⟨_, by rw [son_size, hr]; omega, rfl, (j3.app).trans f3⟩
theorem drawHmac {H : AHeap} {x : AV} {L : List Int} (hx : IsL H x .u8 L) (hL : L.length ≤ 4000000) : ∃ (a b : ByteArray) (Z : AHeap), a.size ≤ 100 ∧ b.size ≤ 97 ∧ Sound Try.prog 84 [x] H (.tup [.sc (.string a), .sc (.string b)]) Z ∧ Ext H Z := by
  suffices h : ∃ v Z, Sound Try.prog 84 [x] H v Z ∧ ∃ (a b : ByteArray), a.size ≤ 100 ∧ b.size ≤ 97 ∧ v = .tup [.sc (.string a), .sc (.string b)] ∧ Ext H Z by
    obtain ⟨v, Z, h1, a, b, h2, h3, rfl, h4⟩ := h
    exact ⟨a, b, Z, h2, h3, h1, h4⟩
  refine Sound.runP (args := [x]) 13 [.tmp 2, .tmp 3] Try.func84 rfl rfl rfl rfl (by simp) (fun v Z => ∃ (a b : ByteArray), a.size ≤ 100 ∧ b.size ≤ 97 ∧ v = .tup [.sc (.string a), .sc (.string b)] ∧ Ext H Z) ?_
  simp -implicitDefEqProofs only [↓w_seq, ↓w_region, ↓ops_cons, ↓g_assign, ↓ops_nil, ev_const, of_str, ↓g_move, Nat.reduceLT, ev_tab, ne_eq, reduceCtorEq, not_false_eq_true, upd_ne, par0]
  obtain ⟨r, Z0, n1, n2, n3, n4⟩ := drawNew hx hL
  refine call1S (by simp -implicitDefEqProofs only [List.map_cons, Nat.reduceLT, ev_tab, upd_eq, List.map_nil] <;> rfl) n1 ?_
  simp -implicitDefEqProofs only [↓ops_cons, ↓g_assign, ↓ops_nil, ↓w_seq, ↓w_region, Nat.reduceLT, ev_tab, upd_eq, ↓g_move]
  obtain ⟨a, Z1, a1, a2, a3⟩ := draw22Key n3 hL
  refine call1S (by simp -implicitDefEqProofs only [List.map_cons, Nat.reduceLT, ev_tab, upd_eq, List.map_nil] <;> rfl) a2 ?_
  simp -implicitDefEqProofs only [↓ops_cons, ↓g_assign, ↓ops_nil, ↓w_seq, ↓w_region, Nat.reduceLT, ev_tab, upd_eq, ↓g_move, ne_eq, Nat.reduceEqDiff, not_false_eq_true, upd_ne]
  obtain ⟨b, Z2, b1, b2, b3⟩ := draw22Text (n3.dr a3) hL
  refine call1S (by simp -implicitDefEqProofs only [List.map_cons, Nat.reduceLT, ev_tab, upd_eq, List.map_nil] <;> rfl) b2 ?_
  simp -implicitDefEqProofs only [↓ops_cons, ↓g_assign, ↓ops_nil, ↓w_ret, Nat.reduceLT, ev_tab, ne_eq, Nat.reduceEqDiff, not_false_eq_true, upd_ne, upd_eq, retP_2, res_tmp, onS_some]
  exact ⟨a, b, a1, b1, rfl, Dr.ext n4 (a3.trans b3) n2⟩
theorem drawSpoilt {H : AHeap} {r : Nat} {x : AV} {L : List Int} (c : Cur H r x L) (hL : L.length ≤ 4000000) (z : ByteArray) (hz : z.size ≤ 100000) : ∃ (u : ByteArray) (Z : AHeap), u.size ≤ z.size + 1 ∧ Sound Try.prog 95 [.ptr r 0, .sc (.string z)] H (.sc (.string u)) Z ∧ Dr r x H Z := by
  suffices h : ∃ v Z, Sound Try.prog 95 [.ptr r 0, .sc (.string z)] H v Z ∧ ∃ u : ByteArray, u.size ≤ z.size + 1 ∧ v = .sc (.string u) ∧ Dr r x H Z by
    obtain ⟨v, Z, h1, n, h2, rfl, h3⟩ := h
    exact ⟨n, Z, h2, h1, h3⟩
  refine Sound.runP (args := [.ptr r 0, .sc (.string z)]) 45 [.tmp 4] Try.func95 rfl rfl rfl rfl (by simp) (fun v Z => ∃ u : ByteArray, u.size ≤ z.size + 1 ∧ v = .sc (.string u) ∧ Dr r x H Z) ?_
  obtain ⟨j, Z1, j1, j2, j3⟩ := drawBelow c hL 12 (by omega) (by omega)
  have c1 := c.dr j3
  by_cases h0 : (j : Int) = 0
  · obtain ⟨t, Z2, t1, t2, t3⟩ := drawText c1 hL 1 (by omega)
    have hb : z.size + t.size ≤ 9223372036854775807 := by omega
    simp -implicitDefEqProofs only [↓w_seq, ↓w_region, ↓ops_cons, ↓g_assign, ↓ops_nil, ev_const, of_str, ↓g_move, Nat.reduceLT, ev_tab, ne_eq, reduceCtorEq, not_false_eq_true, upd_ne, par0]
    refine call1S (by simp -implicitDefEqProofs only [List.map_cons, Nat.reduceLT, ev_tab, upd_eq, ev_const, of_int, List.map_nil, Int.cast_ofNat_Int] <;> rfl) j2 ?_
    simp -implicitDefEqProofs only [↓ops_nil, ↓w_block, ↓w_seq, ↓w_region, h0, ↓ops_cons, ↓g_binOp, Nat.reduceLT, ev_tab, upd_eq, ev_const, of_int, b_eql, decide_true, ↓g_assign, ↓w_cond, ↓g_move, ne_eq, Nat.reduceEqDiff, not_false_eq_true, upd_ne, par1, reduceCtorEq, par0, Int.reduceEq, decide_false, ↓g_len, Try.underlying9, len_str, onS_some, b_add, ↓w_skip, ↓w_ret, retP_1, res_tmp, b_gtr, onB_dec, onB_false, onB_true]
    refine call1S (by simp -implicitDefEqProofs only [List.map_cons, Nat.reduceLT, ev_tab, upd_eq, ev_const, of_int, List.map_nil, Int.cast_ofNat_Int] <;> rfl) t2 ?_
    simp -implicitDefEqProofs only [↓ops_cons, ↓g_binOp, Nat.reduceLT, ev_tab, ne_eq, Nat.reduceEqDiff, not_false_eq_true, upd_ne, upd_eq, t_add, hb, if_true, ↓g_assign, ↓ops_nil, ↓w_ret, retP_1, res_tmp, onS_some]
    exact ⟨_, by rw [ByteArray.size_append]; omega, rfl, j3.trans t3⟩
  · by_cases h1 : (j : Int) = 1
    · obtain ⟨k, Z2, k1, k2, k3⟩ := drawBelow c1 hL (z.size + 1) (by omega) (by omega)
      have e1 : IntKind.i64.wrap ((z.size : Int) + 1) = ((z.size + 1 : Nat) : Int) := by rw [w64 (by omega) (by omega)]; omega
      have q1 : (0 : Int) ≤ (k : Int) := by omega
      have q2 : k ≤ z.size := by omega
      simp -implicitDefEqProofs only [↓w_seq, ↓w_region, ↓ops_cons, ↓g_assign, ↓ops_nil, ev_const, of_str, ↓g_move, Nat.reduceLT, ev_tab, ne_eq, reduceCtorEq, not_false_eq_true, upd_ne, par0]
      refine call1S (by simp -implicitDefEqProofs only [List.map_cons, Nat.reduceLT, ev_tab, upd_eq, ev_const, of_int, List.map_nil, Int.cast_ofNat_Int] <;> rfl) j2 ?_
      simp -implicitDefEqProofs only [↓ops_nil, ↓w_block, ↓w_seq, ↓w_region, h1, ↓ops_cons, ↓g_binOp, Nat.reduceLT, ev_tab, upd_eq, ev_const, of_int, b_eql, Int.reduceEq, decide_false, ↓g_assign, ↓w_cond, ↓g_move, ne_eq, Nat.reduceEqDiff, not_false_eq_true, upd_ne, par1, reduceCtorEq, par0, decide_true, ↓g_len, Try.underlying9, len_str, onS_some, b_add, e1, ↓w_skip, ↓w_ret, retP_1, res_tmp, b_gtr, onB_dec, onB_false, onB_true]
      refine call1S (by simp -implicitDefEqProofs only [List.map_cons, Nat.reduceLT, ev_tab, ne_eq, Nat.reduceEqDiff, not_false_eq_true, upd_ne, upd_eq, List.map_nil] <;> rfl) k2 ?_
      simp -implicitDefEqProofs only [↓ops_cons, ↓g_slice, Try.underlying9, Nat.reduceLT, ev_tab, ne_eq, Nat.reduceEqDiff, not_false_eq_true, upd_ne, upd_eq, Option.map_none, Option.map_some, cut_str, bnd_none, bnd_int, q1, Int.toNat_natCast, if_true, cutS_some, Nat.zero_le, q2, and_self, ↓g_assign, ↓ops_nil, ↓w_ret, retP_1, res_tmp, onS_some]
      exact ⟨_, by rw [ByteArray.size_extract]; omega, rfl, j3.trans k3⟩
    · by_cases h23 : (j : Int) = 2 ∨ (j : Int) = 3
      · by_cases hs : 0 < z.size
        · obtain ⟨k, Z2, k1, k2, k3⟩ := drawBelow c1 hL z.size hs (by omega)
          obtain ⟨t, Z3, t1, t2, t3⟩ := drawText (c1.dr k3) hL 1 (by omega)
          have hs2 : (0 : Int) < z.size := by omega
          have e1 : IntKind.i64.wrap ((k : Int) + 1) = ((k + 1 : Nat) : Int) := by rw [w64 (by omega) (by omega)]; omega
          have q1 : (0 : Int) ≤ (k : Int) := by omega
          have q2 : k ≤ z.size := by omega
          have q3 : (0 : Int) ≤ ((k + 1 : Nat) : Int) := by omega
          have q4 : k + 1 ≤ z.size := by omega
          have q5 : (z.extract 0 k).size = k := by rw [ByteArray.size_extract]; omega
          have q6 : (z.extract (k + 1) z.size).size = z.size - (k + 1) := by rw [ByteArray.size_extract]; omega
          have q7 : k + 1 ≤ 9223372036854775807 := by omega
          have q8 : (z.extract 0 k ++ t).size = k + 1 := by rw [ByteArray.size_append, q5, t1]
          have q9 : k + 1 + (z.size - (k + 1)) ≤ 9223372036854775807 := by omega
          have res : ∃ u : ByteArray, u.size ≤ z.size + 1 ∧ AV.sc (.string ((z.extract 0 k ++ t) ++ z.extract (k + 1) z.size)) = AV.sc (.string u) ∧ Dr r x H Z3 := ⟨_, by rw [ByteArray.size_append, q8, q6]; omega, rfl, (j3.trans k3).trans t3⟩
          rcases h23 with h2 | h3
          · simp -implicitDefEqProofs only [↓w_seq, ↓w_region, ↓ops_cons, ↓g_assign, ↓ops_nil, ev_const, of_str, ↓g_move, Nat.reduceLT, ev_tab, ne_eq, reduceCtorEq, not_false_eq_true, upd_ne, par0]
            refine call1S (by simp -implicitDefEqProofs only [List.map_cons, Nat.reduceLT, ev_tab, upd_eq, ev_const, of_int, List.map_nil, Int.cast_ofNat_Int] <;> rfl) j2 ?_
            simp -implicitDefEqProofs only [↓ops_nil, ↓w_block, ↓w_seq, ↓w_region, h2, ↓ops_cons, ↓g_binOp, Nat.reduceLT, ev_tab, upd_eq, ev_const, of_int, b_eql, Int.reduceEq, decide_false, ↓g_assign, ↓w_cond, ↓g_move, ne_eq, Nat.reduceEqDiff, not_false_eq_true, upd_ne, par1, reduceCtorEq, par0, ↓g_len, Try.underlying9, len_str, onS_some, b_add, decide_true, ↓w_skip, ↓w_ret, retP_1, res_tmp, b_gtr, hs2, onB_true, onB_false]
            refine call1S (by simp -implicitDefEqProofs only [List.map_cons, Nat.reduceLT, ev_tab, ne_eq, Nat.reduceEqDiff, not_false_eq_true, upd_ne, upd_eq, List.map_nil] <;> rfl) k2 ?_
            simp -implicitDefEqProofs only [↓ops_cons, ↓g_assign, ↓ops_nil, ↓w_seq, Nat.reduceLT, ev_tab, upd_eq]
            refine drawn [] follows (by kernel_rfl) (by kernel_rfl) ?_
            simp -implicitDefEqProofs only [↓dops_cons, ↓g_move, ↓g_slice, Try.underlying9, Nat.reduceLT, ev_tab, ne_eq, Nat.reduceEqDiff, not_false_eq_true, upd_ne, par1, upd_eq, Option.map_none, Option.map_some, cut_str, bnd_none, bnd_int, q1, Int.toNat_natCast, if_true, cutS_some, Nat.zero_le, q2, and_self, reduceCtorEq, par0, onS_some]
            refine call1S (by simp -implicitDefEqProofs only [List.map_cons, Nat.reduceLT, ev_tab, upd_eq, ev_const, of_int, List.map_nil, Int.cast_ofNat_Int] <;> rfl) t2 ?_
            simp -implicitDefEqProofs only [↓dops_cons, ↓g_binOp, Nat.reduceLT, ev_tab, ne_eq, Nat.reduceEqDiff, not_false_eq_true, upd_ne, upd_eq, t_add, q5, t1, q7, if_true, ↓g_move, par1, ev_const, of_int, b_add, e1, ↓g_slice, Try.underlying9, Option.map_some, Option.map_none, cut_str, bnd_none, ↓g_assign, ↓dops_0, ↓w_ret, retP_1, res_tmp, onS_some, bnd_int, q3, Int.toNat_natCast, cutS_some, q4, Nat.le_refl, and_self, q8, q6, q9]
            exact res
          · have h2 : ¬ (j : Int) = 2 := by omega
            simp -implicitDefEqProofs only [↓w_seq, ↓w_region, ↓ops_cons, ↓g_assign, ↓ops_nil, ev_const, of_str, ↓g_move, Nat.reduceLT, ev_tab, ne_eq, reduceCtorEq, not_false_eq_true, upd_ne, par0]
            refine call1S (by simp -implicitDefEqProofs only [List.map_cons, Nat.reduceLT, ev_tab, upd_eq, ev_const, of_int, List.map_nil, Int.cast_ofNat_Int] <;> rfl) j2 ?_
            simp -implicitDefEqProofs only [↓ops_nil, ↓w_block, ↓w_seq, ↓w_region, h3, ↓ops_cons, ↓g_binOp, Nat.reduceLT, ev_tab, upd_eq, ev_const, of_int, b_eql, Int.reduceEq, decide_false, ↓g_assign, ↓w_cond, ↓g_move, ne_eq, Nat.reduceEqDiff, not_false_eq_true, upd_ne, par1, reduceCtorEq, par0, ↓g_len, Try.underlying9, len_str, onS_some, b_add, ↓w_skip, ↓w_ret, retP_1, res_tmp, b_gtr, hs2, decide_true, onB_true, onB_false]
            refine call1S (by simp -implicitDefEqProofs only [List.map_cons, Nat.reduceLT, ev_tab, ne_eq, Nat.reduceEqDiff, not_false_eq_true, upd_ne, upd_eq, List.map_nil] <;> rfl) k2 ?_
            simp -implicitDefEqProofs only [↓ops_cons, ↓g_assign, ↓ops_nil, ↓w_seq, Nat.reduceLT, ev_tab, upd_eq]
            refine drawn [] follows (by kernel_rfl) (by kernel_rfl) ?_
            simp -implicitDefEqProofs only [↓dops_cons, ↓g_move, ↓g_slice, Try.underlying9, Nat.reduceLT, ev_tab, ne_eq, Nat.reduceEqDiff, not_false_eq_true, upd_ne, par1, upd_eq, Option.map_none, Option.map_some, cut_str, bnd_none, bnd_int, q1, Int.toNat_natCast, if_true, cutS_some, Nat.zero_le, q2, and_self, reduceCtorEq, par0, onS_some]
            refine call1S (by simp -implicitDefEqProofs only [List.map_cons, Nat.reduceLT, ev_tab, upd_eq, ev_const, of_int, List.map_nil, Int.cast_ofNat_Int] <;> rfl) t2 ?_
            simp -implicitDefEqProofs only [↓dops_cons, ↓g_binOp, Nat.reduceLT, ev_tab, ne_eq, Nat.reduceEqDiff, not_false_eq_true, upd_ne, upd_eq, t_add, q5, t1, q7, if_true, ↓g_move, par1, ev_const, of_int, b_add, e1, ↓g_slice, Try.underlying9, Option.map_some, Option.map_none, cut_str, bnd_none, ↓g_assign, ↓dops_0, ↓w_ret, retP_1, res_tmp, onS_some, bnd_int, q3, Int.toNat_natCast, cutS_some, q4, Nat.le_refl, and_self, q8, q6, q9]
            exact res
        · have hs2 : ¬ (0 : Int) < z.size := by omega
          rcases h23 with h2 | h3
          · simp -implicitDefEqProofs only [↓w_seq, ↓w_region, ↓ops_cons, ↓g_assign, ↓ops_nil, ev_const, of_str, ↓g_move, Nat.reduceLT, ev_tab, ne_eq, reduceCtorEq, not_false_eq_true, upd_ne, par0]
            refine call1S (by simp -implicitDefEqProofs only [List.map_cons, Nat.reduceLT, ev_tab, upd_eq, ev_const, of_int, List.map_nil, Int.cast_ofNat_Int] <;> rfl) j2 ?_
            simp -implicitDefEqProofs only [↓ops_nil, ↓w_block, ↓w_seq, ↓w_region, h2, ↓ops_cons, ↓g_binOp, Nat.reduceLT, ev_tab, upd_eq, ev_const, of_int, b_eql, Int.reduceEq, decide_false, ↓g_assign, ↓w_cond, ↓g_move, ne_eq, Nat.reduceEqDiff, not_false_eq_true, upd_ne, par1, reduceCtorEq, par0, ↓g_len, Try.underlying9, len_str, onS_some, b_add, decide_true, ↓w_skip, ↓w_ret, retP_1, res_tmp, b_gtr, hs2, onB_false, onB_true]
            exact ⟨z, by omega, rfl, j3⟩
          · have h2 : ¬ (j : Int) = 2 := by omega
            simp -implicitDefEqProofs only [↓w_seq, ↓w_region, ↓ops_cons, ↓g_assign, ↓ops_nil, ev_const, of_str, ↓g_move, Nat.reduceLT, ev_tab, ne_eq, reduceCtorEq, not_false_eq_true, upd_ne, par0]
            refine call1S (by simp -implicitDefEqProofs only [List.map_cons, Nat.reduceLT, ev_tab, upd_eq, ev_const, of_int, List.map_nil, Int.cast_ofNat_Int] <;> rfl) j2 ?_
            simp -implicitDefEqProofs only [↓ops_nil, ↓w_block, ↓w_seq, ↓w_region, h3, ↓ops_cons, ↓g_binOp, Nat.reduceLT, ev_tab, upd_eq, ev_const, of_int, b_eql, Int.reduceEq, decide_false, ↓g_assign, ↓w_cond, ↓g_move, ne_eq, Nat.reduceEqDiff, not_false_eq_true, upd_ne, par1, reduceCtorEq, par0, ↓g_len, Try.underlying9, len_str, onS_some, b_add, ↓w_skip, ↓w_ret, retP_1, res_tmp, b_gtr, hs2, onB_false, decide_true, onB_true]
            exact ⟨z, by omega, rfl, j3⟩
      · have h2 : ¬ (j : Int) = 2 := fun h => h23 (.inl h)
        have h3 : ¬ (j : Int) = 3 := fun h => h23 (.inr h)
        simp -implicitDefEqProofs only [↓w_seq, ↓w_region, ↓ops_cons, ↓g_assign, ↓ops_nil, ev_const, of_str, ↓g_move, Nat.reduceLT, ev_tab, ne_eq, reduceCtorEq, not_false_eq_true, upd_ne, par0]
        refine call1S (by simp -implicitDefEqProofs only [List.map_cons, Nat.reduceLT, ev_tab, upd_eq, ev_const, of_int, List.map_nil, Int.cast_ofNat_Int] <;> rfl) j2 ?_
        simp -implicitDefEqProofs only [↓ops_nil, ↓w_block, ↓w_seq, ↓w_region, ↓ops_cons, ↓g_binOp, Nat.reduceLT, ev_tab, upd_eq, ev_const, of_int, b_eql, h0, decide_false, ↓g_assign, ↓w_cond, ↓g_move, ne_eq, Nat.reduceEqDiff, not_false_eq_true, upd_ne, par1, reduceCtorEq, par0, h1, ↓g_len, Try.underlying9, len_str, onS_some, b_add, h2, ↓w_skip, ↓w_ret, retP_1, res_tmp, b_gtr, onB_dec, h3, onB_false]
        exact ⟨z, by omega, rfl, j3⟩
end Go.Proofs.Ytknmbiebnpojjaa.Sim
namespace Go.Proofs.Ytknmbiebnpojjaa.Sim
open Go
set_option maxRecDepth 100000
set_option maxHeartbeats 4000000
set_option linter.unusedSimpArgs false
set_option linter.unusedVariables false
theorem bigS {H : AHeap} {x : AV} {L : List Int} (hx : IsL H x .u8 L) : Sound Try.prog 8 [x] H (.sc (.bool (decide ((1048576 : Int) < L.length)))) H := by
  refine Sound.run 6 [.tmp 2] Try.func8 rfl rfl rfl rfl (by simp) ?_
  have lx := fun e => hx.len e
  simp -implicitDefEqProofs only [↓w_seq, ↓w_region, ↓ops_cons, ↓g_assign, ↓ops_nil, ev_const, of_bool, ↓g_move, ↓g_len, Try.underlying22, Nat.reduceLT, ev_tab, ne_eq, reduceCtorEq, not_false_eq_true, upd_ne, par0, upd_eq, lx, ↓g_binOp, of_int, ↓w_ret, ret_one, and_true, onS_some, b_gtr]
theorem bigNo {L : List Int} (h : L.length ≤ 1048576) : decide ((1048576 : Int) < L.length) = false := decide_eq_false (by omega)
theorem bigYes {L : List Int} (h : ¬ L.length ≤ 1048576) : decide ((1048576 : Int) < L.length) = true := decide_eq_true (by omega)
end Go.Proofs.Ytknmbiebnpojjaa.Sim
namespace Go.Proofs.Ytknmbiebnpojjaa.Sim
open Go
set_option maxRecDepth 100000
set_option maxHeartbeats 4000000
set_option linter.unusedSimpArgs false
set_option linter.unusedVariables false
def Fit (z T : ByteArray) (l : List Bool) : Prop := T.size = z.size ∧ l.length = z.size ∧ ∀ j, j < z.size → l.getD j false = true → byteAt T j = byteAt z j
theorem fillK_get (l : List Bool) (f j : Nat) (hj : j < l.length) : ∀ k, (fillK l f k).getD j false = if f ≤ j ∧ j < f + k then true else l.getD j false
  | 0 => by rw [if_neg (by omega)]; rfl
  | k + 1 => by
    have h : fillK l f (k + 1) = (fillK l f k).set (f + k) true := rfl
    have hl := fillK_len l f k
    rw [h, List.getD_eq_getElem?_getD]
    by_cases e : f + k = j
    · rw [e, List.getElem?_set_self (by omega), if_pos (by omega)]
      rfl
    · rw [List.getElem?_set_ne e, ← List.getD_eq_getElem?_getD, fillK_get l f j hj k]
      by_cases c : f ≤ j ∧ j < f + k
      · rw [if_pos c, if_pos (by omega)]
      · rw [if_neg c, if_neg (by omega)]
theorem putT_size (z : ByteArray) (f : Nat) (y : ByteArray) (h : f + y.size ≤ z.size) : (putT z f y).size = z.size := by
  rw [putT, ByteArray.size_append, ByteArray.size_append, ByteArray.size_extract, ByteArray.size_extract]
  omega
theorem putT_get (z : ByteArray) (f : Nat) (y : ByteArray) (h : f + y.size ≤ z.size) (j : Nat) (hj : j < z.size) : byteAt (putT z f y) j = if f ≤ j ∧ j < f + y.size then byteAt y (j - f) else byteAt z j := by
  have hn : nums (putT z f y) = (nums z).take f ++ (nums y ++ (nums z).drop (f + y.size)) := by
    rw [putT, nums_append, nums_append, nums_extract, nums_extract, List.drop_zero, List.take_of_length_le (i := z.size) (by rw [nums_len]; exact Nat.le_refl _), List.append_assoc]
  have l1 : ((nums z).take f).length = f := by rw [List.length_take, nums_len]; omega
  rw [byteAt_nums, hn, byteAt_nums, byteAt_nums, List.getD_eq_getElem?_getD, List.getD_eq_getElem?_getD, List.getD_eq_getElem?_getD]
  by_cases c1 : f ≤ j
  · rw [List.getElem?_append_right (by omega), l1]
    by_cases c2 : j < f + y.size
    · rw [if_pos ⟨c1, c2⟩, List.getElem?_append_left (by rw [nums_len]; omega)]
    · rw [if_neg (by omega), List.getElem?_append_right (by rw [nums_len]; omega), nums_len, List.getElem?_drop, show f + y.size + (j - f - y.size) = j by omega]
  · rw [if_neg (by omega), List.getElem?_append_left (by omega), List.getElem?_take_of_lt (by omega)]
theorem fit_put {z T : ByteArray} {l : List Bool} (h : Fit z T l) (f : Nat) (y : ByteArray) (hf : f + y.size ≤ z.size) (hy : ∀ k, k < y.size → byteAt y k = byteAt z (f + k)) : Fit z (putT T f y) (fillK l f y.size) ∧ ¬ ∃ k, k < y.size ∧ conf l T f y k := by
  obtain ⟨h1, h2, h3⟩ := h
  refine ⟨⟨by rw [putT_size _ _ _ (by omega)]; exact h1, by rw [fillK_len]; exact h2, fun j hj hl => ?_⟩, ?_⟩
  · rw [fillK_get l f j (by omega)] at hl
    rw [putT_get T f y (by omega) j (by omega)]
    by_cases c : f ≤ j ∧ j < f + y.size
    · rw [if_pos c, hy _ (by omega), show f + (j - f) = j by omega]
    · rw [if_neg c] at hl ⊢
      exact h3 j hj hl
  · rintro ⟨k, hk, c1, c2⟩
    exact c2 ((h3 _ (by omega) c1).trans (hy k hk).symm)
theorem fit_0 (z : ByteArray) : Fit z (zT z.size) (List.replicate z.size false) := ⟨zT_size _, List.length_replicate .., fun j hj h => by
  rw [List.getD_eq_getElem?_getD, List.getElem?_replicate] at h
  split at h <;> cases h⟩
theorem fit_end {z T : ByteArray} {l : List Bool} (h : Fit z T l) (ha : ∀ j, j < z.size → l.getD j false = true) : T = z := by
  apply nums_inj
  apply List.ext_getElem?
  intro j
  by_cases hj : j < z.size
  · have h1 : j < T.size := by rw [h.1]; exact hj
    have := h.2.2 j hj (ha j hj)
    rw [byteAt_nums, byteAt_nums, List.getD_eq_getElem?_getD, List.getD_eq_getElem?_getD, List.getElem?_eq_getElem (by rw [nums_len]; exact h1), List.getElem?_eq_getElem (by rw [nums_len]; exact hj)] at this
    rw [List.getElem?_eq_getElem (by rw [nums_len]; exact h1), List.getElem?_eq_getElem (by rw [nums_len]; exact hj)]
    exact congrArg some this
  · rw [List.getElem?_eq_none (by rw [nums_len, h.1]; omega), List.getElem?_eq_none (by rw [nums_len]; omega)]
/-! the parts of a text -/
section
variable (i : Int) (z : ByteArray) (s : Nat)
theorem cut_get : ∀ n j, j < n → (cutP i z s n)[j]? = some (cutAt i z s j)
  | 0, j, h => by omega
  | n + 1, j, h => by
    have hc : cutP i z s (n + 1) = cutP i z s n ++ [cutAt i z s n] := rfl
    rw [hc]
    rcases Nat.lt_or_ge j n with k | k
    · rw [List.getElem?_append_left (by rw [cutP_len]; exact k)]
      exact cut_get n j k
    · have : j = n := by omega
      subst this
      rw [List.getElem?_append_right (by rw [cutP_len]; exact Nat.le_refl _), cutP_len, Nat.sub_self]
      rfl
variable {i z s}
theorem cut_le {j : Nat} (hs : 1 ≤ s) (h : j < cutN z s) : j * s ≤ z.size := by
  rcases (cutN_lt hs).1 h with h | rfl
  · omega
  · omega
theorem cut_size {j : Nat} (hs : 1 ≤ s) (h : j < cutN z s) : (cutAt i z s j).z.size = min (j * s + s) z.size - j * s := by
  have := cut_le hs h
  show (z.extract (j * s) (min (j * s + s) z.size)).size = _
  rw [ByteArray.size_extract]
  omega
theorem cut_byte {j k : Nat} (hs : 1 ≤ s) (h : j < cutN z s) (hk : k < (cutAt i z s j).z.size) : byteAt (cutAt i z s j).z k = byteAt z (j * s + k) := by
  rw [cut_size hs h] at hk
  show byteAt (z.extract (j * s) (min (j * s + s) z.size)) k = _
  rw [byteAt_nums, byteAt_nums, nums_extract, List.getD_eq_getElem?_getD, List.getD_eq_getElem?_getD, List.getElem?_drop, List.getElem?_take_of_lt (by omega)]
def Cov (i : Int) (z : ByteArray) (s : Nat) (l : List Bool) (j : Nat) : Prop := ∀ k, k < (cutAt i z s j).z.size → l.getD (j * s + k) false = true
theorem cov_all {l : List Bool} (hs : 1 ≤ s) (h : ∀ j, j < cutN z s → Cov i z s l j) : ∀ j, j < z.size → l.getD j false = true := by
  intro j hj
  have e : j / s * s + j % s = j := by rw [Nat.mul_comm]; exact Nat.div_add_mod j s
  have hm : j % s < s := Nat.mod_lt _ (by omega)
  have hlt : j / s < cutN z s := (cutN_lt hs).2 (.inl (by omega))
  have := h (j / s) hlt (j % s) (by rw [cut_size hs hlt]; omega)
  rwa [e] at this
theorem cov_put {l : List Bool} {a b : Nat} (hs : 1 ≤ s) (ha : a < cutN z s) (hb : b < cutN z s) (hl : l.length = z.size) (h : Cov i z s l a ∨ a = b) : Cov i z s (fillK l (b * s) (cutAt i z s b).z.size) a := by
  intro k hk
  have h1 := cut_size (i := i) hs ha
  have h2 := cut_size (i := i) hs hb
  have h3 := cut_le hs ha
  rw [fillK_get _ _ _ (by omega)]
  split
  · rfl
  · rename_i hc
    rcases h with h | rfl
    · exact h k hk
    · omega
theorem cut_fit {j : Nat} (hs : 1 ≤ s) (h : j < cutN z s) {T : ByteArray} {l : List Bool} (hF : Fit z T l) : Fit z (putT T (j * s) (cutAt i z s j).z) (fillK l (j * s) (cutAt i z s j).z.size) ∧ ¬ ∃ k, k < (cutAt i z s j).z.size ∧ conf l T (j * s) (cutAt i z s j).z k :=
  fit_put hF _ _ (by rw [cut_size hs h]; have := cut_le hs h; omega) fun k hk => cut_byte hs h hk
theorem cut_ok {j : Nat} (hs : 1 ≤ s) (h : j < cutN z s) (hi : 0 ≤ i ∧ i ≤ 65535) (hz : z.size ≤ 4000) : okPc i z.size ((j * s : Nat) : Int) (cutAt i z s j).z := by
  have h1 := cut_size (i := i) hs h
  have h2 := cut_le hs h
  refine ⟨hi, by omega, by omega, ?_⟩
  omega
end
end Go.Proofs.Ytknmbiebnpojjaa.Sim
