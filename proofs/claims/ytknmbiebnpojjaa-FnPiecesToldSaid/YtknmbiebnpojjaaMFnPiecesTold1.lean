/- Texts of this proof, put together. -/
import Derived.Test.YtknmbiebnpojjaaTy
import Derived.Test.YtknmbiebnpojjaaChecked
namespace Go.Proofs.Ytknmbiebnpojjaa.Sim
open Go
set_option maxRecDepth 100000
set_option linter.unusedSimpArgs false
set_option linter.unusedVariables false
theorem inS (a lo hi : Int) : Fn Try.prog 74 [.sc (.int .i64 a), .sc (.int .i64 lo), .sc (.int .i64 hi)] (.sc (.bool (decide (lo ≤ a ∧ a ≤ hi)))) := by
  refine Fn.run 15 [.tmp 6] Try.func74 rfl rfl rfl rfl (by simp) (flats_cons (.sc _) (flats_cons (.sc _) (flats_cons (.sc _) flats_nil))) (.sc _) ?_
  by_cases h1 : lo ≤ a <;> by_cases h2 : a ≤ hi <;> simp +decide -implicitDefEqProofs only [↓w_seq, ↓w_skip, ↓w_ret, ↓w_exit, ↓w_block, ↓w_cond, ↓w_region, ↓ops_nil, ↓ops_cons, ↓dops_0, ↓dops_p, ↓dops_cons, ↓g_move, ↓g_assign, ↓g_binOp, ↓g_unOp, ↓g_pick, ↓g_len, ↓g_index, ↓g_indexAddr, ↓g_slice, ↓g_convert, ↓g_load, ↓g_store, ↓g_extract, ↓g_nilCheck, ↓g_fieldT, ↓g_fieldAddrT, of_agg, rd_aggc, rd_onec, wr_c, cells_int, cells_str, cells_bool, cells_nil, cells_sl, cells_ptr, cells_agg, one_int, one_str, one_bool, one_nil, one_sl, one_ptr, over_0, over_s, List.all_cons, List.all_nil, Bool.and_true, Bool.and_self, List.getElem?_nil, List.drop_succ_cons, List.drop_nil, ↓g_call, ↓g_guard_t, ↓g_guard_f, ↓g_alloc, ↓g_box, ↓g_buildSlice, ↓g_makeSlice, ↓g_buildV, rdA, wrA, ints_one, List.length_replicate, bools_one, strs_one, rd_bools, rd_strs, wr_bools, wr_strs, at_bools, at_strs, ap_bools, ap_boolsN, ap_strs, ap_strsN, ↓g_append, src_sl, src_nil, src_str, ap_ints, ap_intsN, kill_len, kill_0, kill_s, bnd_none, bnd_int, cut_str, cutS_some, cut_sl, cutL_some, bits_i64, bits_u32, bits_u8, List.getD_cons_zero, List.getD_cons_succ, at_end, at_a, at_b, yielded_tab, dstAt_0, dstAt_s, ybv_some, boolOf_b, ext_0, ext_1, ext_2, ext_3, alK_some, ev_tab, ev_const, upd_eq, upd_ne, par0, par1, par2, par3, par4, par5, of_int, of_str, of_bool, len_str, len_arr, len_sl, idx_str, adr_sl, adr_arr, c_int, c_str, c_bytes, c_text, pick_b, onS_some, onS_ite, onS_not, b_add, b_sub, b_mul, b_and, b_or, b_xor, b_eql, b_neq, b_lss, b_leq, b_gtr, b_geq, b_shl, b_shr, b_quo, b_rem, t_add, t_eql, t_neq, v_eql, v_neq, b_andNot, u_not, onB_true, onB_false, onB_dec, onB_not, ret_cell, ret_ct, retP_0, retP_1, retP_2, retP_3, res_tmp, res_cell, ret_one, ret_two, ret_three, ret_none, List.set_set, if_true, if_false, ite_true, ite_false, List.map_cons, List.map_nil, Option.map_some, Option.map_none, List.toList_toArray, rd_def, rd_ints, wr_def, wr_ints, at_def, at_ints, bytes_ints, bytesA_ints, ints_set, nums_len, List.length_nil, List.length_cons, List.length_set, List.length_append, List.nil_append, List.cons_append, List.getElem?_cons_zero, List.getElem?_cons_succ, List.set_cons_zero, List.set_cons_succ, List.drop_zero, List.take_succ_cons, List.take_zero, List.take_length, Option.bind_some, true_and, and_true, Nat.zero_add, Nat.mul_one, Int.toNat_zero, Int.reduceToNat, Int.reduceAdd, Int.reduceSub, Int.reduceMul, Int.reduceNeg, Nat.reduceAdd, Nat.reduceSub, Nat.reduceMul, Nat.reducePow, Nat.min_eq_left, Int.reducePow, Nat.le_refl, Int.cast_ofNat_Int, Nat.reduceLT, Nat.reduceLeDiff, Nat.reduceEqDiff, Int.reduceLE, Int.reduceLT, Int.reduceEq, ne_eq, not_false_eq_true, not_true_eq_false, reduceCtorEq, decide_true, decide_false, and_self, and_false, false_and, Bool.not_true, Bool.not_false, h1, h2] <;> simp [h1, h2]
theorem inI (a lo hi : Int) : Fn Try.prog 73 [.sc (.int .i64 a), .sc (.int .i64 lo), .sc (.int .i64 hi)] (.sc (.bool (decide (lo ≤ a ∧ a ≤ hi)))) := by
  refine Fn.run 15 [.tmp 6] Try.func73 rfl rfl rfl rfl (by simp) (flats_cons (.sc _) (flats_cons (.sc _) (flats_cons (.sc _) flats_nil))) (.sc _) ?_
  by_cases h1 : lo ≤ a <;> by_cases h2 : a ≤ hi <;> simp +decide -implicitDefEqProofs only [↓w_seq, ↓w_skip, ↓w_ret, ↓w_exit, ↓w_block, ↓w_cond, ↓w_region, ↓ops_nil, ↓ops_cons, ↓dops_0, ↓dops_p, ↓dops_cons, ↓g_move, ↓g_assign, ↓g_binOp, ↓g_unOp, ↓g_pick, ↓g_len, ↓g_index, ↓g_indexAddr, ↓g_slice, ↓g_convert, ↓g_load, ↓g_store, ↓g_extract, ↓g_nilCheck, ↓g_fieldT, ↓g_fieldAddrT, of_agg, rd_aggc, rd_onec, wr_c, cells_int, cells_str, cells_bool, cells_nil, cells_sl, cells_ptr, cells_agg, one_int, one_str, one_bool, one_nil, one_sl, one_ptr, over_0, over_s, List.all_cons, List.all_nil, Bool.and_true, Bool.and_self, List.getElem?_nil, List.drop_succ_cons, List.drop_nil, ↓g_call, ↓g_guard_t, ↓g_guard_f, ↓g_alloc, ↓g_box, ↓g_buildSlice, ↓g_makeSlice, ↓g_buildV, rdA, wrA, ints_one, List.length_replicate, bools_one, strs_one, rd_bools, rd_strs, wr_bools, wr_strs, at_bools, at_strs, ap_bools, ap_boolsN, ap_strs, ap_strsN, ↓g_append, src_sl, src_nil, src_str, ap_ints, ap_intsN, kill_len, kill_0, kill_s, bnd_none, bnd_int, cut_str, cutS_some, cut_sl, cutL_some, bits_i64, bits_u32, bits_u8, List.getD_cons_zero, List.getD_cons_succ, at_end, at_a, at_b, yielded_tab, dstAt_0, dstAt_s, ybv_some, boolOf_b, ext_0, ext_1, ext_2, ext_3, alK_some, ev_tab, ev_const, upd_eq, upd_ne, par0, par1, par2, par3, par4, par5, of_int, of_str, of_bool, len_str, len_arr, len_sl, idx_str, adr_sl, adr_arr, c_int, c_str, c_bytes, c_text, pick_b, onS_some, onS_ite, onS_not, b_add, b_sub, b_mul, b_and, b_or, b_xor, b_eql, b_neq, b_lss, b_leq, b_gtr, b_geq, b_shl, b_shr, b_quo, b_rem, t_add, t_eql, t_neq, v_eql, v_neq, b_andNot, u_not, onB_true, onB_false, onB_dec, onB_not, ret_cell, ret_ct, retP_0, retP_1, retP_2, retP_3, res_tmp, res_cell, ret_one, ret_two, ret_three, ret_none, List.set_set, if_true, if_false, ite_true, ite_false, List.map_cons, List.map_nil, Option.map_some, Option.map_none, List.toList_toArray, rd_def, rd_ints, wr_def, wr_ints, at_def, at_ints, bytes_ints, bytesA_ints, ints_set, nums_len, List.length_nil, List.length_cons, List.length_set, List.length_append, List.nil_append, List.cons_append, List.getElem?_cons_zero, List.getElem?_cons_succ, List.set_cons_zero, List.set_cons_succ, List.drop_zero, List.take_succ_cons, List.take_zero, List.take_length, Option.bind_some, true_and, and_true, Nat.zero_add, Nat.mul_one, Int.toNat_zero, Int.reduceToNat, Int.reduceAdd, Int.reduceSub, Int.reduceMul, Int.reduceNeg, Nat.reduceAdd, Nat.reduceSub, Nat.reduceMul, Nat.reducePow, Nat.min_eq_left, Int.reducePow, Nat.le_refl, Int.cast_ofNat_Int, Nat.reduceLT, Nat.reduceLeDiff, Nat.reduceEqDiff, Int.reduceLE, Int.reduceLT, Int.reduceEq, ne_eq, not_false_eq_true, not_true_eq_false, reduceCtorEq, decide_true, decide_false, and_self, and_false, false_and, Bool.not_true, Bool.not_false, h1, h2] <;> simp [h1, h2]
end Go.Proofs.Ytknmbiebnpojjaa.Sim
namespace Go.Proofs.Ytknmbiebnpojjaa.Sim
open Go
set_option linter.unusedSimpArgs false
set_option linter.unusedVariables false
theorem g_guard_v {P : Program} {ops : Array Oper} {K : St → Prop} {n : Nat} {T : Nat → AV} {H : AHeap} {d : Tmp} {ty : TypeId} {pos : String} {af : Array Edge} {op : Op} {j : Nat} {want : Bool} (h : yieldedA ops (tab n T) j = none) : opG P ops ⟨some d, op, ty, pos, af, some (j, want)⟩ K ⟨tab n T, H⟩ = K ⟨tab n (upd T d und), H⟩ := by
  rw [g_guard]
  simp only [h]
  have : ((none : Option Bool) == some want) = false := rfl
  simp only [this, St.put, set_tab]
theorem bo_v : boolOf und = none := rfl
theorem hap_0 (H Y : AHeap) : (H ++ Y)[H.length]? = Y[0]? := by
  rw [List.getElem?_append_right (Nat.le_refl _), Nat.sub_self]
theorem hap_k (H Y : AHeap) (k : Nat) : (H ++ Y)[H.length + k]? = Y[k]? := by
  rw [List.getElem?_append_right (by omega), Nat.add_sub_cancel_left]
theorem hset_0 (H Y : AHeap) (g : Reg) : (H ++ Y).set H.length g = H ++ Y.set 0 g := by
  rw [List.set_append_right _ _ (Nat.le_refl _), Nat.sub_self]
theorem hset_k (H Y : AHeap) (k : Nat) (g : Reg) : (H ++ Y).set (H.length + k) g = H ++ Y.set k g := by
  rw [List.set_append_right _ _ (by omega), Nat.add_sub_cancel_left]
theorem hkill_k (H Y : AHeap) (k : Nat) : killReg (H ++ Y) (H.length + k) = H ++ killReg Y k := by
  simp only [killReg]
  apply List.ext_getElem?
  intro i
  rw [List.getElem?_modify]
  by_cases h : i < H.length
  · have : ¬ H.length + k = i := by omega
    simp only [List.getElem?_append_left h, this, if_false]
    cases H[i]? <;> rfl
  · rw [List.getElem?_append_right (by omega), List.getElem?_append_right (by omega), List.getElem?_modify]
    have e : (H.length + k = i) = (k = i - H.length) := propext ⟨fun h => by omega, fun h => by omega⟩
    simp only [e]
theorem hkill_0 (H Y : AHeap) : killReg (H ++ Y) H.length = H ++ killReg Y 0 := hkill_k H Y 0
theorem at_lt {H : AHeap} {r : Nat} {g : Reg} (h : H[r]? = some g) : r < H.length := (List.getElem?_eq_some_iff.1 h).1
theorem kill_at (H : AHeap) (q r : Nat) (h : r ≠ q) : (killReg H q)[r]? = H[r]? := by
  simp only [killReg, List.getElem?_modify]
  have : ¬ q = r := fun e => h e.symm
  simp [this]
/-- All is as it was; more may be there. -/
def Ext (H Z : AHeap) : Prop := H.length ≤ Z.length ∧ ∀ i, i < H.length → Z[i]? = H[i]?
theorem Ext.refl (H : AHeap) : Ext H H := ⟨Nat.le_refl _, fun _ _ => _root_.rfl⟩
theorem Ext.trans {H Z Y : AHeap} (a : Ext H Z) (b : Ext Z Y) : Ext H Y := ⟨Nat.le_trans a.1 b.1, fun i h => (b.2 i (Nat.lt_of_lt_of_le h a.1)).trans (a.2 i h)⟩
theorem Ext.more (H Y : AHeap) : Ext H (H ++ Y) := ⟨by rw [List.length_append]; omega, fun i h => at_more _ _ _ h⟩
theorem Ext.kill {H Z : AHeap} (a : Ext H Z) {q : Nat} (hq : H.length ≤ q) : Ext H (killReg Z q) := ⟨by rw [kill_len]; exact a.1, fun i h => (kill_at _ _ _ (by omega)).trans (a.2 i h)⟩
theorem Ext.set {H Z : AHeap} (a : Ext H Z) {q : Nat} (hq : H.length ≤ q) (g : Reg) : Ext H (Z.set q g) := ⟨by rw [List.length_set]; exact a.1, fun i h => (List.getElem?_set_ne (by omega)).trans (a.2 i h)⟩
theorem Ext.add {H Z : AHeap} (a : Ext H Z) (Y : AHeap) : Ext H (Z ++ Y) := a.trans (.more _ _)
theorem Ext.at {H Z : AHeap} (a : Ext H Z) {r : Nat} {g : Reg} (h : H[r]? = some g) : Z[r]? = some g := (a.2 r (at_lt h)).trans h
theorem Ext.isL {H Z : AHeap} (a : Ext H Z) {y : AV} {k : IntKind} {l : List Int} (h : IsL H y k l) : IsL Z y k l := by
  rcases h with ⟨rfl, rfl⟩ | ⟨q, o, rfl, hq⟩
  · exact .nil _ _
  · exact .inr ⟨q, o, _root_.rfl, a.at hq⟩
theorem Ext.isB {H Z : AHeap} (a : Ext H Z) {y : AV} {l : List Bool} (h : IsB H y l) : IsB Z y l := by
  rcases h with ⟨rfl, rfl⟩ | ⟨q, o, rfl, hq⟩
  · exact .nil _
  · exact .inr ⟨q, o, _root_.rfl, a.at hq⟩
/-- What is read is the same, though the memory has changed elsewhere. -/
theorem same_ld {P : Program} {ops : Array Oper} {hs : List St} {j k : Nat} (t : TypeId) (x : Operand) (r off : Nat) (ho : (opAt ops j).op = .load t x) (hv : ev (hs.getD (ops.size - j) ⟨[], []⟩).ts x = .ptr r off) (h : (hs.getD (ops.size - k) ⟨[], []⟩).H[r]? = (hs.getD (ops.size - j) ⟨[], []⟩).H[r]?) : sameRead P ops hs (j, k) := fun _ => .inr <| by
  show evRead P (hs.getD (ops.size - j) ⟨[], []⟩).ts (opAt ops j).op (hs.getD (ops.size - k) ⟨[], []⟩).H = evRead P (hs.getD (ops.size - j) ⟨[], []⟩).ts (opAt ops j).op (hs.getD (ops.size - j) ⟨[], []⟩).H
  rw [ho]
  simp only [evRead, hv, cellsAt, h]
theorem ev_cv {P : Program} {ts : List AV} {H G : AHeap} (t u : TypeId) (x : Operand) (r off len sz : Nat) (hv : ev ts x = .sl r off len sz) (h : H[r]? = G[r]?) : evRead P ts (.convert t u x) H = evRead P ts (.convert t u x) G := by
  have hc : cellsAt H r off len = cellsAt G r off len := by unfold cellsAt; rw [h]
  unfold evRead
  simp only [hv]
  cases P.underlying t with
  | none => rfl
  | some D =>
    cases D <;> first | rfl | skip
    cases P.underlying u with
    | none => rfl
    | some E =>
      cases E <;> first | rfl | skip
      simp only [hc]
theorem same_cv {P : Program} {ops : Array Oper} {hs : List St} {j k : Nat} (t u : TypeId) (x : Operand) (r off len sz : Nat) (ho : (opAt ops j).op = .convert t u x) (hv : ev (hs.getD (ops.size - j) ⟨[], []⟩).ts x = .sl r off len sz) (h : (hs.getD (ops.size - k) ⟨[], []⟩).H[r]? = (hs.getD (ops.size - j) ⟨[], []⟩).H[r]?) : sameRead P ops hs (j, k) := fun _ => .inr <| by
  show evRead P (hs.getD (ops.size - j) ⟨[], []⟩).ts (opAt ops j).op (hs.getD (ops.size - k) ⟨[], []⟩).H = evRead P (hs.getD (ops.size - j) ⟨[], []⟩).ts (opAt ops j).op (hs.getD (ops.size - j) ⟨[], []⟩).H
  rw [ho]
  exact ev_cv t u x r off len sz hv h
end Go.Proofs.Ytknmbiebnpojjaa.Sim
namespace Go.Proofs.Ytknmbiebnpojjaa.Sim
open Go
set_option maxRecDepth 100000
set_option maxHeartbeats 4000000
set_option linter.unusedSimpArgs false
set_option linter.unusedVariables false
def varN (n : Nat) : List Int := if 127 < n then ((n % 128 + 128 : Nat) : Int) :: varN (n / 128) else [(n : Int)]
termination_by n
decreasing_by omega
theorem varN_big {n : Nat} (h : 127 < n) : varN n = ((n % 128 + 128 : Nat) : Int) :: varN (n / 128) := by rw [varN, if_pos h]
theorem varN_small {n : Nat} (h : ¬ 127 < n) : varN n = [(n : Int)] := by rw [varN, if_neg h]
theorem varN_len (k : Nat) : ∀ n, n < 128 ^ (k + 1) → (varN n).length ≤ k + 1 := by
  induction k with
  | zero =>
    intro n h
    rw [varN_small (by omega)]
    simp
  | succ k ih =>
    intro n h
    by_cases hb : 127 < n
    · rw [varN_big hb]
      have : n / 128 < 128 ^ (k + 1) := by
        rw [Nat.div_lt_iff_lt_mul (by decide)]
        rw [Nat.pow_succ] at h
        exact h
      have := ih _ this
      simp only [List.length_cons]
      omega
    · rw [varN_small hb]
      simp
theorem varN_5 (n : Nat) (h : n ≤ 1000000000) : (varN n).length ≤ 5 := varN_len 4 n (by omega)
def varT (n : Nat) : ByteArray := strOfNums (varN n)
theorem at_kill2 (G : AHeap) (X Y g : Reg) : (killReg ((G ++ [X]) ++ [Y]) G.length ++ [g])[G.length + 1 + 1]? = some g := by
  have := at_end (killReg ((G ++ [X]) ++ [Y]) G.length) g
  rwa [kill_len, List.length_append, List.length_append] at this
theorem varS (n : Nat) (hn : n ≤ 1000000000) : Fn Try.prog 94 [.sc (.int .i64 n)] (.sc (.string (varT n))) := by
  refine Fn.run 22 [.tmp 2] Try.func94 rfl rfl rfl rfl (by simp) (flats_cons (.sc _) flats_nil) (.sc _) ?_
  simp -implicitDefEqProofs only [↓w_seq, ↓w_region, ↓ops_cons, ↓g_assign, ↓ops_nil, ev_const, of_str, ↓g_buildSlice, Try.underlying22, List.map_nil, bs5_0, ↓w_block, Nat.reduceLT, ev_tab, upd_eq, alK_some, ints_one, List.length_nil, List.nil_append, true_and]
  refine w_loop (ι := Nat) (fun c s => ∃ (T : Nat → AV) (G : AHeap) (A : List Int), s = ⟨tab 22 T, G ++ [⟨ints .u8 A, true, true⟩]⟩ ∧ c ≤ 1000000000 ∧ A.length ≤ 1000000000 - c ∧ A ++ varN c = varN n ∧ T 0 = .sc (.int .i64 c) ∧ T 3 = .sl G.length 0 A.length 1) (fun c => c) ?_ (i := n) ?_
  · rintro c s ⟨T, G, A, rfl, a0, a1, a2, a3, a4⟩
    have htk : A.take A.length = A := List.take_length
    by_cases h : 127 < c
    · have k1 : (127 : Int) < c := by omega
      have e1 : ((c : Int)).tmod 128 = ((c % 128 : Nat) : Int) := by rw [Int.tmod_eq_emod_of_nonneg (by omega)]; omega
      have e2 : IntKind.i64.wrap (((c % 128 : Nat) : Int) + 128) = ((c % 128 + 128 : Nat) : Int) := by rw [w64 (by omega) (by omega)]; omega
      have e3 : IntKind.u8.wrap ((c % 128 + 128 : Nat) : Int) = ((c % 128 + 128 : Nat) : Int) := u8_id (by omega) (by omega)
      have e4 : IntKind.i64.wrap (((c : Int)).tdiv 128) = ((c / 128 : Nat) : Int) := by rw [Int.tdiv_eq_ediv_of_nonneg (by omega), w64 (by omega) (by omega)]; omega
      rw [varN_big h] at a2
      simp -implicitDefEqProofs only [↓w_seq, ↓w_region, ↓ops_cons, ↓g_move, ↓g_binOp, Nat.reduceLT, ev_tab, a3, upd_eq, ev_const, of_int, b_gtr, k1, decide_true, ↓ops_nil, ↓w_cond, ↓w_skip, ↓w_block, ne_eq, Nat.reduceEqDiff, not_false_eq_true, upd_ne, a4, reduceCtorEq, b_rem, Int.reduceEq, e1, if_false, ↓g_convert, Try.underlying3, Try.underlying5, ↓g_buildSlice, Try.underlying22, List.map_cons, List.map_nil, ↓g_append, apS22, ↓g_assign, b_quo, e4, onS_some, b_add, e2, c_int, e3, bs5_1, alK_some, ints_one, at_a, List.length_append, List.length_cons, List.length_nil, Nat.zero_add, src_sl, at_b, at_ints, Nat.le_refl, List.drop_zero, List.take_succ_cons, List.take_zero, if_true, ap_ints, Nat.mul_one, Nat.reduceLeDiff, and_self, true_and, List.take_length, onS_ite, ↓w_exit, Try.underlying9, ↓w_ret, ret_one, c_text, isU5, at_def, onB_true]
      refine ⟨by omega, c / 128, by omega, _, _, A ++ [((c % 128 + 128 : Nat) : Int)], rfl, by omega, by simp; omega, by rw [List.append_assoc]; exact a2, ?_, ?_⟩
      · simp -implicitDefEqProofs only [upd_eq]
      · simp -implicitDefEqProofs only [ne_eq, reduceCtorEq, not_false_eq_true, upd_ne, Nat.reduceEqDiff, upd_eq, kill_len, List.length_append, List.length_cons, List.length_nil, Nat.zero_add]
        try simp only [kill_len, List.length_append, List.length_cons, List.length_nil]
        try rfl
    · have k1 : ¬ (127 : Int) < c := by omega
      have e3 : IntKind.u8.wrap (c : Int) = c := u8_id (by omega) (by omega)
      rw [varN_small h] at a2
      have hA : A.length + 1 = (varN n).length := by rw [← a2]; simp
      have h5 := varN_5 n hn
      have htk2 : (A ++ [(c : Int)]).take (A.length + 1) = A ++ [(c : Int)] := List.take_of_length_le (by simp)
      simp -implicitDefEqProofs only [↓w_seq, ↓w_region, ↓ops_cons, ↓g_move, ↓g_binOp, Nat.reduceLT, ev_tab, a3, upd_eq, ev_const, of_int, b_gtr, k1, decide_false, ↓ops_nil, ↓w_cond, ↓w_skip, ↓w_block, ne_eq, Nat.reduceEqDiff, not_false_eq_true, upd_ne, a4, reduceCtorEq, b_rem, Int.reduceEq, if_false, ↓g_convert, Try.underlying3, Try.underlying5, ↓g_buildSlice, Try.underlying22, List.map_cons, List.map_nil, ↓g_append, apS22, ↓g_assign, b_quo, onS_some, b_add, c_int, bs5_1, alK_some, ints_one, at_a, List.length_append, List.length_cons, List.length_nil, Nat.zero_add, src_sl, at_b, at_ints, Nat.le_refl, List.drop_zero, List.take_succ_cons, List.take_zero, if_true, ap_ints, Nat.mul_one, Nat.reduceLeDiff, and_self, true_and, List.take_length, onS_ite, ↓w_exit, Try.underlying9, ↓w_ret, ret_one, e3, c_text, isU5, at_def, at_kill2, htk2, Option.bind_some, bytesA_ints, Option.map_some, onB_false]
      refine ⟨by omega, ?_⟩
      rw [a2]
      rfl
  · refine ⟨_, [], [], rfl, hn, by simp, rfl, ?_, ?_⟩ <;> simp -implicitDefEqProofs only [ne_eq, reduceCtorEq, not_false_eq_true, upd_ne, par0, upd_eq, List.length_nil] <;> rfl
theorem varI (n : Nat) (hn : n ≤ 1000000000) : Fn Try.prog 86 [.sc (.int .i64 n)] (.tup [.sc (.string (varT n)), .sc (.bool true)]) := by
  refine Fn.run 26 [.tmp 2, .tmp 3] Try.func86 rfl rfl rfl rfl (by simp) (flats_cons (.sc _) flats_nil) (.tup (flats_cons (.sc _) (flats_cons (.sc _) flats_nil))) ?_
  simp -implicitDefEqProofs only [↓w_seq, ↓w_region, ↓ops_cons, ↓g_assign, ↓ops_nil, ev_const, of_str, of_bool, ↓g_move, Nat.reduceLT, ev_tab, ne_eq, reduceCtorEq, not_false_eq_true, upd_ne, par0]
  refine call1 (by simp -implicitDefEqProofs only [List.map_cons, Nat.reduceLT, ev_tab, upd_eq, ev_const, of_int, List.map_nil] <;> rfl) (inI _ 0 1000000000) ?_
  rw [decide_eq_true (p := 0 ≤ (n : Int) ∧ (n : Int) ≤ 1000000000) (by omega)]
  simp -implicitDefEqProofs only [↓ops_cons, ↓g_unOp, Nat.reduceLT, ev_tab, upd_eq, u_not, Bool.not_true, Option.map_some, ↓ops_nil, ↓w_cond, ↓w_seq, ↓w_region, ↓g_assign, ↓w_ret, ev_const, of_str, of_bool, ret_two, ne_eq, Nat.reduceEqDiff, not_false_eq_true, upd_ne, ↓w_skip, ↓g_buildSlice, Try.underlying22, List.map_nil, bs5_0, ↓w_block, alK_some, ints_one, List.length_nil, List.nil_append, true_and, onS_some, onB_false]
  refine w_loop (ι := Nat) (fun c s => ∃ (T : Nat → AV) (G : AHeap) (A : List Int), s = ⟨tab 26 T, G ++ [⟨ints .u8 A, true, true⟩]⟩ ∧ c ≤ 1000000000 ∧ A.length ≤ 1000000000 - c ∧ A ++ varN c = varN n ∧ T 0 = .sc (.int .i64 c) ∧ T 4 = .sl G.length 0 A.length 1) (fun c => c) ?_ (i := n) ?_
  · rintro c s ⟨T, G, A, rfl, a0, a1, a2, a3, a4⟩
    have htk : A.take A.length = A := List.take_length
    by_cases h : 127 < c
    · have k1 : (127 : Int) < c := by omega
      have e1 : ((c : Int)).tmod 128 = ((c % 128 : Nat) : Int) := by rw [Int.tmod_eq_emod_of_nonneg (by omega)]; omega
      have e2 : IntKind.i64.wrap (((c % 128 : Nat) : Int) + 128) = ((c % 128 + 128 : Nat) : Int) := by rw [w64 (by omega) (by omega)]; omega
      have e3 : IntKind.u8.wrap ((c % 128 + 128 : Nat) : Int) = ((c % 128 + 128 : Nat) : Int) := u8_id (by omega) (by omega)
      have e4 : IntKind.i64.wrap (((c : Int)).tdiv 128) = ((c / 128 : Nat) : Int) := by rw [Int.tdiv_eq_ediv_of_nonneg (by omega), w64 (by omega) (by omega)]; omega
      rw [varN_big h] at a2
      simp -implicitDefEqProofs only [↓w_seq, ↓w_region, ↓ops_cons, ↓g_move, ↓g_binOp, Nat.reduceLT, ev_tab, a3, upd_eq, ev_const, of_int, b_gtr, k1, decide_true, ↓ops_nil, ↓w_cond, ↓w_skip, ↓w_block, ne_eq, Nat.reduceEqDiff, not_false_eq_true, upd_ne, a4, reduceCtorEq, b_rem, Int.reduceEq, e1, if_false, ↓g_convert, Try.underlying3, Try.underlying5, ↓g_buildSlice, Try.underlying22, List.map_cons, List.map_nil, ↓g_append, apS22, ↓g_assign, b_quo, e4, onS_some, b_add, e2, c_int, e3, bs5_1, alK_some, ints_one, at_a, List.length_append, List.length_cons, List.length_nil, Nat.zero_add, src_sl, at_b, at_ints, Nat.le_refl, List.drop_zero, List.take_succ_cons, List.take_zero, if_true, ap_ints, Nat.mul_one, Nat.reduceLeDiff, and_self, true_and, List.take_length, onS_ite, ↓w_exit, Try.underlying9, ↓w_ret, of_bool, ret_two, c_text, isU5, at_def, onB_true]
      refine ⟨by omega, c / 128, by omega, _, _, A ++ [((c % 128 + 128 : Nat) : Int)], rfl, by omega, by simp; omega, by rw [List.append_assoc]; exact a2, ?_, ?_⟩
      · simp -implicitDefEqProofs only [upd_eq]
      · simp -implicitDefEqProofs only [ne_eq, reduceCtorEq, not_false_eq_true, upd_ne, Nat.reduceEqDiff, upd_eq, kill_len, List.length_append, List.length_cons, List.length_nil, Nat.zero_add]
        try simp only [kill_len, List.length_append, List.length_cons, List.length_nil]
        try rfl
    · have k1 : ¬ (127 : Int) < c := by omega
      have e3 : IntKind.u8.wrap (c : Int) = c := u8_id (by omega) (by omega)
      rw [varN_small h] at a2
      have hA : A.length + 1 = (varN n).length := by rw [← a2]; simp
      have h5 := varN_5 n hn
      have htk2 : (A ++ [(c : Int)]).take (A.length + 1) = A ++ [(c : Int)] := List.take_of_length_le (by simp)
      simp -implicitDefEqProofs only [↓w_seq, ↓w_region, ↓ops_cons, ↓g_move, ↓g_binOp, Nat.reduceLT, ev_tab, a3, upd_eq, ev_const, of_int, b_gtr, k1, decide_false, ↓ops_nil, ↓w_cond, ↓w_skip, ↓w_block, ne_eq, Nat.reduceEqDiff, not_false_eq_true, upd_ne, a4, reduceCtorEq, b_rem, Int.reduceEq, if_false, ↓g_convert, Try.underlying3, Try.underlying5, ↓g_buildSlice, Try.underlying22, List.map_cons, List.map_nil, ↓g_append, apS22, ↓g_assign, b_quo, onS_some, b_add, c_int, bs5_1, alK_some, ints_one, at_a, List.length_append, List.length_cons, List.length_nil, Nat.zero_add, src_sl, at_b, at_ints, Nat.le_refl, List.drop_zero, List.take_succ_cons, List.take_zero, if_true, ap_ints, Nat.mul_one, Nat.reduceLeDiff, and_self, true_and, List.take_length, onS_ite, ↓w_exit, Try.underlying9, ↓w_ret, of_bool, ret_two, e3, c_text, isU5, at_def, at_kill2, htk2, Option.bind_some, bytesA_ints, Option.map_some, onB_false]
      refine ⟨by omega, ?_⟩
      rw [a2]
      rfl
  · refine ⟨_, [], [], rfl, hn, by simp, rfl, ?_, ?_⟩ <;> simp -implicitDefEqProofs only [ne_eq, reduceCtorEq, not_false_eq_true, upd_ne, par0, upd_eq, List.length_nil] <;> rfl
end Go.Proofs.Ytknmbiebnpojjaa.Sim
namespace Go.Proofs.Ytknmbiebnpojjaa.Sim
open Go
set_option maxRecDepth 100000
set_option maxHeartbeats 4000000
set_option linter.unusedSimpArgs false
set_option linter.unusedVariables false
theorem ovr_m (a : AV) (cs : List AV) (y : AV) (ys : List AV) : overA (a :: cs) 0 (y :: ys) = y :: overA cs 0 ys := by simp [overA]
theorem ovr_n (cs : List AV) : overA cs 0 [] = cs := by simp [overA]
/-- A part. -/
def prt (i t f : Int) (z : ByteArray) : AV := .agg [.sc (.int .i64 i), .sc (.int .i64 t), .sc (.int .i64 f), .sc (.string z)]
theorem prt_flat (i t f : Int) (z : ByteArray) : Flat (prt i t f z) := .agg (flats_cons (.sc _) (flats_cons (.sc _) (flats_cons (.sc _) (flats_cons (.sc _) flats_nil))))
def okPc (i t f : Int) (z : ByteArray) : Prop := (0 ≤ i ∧ i ≤ 65535) ∧ (0 ≤ t ∧ t ≤ 4000) ∧ (0 ≤ f ∧ f ≤ t - z.size)
theorem pieceI (i t f : Int) (z : ByteArray) (b : Bool) (hb : b = true ↔ okPc i t f z) (hz : z.size ≤ 1000000000) : Fn Try.prog 41 [prt i t f z] (.sc (.bool b)) := by
  refine Fn.run 22 [.tmp 2] Try.func41 rfl rfl rfl rfl (by simp) (flats_cons (prt_flat _ _ _ _) flats_nil) (.sc _) ?_
  unfold prt
  simp -implicitDefEqProofs only [↓w_seq, ↓w_region, ↓ops_cons, ↓g_box, Nat.reduceLT, ev_tab, par0, cells_agg, ↓g_assign, ↓ops_nil, ev_const, of_bool, ↓g_fieldAddrT, ne_eq, Nat.reduceEqDiff, not_false_eq_true, upd_ne, upd_eq, ↓g_load, alK_some, List.all_cons, one_int, one_str, List.all_nil, Bool.and_self, List.length_nil, fadr58_0, Nat.zero_add, List.nil_append, onS_some, rd_def, tyOk3, agg3, cells3, List.getElem?_cons_zero, rd_onec, true_and]
  refine call1 (by simp -implicitDefEqProofs only [List.map_cons, Nat.reduceLT, ev_tab, upd_eq, ev_const, of_int, List.map_nil] <;> rfl) (inI i 0 65535) ?_
  by_cases h1 : 0 ≤ i ∧ i ≤ 65535
  · rw [decide_eq_true h1]
    simp -implicitDefEqProofs only [↓ops_cons, ↓g_move, Nat.reduceLT, ev_tab, upd_eq, yielded_tab, dstAt_s, dstAt_0, ybv_some, boolOf_b, ↓g_guard_t, ↓g_fieldAddrT, ne_eq, Nat.reduceEqDiff, not_false_eq_true, upd_ne, fadr58_1, Nat.zero_add, ↓g_load, onS_some, rd_def, tyOk3, agg3, cells3, List.getElem?_cons_zero, rd_onec, List.getElem?_cons_succ]
    refine call1 (by simp -implicitDefEqProofs only [List.map_cons, Nat.reduceLT, ev_tab, upd_eq, ev_const, of_int, List.map_nil] <;> rfl) (inI t 0 4000) ?_
    by_cases h2 : 0 ≤ t ∧ t ≤ 4000
    · have e1 : IntKind.i64.wrap (t - z.size) = t - z.size := w64 (by omega) (by omega)
      rw [decide_eq_true h2]
      simp -implicitDefEqProofs only [↓ops_cons, ↓g_pick, Nat.reduceLT, ev_tab, ne_eq, Nat.reduceEqDiff, not_false_eq_true, upd_ne, upd_eq, ev_const, of_bool, pick_b, if_true, ↓g_move, onS_some, yielded_tab, dstAt_s, dstAt_0, ybv_some, boolOf_b, ↓g_guard_t, ↓g_fieldAddrT, fadr58_2, Nat.zero_add, ↓g_load, fadr58_1, fadr58_3, ↓g_len, Try.underlying9, ↓g_binOp, rd_def, tyOk9, agg9, cells9, List.getElem?_cons_zero, rd_onec, List.getElem?_cons_succ, len_str, tyOk3, agg3, cells3, b_sub, e1]
      refine call1 (by simp -implicitDefEqProofs only [List.map_cons, Nat.reduceLT, ev_tab, ne_eq, Nat.reduceEqDiff, not_false_eq_true, upd_ne, upd_eq, ev_const, of_int, List.map_nil] <;> rfl) (inI f 0 (t - z.size)) ?_
      have hbe : b = decide (0 ≤ f ∧ f ≤ t - z.size) := by
        by_cases h3 : 0 ≤ f ∧ f ≤ t - z.size
        · rw [decide_eq_true h3, hb.2 ⟨h1, h2, h3⟩]
        · rw [decide_eq_false h3]
          cases b with
          | false => rfl
          | true => exact absurd (hb.1 rfl).2.2 h3
      simp -implicitDefEqProofs only [↓ops_cons, ↓g_pick, Nat.reduceLT, ev_tab, ne_eq, Nat.reduceEqDiff, not_false_eq_true, upd_ne, upd_eq, ev_const, of_bool, pick_b, if_true, ↓g_assign, ↓ops_nil, ↓w_ret, ret_one, onS_some]
      rw [hbe]
    · have hbf : b = false := by
        cases b with
        | false => rfl
        | true => exact absurd (hb.1 rfl).2.1 h2
      rw [decide_eq_false h2]
      simp -implicitDefEqProofs only [↓ops_cons, ↓g_pick, Nat.reduceLT, ev_tab, ne_eq, Nat.reduceEqDiff, not_false_eq_true, upd_ne, upd_eq, ev_const, of_bool, pick_b, if_true, ↓g_move, hbf, onS_some, yielded_tab, dstAt_s, dstAt_0, ybv_some, boolOf_b, Bool.not_true, ↓g_guard_f, Bool.false_eq_true, if_false, ↓g_assign, ↓ops_nil, ↓w_ret, ret_one]
  · have hbf : b = false := by
      cases b with
      | false => rfl
      | true => exact absurd (hb.1 rfl).1 h1
    rw [decide_eq_false h1]
    simp -implicitDefEqProofs only [↓ops_cons, ↓g_move, Nat.reduceLT, ev_tab, upd_eq, yielded_tab, dstAt_s, dstAt_0, ybv_some, boolOf_b, Bool.not_true, ↓g_guard_f, ne_eq, Nat.reduceEqDiff, not_false_eq_true, upd_ne, ↓g_pick, ev_const, of_bool, pick_b, Bool.false_eq_true, if_false, hbf, onS_some, ↓g_assign, ↓ops_nil, ↓w_ret, ret_one]
theorem pieceS (i t f : Int) (z : ByteArray) (b : Bool) (hb : b = true ↔ okPc i t f z) (hz : z.size ≤ 1000000000) : Fn Try.prog 56 [prt i t f z] (.sc (.bool b)) := by
  refine Fn.run 30 [.tmp 2] Try.func56 rfl rfl rfl rfl (by simp) (flats_cons (prt_flat _ _ _ _) flats_nil) (.sc _) ?_
  unfold prt
  simp -implicitDefEqProofs only [↓w_seq, ↓w_region, ↓ops_cons, ↓g_box, Nat.reduceLT, ev_tab, par0, cells_agg, ↓g_assign, ↓ops_nil, ev_const, of_bool, ↓g_fieldAddrT, ne_eq, Nat.reduceEqDiff, not_false_eq_true, upd_ne, upd_eq, ↓g_load, alK_some, List.all_cons, one_int, one_str, List.all_nil, Bool.and_self, List.length_nil, fadr58_0, Nat.zero_add, List.nil_append, onS_some, rd_def, tyOk3, agg3, cells3, List.getElem?_cons_zero, rd_onec, true_and]
  refine call1 (by simp -implicitDefEqProofs only [List.map_cons, Nat.reduceLT, ev_tab, upd_eq, ev_const, of_int, List.map_nil] <;> rfl) (inS i 0 65535) ?_
  by_cases h1 : 0 ≤ i ∧ i ≤ 65535
  · rw [decide_eq_true h1]
    simp -implicitDefEqProofs only [↓ops_cons, ↓g_move, Nat.reduceLT, ev_tab, upd_eq, yielded_tab, dstAt_s, dstAt_0, ybv_some, boolOf_b, ↓g_guard_t, ↓g_fieldAddrT, ne_eq, Nat.reduceEqDiff, not_false_eq_true, upd_ne, fadr58_1, Nat.zero_add, ↓g_load, onS_some, rd_def, tyOk3, agg3, cells3, List.getElem?_cons_zero, rd_onec, List.getElem?_cons_succ]
    refine call1 (by simp -implicitDefEqProofs only [List.map_cons, Nat.reduceLT, ev_tab, upd_eq, ev_const, of_int, List.map_nil] <;> rfl) (inS t 0 4000) ?_
    by_cases h2 : 0 ≤ t ∧ t ≤ 4000
    · have e1 : IntKind.i64.wrap (t - z.size) = t - z.size := w64 (by omega) (by omega)
      rw [decide_eq_true h2]
      by_cases h4 : (z.size : Int) ≤ t
      · simp -implicitDefEqProofs only [↓ops_cons, ↓g_pick, Nat.reduceLT, ev_tab, ne_eq, Nat.reduceEqDiff, not_false_eq_true, upd_ne, upd_eq, ev_const, of_bool, pick_b, if_true, ↓g_move, onS_some, yielded_tab, dstAt_s, dstAt_0, ybv_some, boolOf_b, ↓g_guard_t, ↓g_fieldAddrT, fadr58_3, Nat.zero_add, ↓g_load, ↓g_len, Try.underlying9, fadr58_1, ↓g_binOp, rd_def, tyOk3, agg3, cells3, List.getElem?_cons_zero, rd_onec, List.getElem?_cons_succ, tyOk9, agg9, cells9, len_str, b_leq, h4, decide_true, fadr58_2, b_sub, e1]
        refine call1 (by simp -implicitDefEqProofs only [List.map_cons, Nat.reduceLT, ev_tab, ne_eq, Nat.reduceEqDiff, not_false_eq_true, upd_ne, upd_eq, ev_const, of_int, List.map_nil] <;> rfl) (inS f 0 (t - z.size)) ?_
        have hbe : b = decide (0 ≤ f ∧ f ≤ t - z.size) := by
          by_cases h3 : 0 ≤ f ∧ f ≤ t - z.size
          · rw [decide_eq_true h3, hb.2 ⟨h1, h2, h3⟩]
          · rw [decide_eq_false h3]
            cases b with
            | false => rfl
            | true => exact absurd (hb.1 rfl).2.2 h3
        simp -implicitDefEqProofs only [↓ops_cons, ↓g_pick, Nat.reduceLT, ev_tab, ne_eq, Nat.reduceEqDiff, not_false_eq_true, upd_ne, upd_eq, ev_const, of_bool, pick_b, if_true, ↓g_assign, ↓ops_nil, ↓w_ret, ret_one, onS_some]
        rw [hbe]
      · have hbf : b = false := by
          cases b with
          | false => rfl
          | true =>
            have := (hb.1 rfl).2.2
            omega
        simp -implicitDefEqProofs only [↓ops_cons, ↓g_pick, Nat.reduceLT, ev_tab, ne_eq, Nat.reduceEqDiff, not_false_eq_true, upd_ne, upd_eq, ev_const, of_bool, pick_b, if_true, ↓g_move, hbf, onS_some, yielded_tab, dstAt_s, dstAt_0, ybv_some, boolOf_b, ↓g_guard_t, ↓g_fieldAddrT, fadr58_3, Nat.zero_add, ↓g_load, ↓g_len, Try.underlying9, fadr58_1, ↓g_binOp, rd_def, tyOk3, agg3, cells3, List.getElem?_cons_zero, rd_onec, List.getElem?_cons_succ, tyOk9, agg9, cells9, len_str, b_leq, h4, decide_false, Bool.not_true, ↓g_guard_f, Bool.false_eq_true, if_false, ↓g_assign, ↓ops_nil, ↓w_ret, ret_one]
    · have hbf : b = false := by
        cases b with
        | false => rfl
        | true => exact absurd (hb.1 rfl).2.1 h2
      rw [decide_eq_false h2]
      simp -implicitDefEqProofs only [↓ops_cons, ↓g_pick, Nat.reduceLT, ev_tab, ne_eq, Nat.reduceEqDiff, not_false_eq_true, upd_ne, upd_eq, ev_const, of_bool, pick_b, if_true, ↓g_move, hbf, onS_some, yielded_tab, dstAt_s, dstAt_0, ybv_some, boolOf_b, Bool.not_true, ↓g_guard_f, Bool.false_eq_true, if_false, ↓g_assign, ↓ops_nil, ↓w_ret, ret_one]
  · have hbf : b = false := by
      cases b with
      | false => rfl
      | true => exact absurd (hb.1 rfl).1 h1
    rw [decide_eq_false h1]
    simp -implicitDefEqProofs only [↓ops_cons, ↓g_move, Nat.reduceLT, ev_tab, upd_eq, yielded_tab, dstAt_s, dstAt_0, ybv_some, boolOf_b, Bool.not_true, ↓g_guard_f, ne_eq, Nat.reduceEqDiff, not_false_eq_true, upd_ne, ↓g_pick, ev_const, of_bool, pick_b, Bool.false_eq_true, if_false, hbf, onS_some, ↓g_assign, ↓ops_nil, ↓w_ret, ret_one]
end Go.Proofs.Ytknmbiebnpojjaa.Sim
namespace Go.Proofs.Ytknmbiebnpojjaa.Sim
open Go
set_option maxRecDepth 100000
set_option maxHeartbeats 4000000
set_option linter.unusedSimpArgs false
set_option linter.unusedVariables false
theorem son_app (l : List Int) (z : ByteArray) : strOfNums l ++ z = strOfNums (l ++ nums z) := by
  have : z = strOfNums (nums z) := (son_nums z).symm
  conv => lhs; rw [this]
  rw [son_append]
def ptT (i t f : Nat) (z : ByteArray) : ByteArray := strOfNums (varN i ++ (varN t ++ (varN f ++ (varN z.size ++ nums z))))
theorem shortI (z : ByteArray) (hz : z.size ≤ 20000) : Fn Try.prog 87 [.sc (.string z)] (.tup [.sc (.string (strOfNums (varN z.size ++ nums z))), .sc (.bool true)]) := by
  refine Fn.run 18 [.tmp 2, .tmp 3] Try.func87 rfl rfl rfl rfl (by simp) (flats_cons (.sc _) flats_nil) (.tup (flats_cons (.sc _) (flats_cons (.sc _) flats_nil))) ?_
  have k1 : ¬ (20000 : Int) < z.size := by omega
  have h5 := varN_5 z.size (by omega)
  have hv : varT z.size = strOfNums (varN z.size) := rfl
  simp -implicitDefEqProofs only [↓w_seq, ↓w_region, ↓ops_cons, ↓g_assign, ↓ops_nil, ev_const, of_str, of_bool, ↓g_move, ↓g_len, Try.underlying9, Nat.reduceLT, ev_tab, ne_eq, reduceCtorEq, not_false_eq_true, upd_ne, par0, upd_eq, len_str, ↓g_binOp, of_int, ↓w_cond, ↓w_ret, ret_two, Nat.reduceEqDiff, ↓w_skip, onS_some, b_gtr, k1, decide_false, onB_false]
  refine call1 (by simp -implicitDefEqProofs only [List.map_cons, Nat.reduceLT, ev_tab, upd_eq, List.map_nil] <;> rfl) (varI z.size (by omega)) ?_
  simp -implicitDefEqProofs only [↓ops_cons, ↓g_move, ↓g_extract, hv, Nat.reduceLT, ev_tab, upd_eq, ext_0, ne_eq, Nat.reduceEqDiff, not_false_eq_true, upd_ne, ext_1, ↓g_assign, ↓ops_nil, ↓w_seq, ↓w_region, ↓g_binOp, reduceCtorEq, par0, ↓w_ret, ev_const, of_bool, ret_two, onS_some, t_add, son_size, onS_ite]
  exact ⟨by omega, by rw [son_app]⟩
theorem ptI (i t f : Nat) (z : ByteArray) (h : okPc i t f z) (hz : z.size ≤ 1000) : Fn Try.prog 39 [prt i t f z] (.tup [.sc (.string (ptT i t f z)), .sc (.bool true)]) := by
  refine Fn.run 50 [.tmp 2, .tmp 3] Try.func39 rfl rfl rfl rfl (by simp) (flats_cons (prt_flat _ _ _ _) flats_nil) (.tup (flats_cons (.sc _) (flats_cons (.sc _) flats_nil))) ?_
  obtain ⟨⟨_, hi⟩, ⟨_, ht⟩, hf⟩ := id h
  have k1 : ¬ (1000 : Int) < z.size := by omega
  have hp := pieceI i t f z true (by simp [h]) (by omega)
  unfold prt at hp ⊢
  have hi5 := varN_5 i (by omega)
  have ht5 := varN_5 t (by omega)
  have hf5 := varN_5 f (by omega)
  have hz5 := varN_5 z.size (by omega)
  have hv : ∀ n, varT n = strOfNums (varN n) := fun _ => rfl
  simp -implicitDefEqProofs only [↓w_seq, ↓w_region, ↓ops_cons, ↓g_box, Nat.reduceLT, ev_tab, par0, cells_agg, ↓g_assign, ↓ops_nil, ev_const, of_str, of_bool, ↓g_load, ne_eq, Nat.reduceEqDiff, not_false_eq_true, upd_ne, upd_eq, alK_some, List.all_cons, one_int, one_str, List.all_nil, Bool.and_self, List.length_nil, List.nil_append, rd_def, tyOk58, agg58, cells58, List.getElem?_cons_zero, rd_aggc, Nat.zero_add, List.length_cons, Nat.reduceAdd, Nat.le_refl, List.drop_zero, List.take_succ_cons, List.take_zero, if_true, onS_some, true_and]
  refine call1 (by simp -implicitDefEqProofs only [List.map_cons, Nat.reduceLT, ev_tab, upd_eq, List.map_nil] <;> rfl) hp ?_
  simp -implicitDefEqProofs only [↓ops_cons, ↓g_unOp, Nat.reduceLT, ev_tab, upd_eq, u_not, Bool.not_true, Option.map_some, ↓g_move, onS_some, yielded_tab, dstAt_s, dstAt_0, ybv_some, boolOf_b, ↓g_guard_t, ↓g_fieldAddrT, ne_eq, Nat.reduceEqDiff, not_false_eq_true, upd_ne, fadr58_3, Nat.zero_add, ↓g_load, ↓g_len, Try.underlying9, ↓g_binOp, ev_const, of_int, ↓g_pick, of_bool, pick_b, reduceCtorEq, if_false, ↓ops_nil, ↓w_cond, ↓w_seq, ↓w_region, ↓g_assign, ↓w_ret, of_str, ret_two, ↓w_skip, fadr58_0, fadr58_1, fadr58_2, ↓g_buildSlice, Try.underlying26, List.map_cons, List.map_nil, ↓w_block, rd_def, tyOk3, agg3, cells3, List.getElem?_cons_zero, rd_onec, List.getElem?_cons_succ, bs3_3, alK_some, ints_one, List.length_cons, List.length_nil, len_sl, Int.cast_ofNat_Int, List.cons_append, List.nil_append, true_and, tyOk9, agg9, cells9, len_str, b_gtr, k1, decide_false, onB_false]
  refine w_loop (ι := Nat) (fun k s => ∃ T : Nat → AV, s = ⟨tab 50 T, [⟨[.sc (.int .i64 i), .sc (.int .i64 t), .sc (.int .i64 f), .sc (.string z)], true, true⟩, ⟨ints .i64 [(i : Int), (t : Int), (f : Int)], true, true⟩]⟩ ∧ k ≤ 3 ∧ T 1 = .ptr 0 0 ∧ T 4 = .sc (.string (strOfNums ((([i, t, f] : List Nat).take k).flatMap varN))) ∧ T 26 = .sl 1 0 3 1 ∧ T 27 = .sc (.int .i64 3) ∧ T 28 = .sc (.int .i64 k)) (fun k => 3 - k) ?_ (i := 0) ?_
  · rintro k s ⟨T, rfl, a1, a2, a3, a4, a5, a6⟩
    match k, a1 with
    | 0, _ =>
      simp -implicitDefEqProofs only [↓w_seq, ↓w_region, Nat.reduceSub, ↓ops_cons, ↓g_binOp, Nat.reduceLT, ev_tab, a6, Int.cast_ofNat_Int, a5, b_lss, Int.reduceLT, decide_true, ↓ops_nil, ↓w_cond, upd_eq, ↓w_skip, ↓w_block, ↓g_indexAddr, Try.underlying26, ne_eq, Nat.reduceEqDiff, not_false_eq_true, upd_ne, a4, adr_sl, Int.reduceLE, cells3, tyOk3, and_self, Int.toNat_zero, Nat.mul_one, Nat.zero_add, if_true, ↓g_load, ↓g_assign, ↓g_move, onS_some, rd_def, agg3, List.getElem?_cons_succ, List.getElem?_cons_zero, rd_ints, List.length_cons, List.length_nil, Nat.reduceAdd, List.getD_cons_zero, ↓w_exit, ↓g_fieldAddrT, a2, fadr58_3, tyOk9, agg9, cells9, rd_onec, onB_true]
      refine call1 (by simp -implicitDefEqProofs only [List.map_cons, Nat.reduceLT, ev_tab, upd_eq, List.map_nil] <;> rfl) (varI i (by omega)) ?_
      simp -implicitDefEqProofs only [↓ops_cons, ↓g_move, ↓g_extract, hv, Nat.reduceLT, ev_tab, upd_eq, ext_0, ne_eq, Nat.reduceEqDiff, not_false_eq_true, upd_ne, ext_1, ↓g_assign, ↓ops_nil, ↓w_region, ↓g_binOp, a3, List.take_zero, List.flatMap_nil, a6, Int.cast_ofNat_Int, ev_const, of_int, b_add, Int.reduceAdd, onS_some, t_add, son_size, List.length_nil, Nat.zero_add, son_append, List.nil_append, onS_ite]
      refine ⟨by omega, 1, by omega, _, rfl, by omega, ?_, ?_, ?_, ?_, ?_⟩ <;> simp -implicitDefEqProofs only [ne_eq, Nat.reduceEqDiff, not_false_eq_true, upd_ne, a2, upd_eq, List.take_succ_cons, List.take_zero, List.flatMap_cons, List.flatMap_nil, List.append_nil, a4, a5, Int.cast_ofNat_Int] <;> rfl
    | 1, _ =>
      simp -implicitDefEqProofs only [↓w_seq, ↓w_region, Nat.reduceSub, ↓ops_cons, ↓g_binOp, Nat.reduceLT, ev_tab, a6, Int.cast_ofNat_Int, a5, b_lss, Int.reduceLT, decide_true, ↓ops_nil, ↓w_cond, upd_eq, ↓w_skip, ↓w_block, ↓g_indexAddr, Try.underlying26, ne_eq, Nat.reduceEqDiff, not_false_eq_true, upd_ne, a4, adr_sl, Int.reduceLE, cells3, tyOk3, and_self, Int.reduceToNat, Nat.mul_one, Nat.zero_add, if_true, ↓g_load, ↓g_assign, ↓g_move, onS_some, rd_def, agg3, List.getElem?_cons_succ, List.getElem?_cons_zero, rd_ints, List.length_cons, List.length_nil, Nat.reduceAdd, List.getD_cons_succ, List.getD_cons_zero, ↓w_exit, ↓g_fieldAddrT, a2, fadr58_3, tyOk9, agg9, cells9, rd_onec, onB_true]
      refine call1 (by simp -implicitDefEqProofs only [List.map_cons, Nat.reduceLT, ev_tab, upd_eq, List.map_nil] <;> rfl) (varI t (by omega)) ?_
      simp -implicitDefEqProofs only [↓ops_cons, ↓g_move, ↓g_extract, hv, Nat.reduceLT, ev_tab, upd_eq, ext_0, ne_eq, Nat.reduceEqDiff, not_false_eq_true, upd_ne, ext_1, ↓g_assign, ↓ops_nil, ↓w_region, ↓g_binOp, a3, List.take_succ_cons, List.take_zero, List.flatMap_cons, List.flatMap_nil, List.append_nil, a6, Int.cast_ofNat_Int, ev_const, of_int, b_add, Int.reduceAdd, onS_some, t_add, son_size, son_append, onS_ite]
      refine ⟨by omega, 2, by omega, _, rfl, by omega, ?_, ?_, ?_, ?_, ?_⟩ <;> simp -implicitDefEqProofs only [ne_eq, Nat.reduceEqDiff, not_false_eq_true, upd_ne, a2, upd_eq, List.take_succ_cons, List.take_zero, List.flatMap_cons, List.flatMap_nil, List.append_nil, a4, a5, Int.cast_ofNat_Int] <;> rfl
    | 2, _ =>
      simp -implicitDefEqProofs only [↓w_seq, ↓w_region, Nat.reduceSub, ↓ops_cons, ↓g_binOp, Nat.reduceLT, ev_tab, a6, Int.cast_ofNat_Int, a5, b_lss, Int.reduceLT, decide_true, ↓ops_nil, ↓w_cond, upd_eq, ↓w_skip, ↓w_block, ↓g_indexAddr, Try.underlying26, ne_eq, Nat.reduceEqDiff, not_false_eq_true, upd_ne, a4, adr_sl, Int.reduceLE, cells3, tyOk3, and_self, Int.reduceToNat, Nat.mul_one, Nat.zero_add, if_true, ↓g_load, ↓g_assign, ↓g_move, onS_some, rd_def, agg3, List.getElem?_cons_succ, List.getElem?_cons_zero, rd_ints, List.length_cons, List.length_nil, Nat.reduceAdd, List.getD_cons_succ, List.getD_cons_zero, ↓w_exit, ↓g_fieldAddrT, a2, fadr58_3, tyOk9, agg9, cells9, rd_onec, onB_true]
      refine call1 (by simp -implicitDefEqProofs only [List.map_cons, Nat.reduceLT, ev_tab, upd_eq, List.map_nil] <;> rfl) (varI f (by omega)) ?_
      simp -implicitDefEqProofs only [↓ops_cons, ↓g_move, ↓g_extract, hv, Nat.reduceLT, ev_tab, upd_eq, ext_0, ne_eq, Nat.reduceEqDiff, not_false_eq_true, upd_ne, ext_1, ↓g_assign, ↓ops_nil, ↓w_region, ↓g_binOp, a3, List.take_succ_cons, List.take_zero, List.flatMap_cons, List.flatMap_nil, List.append_nil, a6, Int.cast_ofNat_Int, ev_const, of_int, b_add, Int.reduceAdd, onS_some, t_add, son_size, List.length_append, son_append, onS_ite]
      refine ⟨by omega, 3, by omega, _, rfl, by omega, ?_, ?_, ?_, ?_, ?_⟩ <;> simp -implicitDefEqProofs only [List.append_assoc, ne_eq, Nat.reduceEqDiff, not_false_eq_true, upd_ne, a2, upd_eq, List.take_succ_cons, List.take_zero, List.flatMap_cons, List.flatMap_nil, List.append_nil, a4, a5, Int.cast_ofNat_Int] <;> rfl
    | 3, _ =>
      simp -implicitDefEqProofs only [↓w_seq, ↓w_region, Nat.reduceSub, ↓ops_cons, ↓g_binOp, Nat.reduceLT, ev_tab, a6, Int.cast_ofNat_Int, a5, b_lss, Int.reduceLT, decide_false, ↓ops_nil, ↓w_cond, upd_eq, ↓w_skip, ↓w_block, ↓g_indexAddr, Try.underlying26, ne_eq, Nat.reduceEqDiff, not_false_eq_true, upd_ne, a4, adr_sl, Int.reduceLE, cells3, tyOk3, and_self, and_true, and_false, Int.reduceToNat, Nat.mul_one, Nat.zero_add, if_false, ↓g_load, ↓g_assign, ↓g_move, ↓w_exit, ↓g_fieldAddrT, a2, fadr58_3, onS_some, rd_def, tyOk9, agg9, cells9, List.getElem?_cons_zero, rd_onec, List.getElem?_cons_succ, if_true, onB_false]
      refine call1 (by simp -implicitDefEqProofs only [List.map_cons, Nat.reduceLT, ev_tab, upd_eq, List.map_nil] <;> rfl) (shortI z (by omega)) ?_
      simp -implicitDefEqProofs only [↓ops_cons, ↓g_move, ↓g_extract, Nat.reduceLT, ev_tab, upd_eq, ext_0, ne_eq, Nat.reduceEqDiff, not_false_eq_true, upd_ne, ext_1, ↓g_assign, ↓ops_nil, ↓w_seq, ↓w_region, ↓g_binOp, a3, List.take_succ_cons, List.take_zero, List.flatMap_cons, List.flatMap_nil, List.append_nil, ↓w_ret, ev_const, of_bool, ret_two, onS_some, t_add, son_size, List.length_append, nums_len, son_append, onS_ite]
      refine ⟨by omega, ?_⟩
      simp only [ptT, List.append_assoc]
    | n + 4, h => exact absurd h (by omega)
  · refine ⟨_, rfl, by omega, ?_, ?_, ?_, ?_, ?_⟩ <;> simp -implicitDefEqProofs only [ne_eq, Nat.reduceEqDiff, not_false_eq_true, upd_ne, upd_eq, List.take_zero, List.flatMap_nil, Int.cast_ofNat_Int] <;> rfl
theorem ptS (i t f : Nat) (z : ByteArray) (h : okPc i t f z) (hz : z.size ≤ 1000) : Fn Try.prog 47 [prt i t f z] (.tup [.sc (.string (ptT i t f z)), .sc (.bool true)]) := by
  refine Fn.run 32 [.tmp 2, .tmp 3] Try.func47 rfl rfl rfl rfl (by simp) (flats_cons (prt_flat _ _ _ _) flats_nil) (.tup (flats_cons (.sc _) (flats_cons (.sc _) flats_nil))) ?_
  obtain ⟨⟨_, hi⟩, ⟨_, ht⟩, hf⟩ := id h
  have k1 : ¬ (1000 : Int) < z.size := by omega
  have hp := pieceS i t f z true (by simp [h]) (by omega)
  unfold prt at hp ⊢
  have hi5 := varN_5 i (by omega)
  have ht5 := varN_5 t (by omega)
  have hf5 := varN_5 f (by omega)
  have hz5 := varN_5 z.size (by omega)
  have hv : ∀ n, varT n = strOfNums (varN n) := fun _ => rfl
  simp -implicitDefEqProofs only [↓w_seq, ↓w_region, ↓ops_cons, ↓g_box, Nat.reduceLT, ev_tab, par0, cells_agg, ↓g_assign, ↓ops_nil, ev_const, of_str, of_bool, ↓g_load, ne_eq, Nat.reduceEqDiff, not_false_eq_true, upd_ne, upd_eq, alK_some, List.all_cons, one_int, one_str, List.all_nil, Bool.and_self, List.length_nil, List.nil_append, rd_def, tyOk58, agg58, cells58, List.getElem?_cons_zero, rd_aggc, Nat.zero_add, List.length_cons, Nat.reduceAdd, Nat.le_refl, List.drop_zero, List.take_succ_cons, List.take_zero, if_true, onS_some, true_and]
  refine call1 (by simp -implicitDefEqProofs only [List.map_cons, Nat.reduceLT, ev_tab, upd_eq, List.map_nil] <;> rfl) hp ?_
  simp -implicitDefEqProofs only [↓ops_cons, ↓g_unOp, Nat.reduceLT, ev_tab, upd_eq, u_not, Bool.not_true, Option.map_some, ↓g_move, onS_some, yielded_tab, dstAt_s, dstAt_0, ybv_some, boolOf_b, ↓g_guard_t, ↓g_fieldAddrT, ne_eq, Nat.reduceEqDiff, not_false_eq_true, upd_ne, fadr58_3, Nat.zero_add, ↓g_load, ↓g_len, Try.underlying9, ↓g_binOp, ev_const, of_int, ↓g_pick, of_bool, pick_b, reduceCtorEq, if_false, ↓ops_nil, ↓w_cond, ↓w_seq, ↓w_region, ↓g_assign, ↓w_ret, of_str, ret_two, ↓w_skip, rd_def, tyOk9, agg9, cells9, List.getElem?_cons_zero, rd_onec, List.getElem?_cons_succ, len_str, b_gtr, k1, decide_false, onB_false]
  refine drawn [(1, 0), (4, 0), (4, 3), (8, 0), (8, 3), (8, 6), (12, 0), (12, 3), (12, 6), (12, 10), (17, 0), (17, 3), (17, 6), (17, 10), (17, 15)] follows (by kernel_rfl) (by kernel_rfl) ?_
  simp -implicitDefEqProofs only [↓dops_cons, ↓g_fieldAddrT, Nat.reduceLT, ev_tab, ne_eq, Nat.reduceEqDiff, not_false_eq_true, upd_ne, upd_eq, fadr58_0, Nat.zero_add, ↓g_load, onS_some, rd_def, tyOk3, agg3, cells3, List.getElem?_cons_zero, rd_onec]
  refine call1 (by simp -implicitDefEqProofs only [List.map_cons, Nat.reduceLT, ev_tab, upd_eq, List.map_nil] <;> rfl) (varS i (by omega)) ?_
  simp -implicitDefEqProofs only [↓dops_cons, ↓g_fieldAddrT, Nat.reduceLT, ev_tab, ne_eq, Nat.reduceEqDiff, not_false_eq_true, upd_ne, upd_eq, fadr58_1, Nat.zero_add, ↓g_load, onS_some, rd_def, tyOk3, agg3, cells3, List.getElem?_cons_zero, rd_onec, List.getElem?_cons_succ]
  refine call1 (by simp -implicitDefEqProofs only [List.map_cons, Nat.reduceLT, ev_tab, upd_eq, List.map_nil] <;> rfl) (varS t (by omega)) ?_
  simp -implicitDefEqProofs only [↓dops_cons, ↓g_binOp, hv, Nat.reduceLT, ev_tab, ne_eq, Nat.reduceEqDiff, not_false_eq_true, upd_ne, upd_eq, t_add, son_size, son_append, ↓g_fieldAddrT, fadr58_2, Nat.zero_add, ↓g_load, onS_some, rd_def, tyOk3, agg3, cells3, List.getElem?_cons_zero, rd_onec, List.getElem?_cons_succ, onS_ite]
  refine ⟨by omega, ?_⟩
  refine call1 (by simp -implicitDefEqProofs only [List.map_cons, Nat.reduceLT, ev_tab, upd_eq, List.map_nil] <;> rfl) (varS f (by omega)) ?_
  simp -implicitDefEqProofs only [↓dops_cons, ↓g_binOp, hv, Nat.reduceLT, ev_tab, ne_eq, Nat.reduceEqDiff, not_false_eq_true, upd_ne, upd_eq, t_add, son_size, List.length_append, son_append, ↓g_fieldAddrT, fadr58_3, Nat.zero_add, ↓g_load, ↓g_len, Try.underlying9, onS_some, rd_def, tyOk9, agg9, cells9, List.getElem?_cons_zero, rd_onec, List.getElem?_cons_succ, len_str, onS_ite]
  refine ⟨by omega, ?_⟩
  refine call1 (by simp -implicitDefEqProofs only [List.map_cons, Nat.reduceLT, ev_tab, upd_eq, List.map_nil] <;> rfl) (varS z.size (by omega)) ?_
  simp -implicitDefEqProofs only [↓dops_cons, ↓g_binOp, hv, Nat.reduceLT, ev_tab, ne_eq, Nat.reduceEqDiff, not_false_eq_true, upd_ne, upd_eq, t_add, son_size, List.length_append, son_append, ↓g_fieldAddrT, fadr58_3, Nat.zero_add, ↓g_load, ↓g_assign, ↓dops_p, ev_const, of_bool, ↓w_ret, ret_two, onS_some, rd_def, tyOk9, agg9, cells9, List.getElem?_cons_zero, rd_onec, List.getElem?_cons_succ, onS_ite]
  refine ⟨by omega, by omega, ?_⟩
  refine ⟨pairs_cons (same_H rfl) (pairs_cons (same_H rfl) (pairs_cons (same_H rfl) (pairs_cons (same_H rfl) (pairs_cons (same_H rfl) (pairs_cons (same_H rfl) (pairs_cons (same_H rfl) (pairs_cons (same_H rfl) (pairs_cons (same_H rfl) (pairs_cons (same_H rfl) (pairs_cons (same_H rfl) (pairs_cons (same_H rfl) (pairs_cons (same_H rfl) (pairs_cons (same_H rfl) (pairs_cons (same_H rfl) (pairs_nil))))))))))))))), ?_⟩
  rw [son_app, ptT]
  simp only [List.append_assoc]
theorem ptNoI (i t f : Int) (z : ByteArray) (h : ¬ (okPc i t f z ∧ z.size ≤ 1000)) (hz : z.size ≤ 1000000000) : Fn Try.prog 39 [prt i t f z] (.tup [.sc (.string ByteArray.empty), .sc (.bool false)]) := by
  refine Fn.run 50 [.tmp 2, .tmp 3] Try.func39 rfl rfl rfl rfl (by simp) (flats_cons (prt_flat _ _ _ _) flats_nil) (.tup (flats_cons (.sc _) (flats_cons (.sc _) flats_nil))) ?_
  by_cases hp : okPc i t f z
  · have hpp := pieceI i t f z true (by simp [hp]) hz
    have k1 : (1000 : Int) < z.size := by
      have : ¬ z.size ≤ 1000 := fun q => h ⟨hp, q⟩
      omega
    unfold prt at hpp ⊢
    simp -implicitDefEqProofs only [↓w_seq, ↓w_region, ↓ops_cons, ↓g_box, Nat.reduceLT, ev_tab, par0, cells_agg, ↓g_assign, ↓ops_nil, ev_const, of_str, of_bool, ↓g_load, ne_eq, Nat.reduceEqDiff, not_false_eq_true, upd_ne, upd_eq, alK_some, List.all_cons, one_int, one_str, List.all_nil, Bool.and_self, List.length_nil, List.nil_append, rd_def, tyOk58, agg58, cells58, List.getElem?_cons_zero, rd_aggc, Nat.zero_add, List.length_cons, Nat.reduceAdd, Nat.le_refl, List.drop_zero, List.take_succ_cons, List.take_zero, if_true, onS_some, true_and]
    refine call1 (by simp -implicitDefEqProofs only [List.map_cons, Nat.reduceLT, ev_tab, upd_eq, List.map_nil] <;> rfl) hpp ?_
    simp -implicitDefEqProofs only [↓ops_cons, ↓g_unOp, Nat.reduceLT, ev_tab, upd_eq, u_not, Bool.not_true, Option.map_some, ↓g_move, onS_some, yielded_tab, dstAt_s, dstAt_0, ybv_some, boolOf_b, ↓g_guard_t, ↓g_fieldAddrT, ne_eq, Nat.reduceEqDiff, not_false_eq_true, upd_ne, fadr58_3, Nat.zero_add, ↓g_load, ↓g_len, Try.underlying9, ↓g_binOp, ev_const, of_int, ↓g_pick, of_bool, pick_b, reduceCtorEq, if_false, ↓ops_nil, ↓w_cond, ↓w_seq, ↓w_region, ↓g_assign, ↓w_ret, of_str, ret_two, ↓w_skip, fadr58_0, fadr58_1, fadr58_2, ↓g_buildSlice, Try.underlying26, List.map_cons, List.map_nil, ↓w_block, rd_def, tyOk3, agg3, cells3, List.getElem?_cons_zero, rd_onec, List.getElem?_cons_succ, bs3_3, alK_some, ints_one, List.length_cons, List.length_nil, len_sl, Int.cast_ofNat_Int, List.cons_append, List.nil_append, true_and, tyOk9, agg9, cells9, len_str, b_gtr, k1, decide_true, onB_true]
    try rfl
  · have hpp := pieceI i t f z false (by simp [hp]) hz
    unfold prt at hpp ⊢
    simp -implicitDefEqProofs only [↓w_seq, ↓w_region, ↓ops_cons, ↓g_box, Nat.reduceLT, ev_tab, par0, cells_agg, ↓g_assign, ↓ops_nil, ev_const, of_str, of_bool, ↓g_load, ne_eq, Nat.reduceEqDiff, not_false_eq_true, upd_ne, upd_eq, alK_some, List.all_cons, one_int, one_str, List.all_nil, Bool.and_self, List.length_nil, List.nil_append, rd_def, tyOk58, agg58, cells58, List.getElem?_cons_zero, rd_aggc, Nat.zero_add, List.length_cons, Nat.reduceAdd, Nat.le_refl, List.drop_zero, List.take_succ_cons, List.take_zero, if_true, onS_some, true_and]
    refine call1 (by simp -implicitDefEqProofs only [List.map_cons, Nat.reduceLT, ev_tab, upd_eq, List.map_nil] <;> rfl) hpp ?_
    simp -implicitDefEqProofs only [↓ops_cons, ↓g_unOp, Nat.reduceLT, ev_tab, upd_eq, u_not, Bool.not_false, Option.map_some, ↓g_move, onS_some, yielded_tab, dstAt_s, dstAt_0, ybv_some, boolOf_b, ↓g_guard_f, ne_eq, Nat.reduceEqDiff, not_false_eq_true, upd_ne, ↓g_pick, ev_const, of_bool, pick_b, if_true, ↓ops_nil, ↓w_cond, ↓w_seq, ↓w_region, ↓g_assign, ↓w_ret, of_str, ret_two, ↓w_skip, ↓g_fieldAddrT, fadr58_0, Nat.zero_add, ↓g_load, fadr58_1, fadr58_2, ↓g_buildSlice, Try.underlying26, List.map_cons, List.map_nil, ↓g_len, ↓w_block, of_int, rd_def, tyOk3, agg3, cells3, List.getElem?_cons_zero, rd_onec, List.getElem?_cons_succ, bs3_3, alK_some, ints_one, List.length_cons, List.length_nil, len_sl, Int.cast_ofNat_Int, List.cons_append, List.nil_append, true_and, onB_true]
    try rfl
theorem ptNoS (i t f : Int) (z : ByteArray) (h : ¬ (okPc i t f z ∧ z.size ≤ 1000)) (hz : z.size ≤ 1000000000) : Fn Try.prog 47 [prt i t f z] (.tup [.sc (.string ByteArray.empty), .sc (.bool false)]) := by
  refine Fn.run 32 [.tmp 2, .tmp 3] Try.func47 rfl rfl rfl rfl (by simp) (flats_cons (prt_flat _ _ _ _) flats_nil) (.tup (flats_cons (.sc _) (flats_cons (.sc _) flats_nil))) ?_
  by_cases hp : okPc i t f z
  · have hpp := pieceS i t f z true (by simp [hp]) hz
    have k1 : (1000 : Int) < z.size := by
      have : ¬ z.size ≤ 1000 := fun q => h ⟨hp, q⟩
      omega
    unfold prt at hpp ⊢
    simp -implicitDefEqProofs only [↓w_seq, ↓w_region, ↓ops_cons, ↓g_box, Nat.reduceLT, ev_tab, par0, cells_agg, ↓g_assign, ↓ops_nil, ev_const, of_str, of_bool, ↓g_load, ne_eq, Nat.reduceEqDiff, not_false_eq_true, upd_ne, upd_eq, alK_some, List.all_cons, one_int, one_str, List.all_nil, Bool.and_self, List.length_nil, List.nil_append, rd_def, tyOk58, agg58, cells58, List.getElem?_cons_zero, rd_aggc, Nat.zero_add, List.length_cons, Nat.reduceAdd, Nat.le_refl, List.drop_zero, List.take_succ_cons, List.take_zero, if_true, onS_some, true_and]
    refine call1 (by simp -implicitDefEqProofs only [List.map_cons, Nat.reduceLT, ev_tab, upd_eq, List.map_nil] <;> rfl) hpp ?_
    simp -implicitDefEqProofs only [↓ops_cons, ↓g_unOp, Nat.reduceLT, ev_tab, upd_eq, u_not, Bool.not_true, Option.map_some, ↓g_move, onS_some, yielded_tab, dstAt_s, dstAt_0, ybv_some, boolOf_b, ↓g_guard_t, ↓g_fieldAddrT, ne_eq, Nat.reduceEqDiff, not_false_eq_true, upd_ne, fadr58_3, Nat.zero_add, ↓g_load, ↓g_len, Try.underlying9, ↓g_binOp, ev_const, of_int, ↓g_pick, of_bool, pick_b, reduceCtorEq, if_false, ↓ops_nil, ↓w_cond, ↓w_seq, ↓w_region, ↓g_assign, ↓w_ret, of_str, ret_two, ↓w_skip, rd_def, tyOk9, agg9, cells9, List.getElem?_cons_zero, rd_onec, List.getElem?_cons_succ, len_str, b_gtr, k1, decide_true, onB_true]
    try rfl
  · have hpp := pieceS i t f z false (by simp [hp]) hz
    unfold prt at hpp ⊢
    simp -implicitDefEqProofs only [↓w_seq, ↓w_region, ↓ops_cons, ↓g_box, Nat.reduceLT, ev_tab, par0, cells_agg, ↓g_assign, ↓ops_nil, ev_const, of_str, of_bool, ↓g_load, ne_eq, Nat.reduceEqDiff, not_false_eq_true, upd_ne, upd_eq, alK_some, List.all_cons, one_int, one_str, List.all_nil, Bool.and_self, List.length_nil, List.nil_append, rd_def, tyOk58, agg58, cells58, List.getElem?_cons_zero, rd_aggc, Nat.zero_add, List.length_cons, Nat.reduceAdd, Nat.le_refl, List.drop_zero, List.take_succ_cons, List.take_zero, if_true, onS_some, true_and]
    refine call1 (by simp -implicitDefEqProofs only [List.map_cons, Nat.reduceLT, ev_tab, upd_eq, List.map_nil] <;> rfl) hpp ?_
    simp -implicitDefEqProofs only [↓ops_cons, ↓g_unOp, Nat.reduceLT, ev_tab, upd_eq, u_not, Bool.not_false, Option.map_some, ↓g_move, onS_some, yielded_tab, dstAt_s, dstAt_0, ybv_some, boolOf_b, ↓g_guard_f, ne_eq, Nat.reduceEqDiff, not_false_eq_true, upd_ne, ↓g_pick, ev_const, of_bool, pick_b, if_true, ↓ops_nil, ↓w_cond, ↓w_seq, ↓w_region, ↓g_assign, ↓w_ret, of_str, ret_two, ↓w_skip, onB_true]
    try rfl
end Go.Proofs.Ytknmbiebnpojjaa.Sim
namespace Go.Proofs.Ytknmbiebnpojjaa.Sim
open Go
set_option maxRecDepth 100000
set_option maxHeartbeats 4000000
set_option linter.unusedSimpArgs false
set_option linter.unusedVariables false
def bN (z : ByteArray) (j : Nat) : Nat := (byteAt z j).toNat
theorem bN_i (z : ByteArray) (j : Nat) : byteAt z j = (bN z j : Int) ∧ bN z j < 256 := by
  have h : 0 ≤ byteAt z j ∧ byteAt z j < 256 := by
    unfold byteAt
    have := ((z.data[j]?).getD 0).toNat_lt
    omega
  unfold bN
  omega
def rdv (z : ByteArray) (a : Nat) : Nat → Nat → Nat → Option (Nat × Nat)
  | 0, _, _ => none
  | f + 1, i, n => if a + i < z.size then (if 127 < bN z (a + i) then rdv z a f (i + 1) (n + bN z (a + i) % 128 * 128 ^ i) else if (0 < i ∧ bN z (a + i) = 0) ∨ 1000000000 < n + bN z (a + i) % 128 * 128 ^ i then none else some (n + bN z (a + i) % 128 * 128 ^ i, a + i + 1)) else none
def rvV (r : Option (Nat × Nat)) : AV :=
  match r with
  | some (n, k) => .tup [.sc (.int .i64 n), .sc (.int .i64 k), .sc (.bool true)]
  | none => .tup [.sc (.int .i64 0), .sc (.int .i64 0), .sc (.bool false)]
theorem rvV_flat (r : Option (Nat × Nat)) : Flat (rvV r) := by
  unfold rvV
  split <;> exact .tup (flats_cons (.sc _) (flats_cons (.sc _) (flats_cons (.sc _) flats_nil)))
theorem pw7 (i : Nat) (h : i < 5) : (2 : Int) ^ (7 * i) = ((128 ^ i : Nat) : Int) ∧ 128 ^ i ≤ 268435456 ∧ 1 ≤ 128 ^ i := by
  match i, h with
  | 0, _ => exact ⟨rfl, by decide, by decide⟩
  | 1, _ => exact ⟨rfl, by decide, by decide⟩
  | 2, _ => exact ⟨rfl, by decide, by decide⟩
  | 3, _ => exact ⟨rfl, by decide, by decide⟩
  | 4, _ => exact ⟨rfl, by decide, by decide⟩
  | n + 5, h => exact absurd h (by omega)
theorem stp7 (n c i : Nat) (h : n < 128 ^ i) : n + c % 128 * 128 ^ i < 128 ^ (i + 1) := by
  have h1 : c % 128 ≤ 127 := by omega
  have h2 : c % 128 * 128 ^ i ≤ 127 * 128 ^ i := Nat.mul_le_mul_right _ h1
  rw [Nat.pow_succ]
  omega
theorem rvI (z : ByteArray) (a : Nat) (ha : a ≤ z.size) (hz : z.size ≤ 1000000000) : Fn Try.prog 88 [.sc (.string z), .sc (.int .i64 a)] (rvV (rdv z a 5 0 0)) := by
  refine Fn.run 57 [.tmp 4, .tmp 5, .tmp 6] Try.func88 rfl rfl rfl rfl (by simp) (flats_cons (.sc _) (flats_cons (.sc _) flats_nil)) (rvV_flat _) ?_
  generalize hR : rdv z a 5 0 0 = R
  simp -implicitDefEqProofs only [↓w_seq, ↓w_region, ↓ops_cons, ↓g_assign, ↓ops_nil, ev_const, of_int, of_bool, ↓g_move, ↓g_len, Try.underlying9, Nat.reduceLT, ev_tab, ne_eq, Nat.reduceEqDiff, not_false_eq_true, upd_ne, par1, reduceCtorEq, par0, upd_eq, len_str, onS_some]
  refine call1 (by simp -implicitDefEqProofs only [List.map_cons, Nat.reduceLT, ev_tab, ne_eq, Nat.reduceEqDiff, not_false_eq_true, upd_ne, upd_eq, ev_const, of_int, List.map_nil] <;> rfl) (inI _ 0 _) ?_
  rw [decide_eq_true (p := 0 ≤ (a : Int) ∧ (a : Int) ≤ (z.size : Int)) (by omega)]
  simp -implicitDefEqProofs only [↓ops_cons, ↓g_unOp, Nat.reduceLT, ev_tab, upd_eq, u_not, Bool.not_true, Option.map_some, ↓ops_nil, ↓w_cond, ↓w_seq, ↓w_region, ↓g_assign, ↓w_ret, ev_const, of_int, of_bool, ret_three, ne_eq, Nat.reduceEqDiff, not_false_eq_true, upd_ne, ↓w_skip, ↓w_block, onS_some, onB_false]
  refine w_loop (ι := Nat) (fun i s => ∃ (T : Nat → AV) (H : AHeap) (n : Nat), s = ⟨tab 57 T, H⟩ ∧ i ≤ 5 ∧ n < 128 ^ i ∧ rdv z a (5 - i) i n = R ∧ T 0 = .sc (.string z) ∧ T 1 = .sc (.int .i64 a) ∧ T 7 = .sc (.int .i64 n) ∧ T 8 = .sc (.int .i64 i)) (fun i => 5 - i) ?_ (i := 0) ?_
  · rintro i s ⟨T, H, n, rfl, a1, a2, a3, a4, a5, a6, a7⟩
    by_cases hi : i < 5
    · have k1 : (i : Int) < 5 := by omega
      have e1 : IntKind.i64.wrap ((a : Int) + i) = ((a + i : Nat) : Int) := by rw [w64 (by omega) (by omega)]; omega
      obtain ⟨f, hf⟩ : ∃ f, 5 - i = f + 1 := ⟨4 - i, by omega⟩
      have hf2 : 5 - (i + 1) = f := by omega
      rw [hf, rdv] at a3
      by_cases hin : a + i < z.size
      · have k2 : ((a + i : Nat) : Int) < z.size := by omega
        rw [if_pos hin] at a3
        obtain ⟨hb, hb2⟩ := bN_i z (a + i)
        obtain ⟨p1, p2, p3⟩ := pw7 i hi
        have hst := stp7 n (bN z (a + i)) i a2
        generalize hc : bN z (a + i) = c at *
        have k3 : (0 : Int) ≤ ((a + i : Nat) : Int) := by omega
        have e2 : IntKind.i64.wrap (c : Int) = c := w64 (by omega) (by omega)
        have e3 : ((c : Int)).tmod 128 = ((c % 128 : Nat) : Int) := by rw [Int.tmod_eq_emod_of_nonneg (by omega)]; omega
        have e4 : IntKind.i64.wrap (7 * (i : Int)) = ((7 * i : Nat) : Int) := by rw [w64 (by omega) (by omega)]; omega
        have k4 : ¬ ((7 * i : Nat) : Int) < 0 := by omega
        have e5 : min (7 * i) 64 = 7 * i := by omega
        have hm : c % 128 * 128 ^ i ≤ 127 * 268435456 := Nat.mul_le_mul (by omega) p2
        have hn : n < 268435456 := by omega
        have e6 : IntKind.i64.wrap (((c % 128 : Nat) : Int) * 2 ^ (7 * i)) = ((c % 128 * 128 ^ i : Nat) : Int) := by
          rw [p1, w64 (by omega) (by omega)]
          push_cast
          rfl
        have e7 : IntKind.i64.wrap ((n : Int) + ((c % 128 * 128 ^ i : Nat) : Int)) = ((n + c % 128 * 128 ^ i : Nat) : Int) := by rw [w64 (by omega) (by omega)]; omega
        have e8 : IntKind.i64.wrap ((i : Int) + 1) = ((i + 1 : Nat) : Int) := by rw [w64 (by omega) (by omega)]; omega
        generalize hn' : n + c % 128 * 128 ^ i = n' at *
        by_cases hbig : 127 < c
        · have k5 : (127 : Int) < c := by omega
          rw [if_pos hbig] at a3
          simp -implicitDefEqProofs only [↓w_seq, ↓w_region, ↓ops_cons, ↓g_move, ↓g_binOp, Nat.reduceLT, ev_tab, a7, upd_eq, ev_const, of_int, b_lss, k1, decide_true, onS_some, yielded_tab, dstAt_s, dstAt_0, ybv_some, boolOf_b, ↓g_guard_t, ne_eq, Nat.reduceEqDiff, not_false_eq_true, upd_ne, a5, b_add, e1, reduceCtorEq, a4, ↓g_len, Try.underlying9, len_str, ↓g_pick, of_bool, pick_b, if_true, ↓ops_nil, ↓w_cond, ↓w_skip, ↓w_block, ↓g_index, ↓g_convert, Try.underlying5, Try.underlying3, ↓g_assign, a6, b_mul, e4, ↓w_exit, e8, ↓w_ret, ret_three, if_false, b_gtr, idx_str, k3, Int.toNat_natCast, hin, and_self, hb, c_int, e2, b_rem, Int.reduceEq, e3, k5, onB_true, b_shl, k4, bits_i64, e5, e6, e7, k2]
          refine ⟨i + 1, by omega, _, _, n', rfl, by omega, hst, by rw [hf2]; exact a3, ?_, ?_, ?_, ?_⟩ <;> simp -implicitDefEqProofs only [ne_eq, reduceCtorEq, not_false_eq_true, upd_ne, a4, Nat.reduceEqDiff, a5, upd_eq] <;> rfl
        · have k5 : ¬ (127 : Int) < c := by omega
          rw [if_neg hbig] at a3
          have e9 : IntKind.i64.wrap (((a + i : Nat) : Int) + 1) = ((a + i + 1 : Nat) : Int) := by rw [w64 (by omega) (by omega)]; omega
          by_cases h0 : 0 < i ∧ c = 0
          · rw [if_pos (.inl h0)] at a3
            have k6 : (0 : Int) < i := by omega
            have k7 : (c : Int) = 0 := by omega
            subst a3
            simp -implicitDefEqProofs only [↓w_seq, ↓w_region, ↓ops_cons, ↓g_move, ↓g_binOp, Nat.reduceLT, ev_tab, a7, upd_eq, ev_const, of_int, b_lss, k1, decide_true, onS_some, yielded_tab, dstAt_s, dstAt_0, ybv_some, boolOf_b, ↓g_guard_t, ne_eq, Nat.reduceEqDiff, not_false_eq_true, upd_ne, a5, b_add, e1, reduceCtorEq, a4, ↓g_len, Try.underlying9, len_str, ↓g_pick, of_bool, pick_b, if_true, ↓ops_nil, ↓w_cond, ↓w_skip, ↓w_block, ↓g_index, ↓g_convert, Try.underlying5, Try.underlying3, ↓g_assign, a6, b_mul, e4, ↓w_exit, ↓w_ret, ret_three, if_false, b_gtr, k6, idx_str, k3, Int.toNat_natCast, hin, and_self, hb, k7, c_int, b_rem, Int.reduceEq, b_eql, onB_dec, b_shl, k4, bits_i64, e5, k2, onB_true]
            try rfl
          · by_cases h1 : 1000000000 < n'
            · rw [if_pos (.inr h1)] at a3
              subst a3
              have k8 : (1000000000 : Int) < n' := by omega
              by_cases h2 : 0 < i
              · have k6 : (0 : Int) < i := by omega
                have k7 : ¬ (c : Int) = 0 := by omega
                simp -implicitDefEqProofs only [↓w_seq, ↓w_region, ↓ops_cons, ↓g_move, ↓g_binOp, Nat.reduceLT, ev_tab, a7, upd_eq, ev_const, of_int, b_lss, k1, decide_true, onS_some, yielded_tab, dstAt_s, dstAt_0, ybv_some, boolOf_b, ↓g_guard_t, ne_eq, Nat.reduceEqDiff, not_false_eq_true, upd_ne, a5, b_add, e1, reduceCtorEq, a4, ↓g_len, Try.underlying9, len_str, ↓g_pick, of_bool, pick_b, if_true, ↓ops_nil, ↓w_cond, ↓w_skip, ↓w_block, ↓g_index, ↓g_convert, Try.underlying5, Try.underlying3, ↓g_assign, a6, b_mul, e4, ↓w_exit, ↓w_ret, ret_three, if_false, b_gtr, k6, idx_str, k3, Int.toNat_natCast, hin, and_self, hb, c_int, e2, b_rem, Int.reduceEq, e3, k5, decide_false, b_eql, k7, Bool.false_eq_true, onB_false, b_shl, k4, bits_i64, e5, e6, e7, k8, onB_true, k2]
                try rfl
              · have k6 : ¬ (0 : Int) < i := by omega
                simp -implicitDefEqProofs only [↓w_seq, ↓w_region, ↓ops_cons, ↓g_move, ↓g_binOp, Nat.reduceLT, ev_tab, a7, upd_eq, ev_const, of_int, b_lss, k1, decide_true, onS_some, yielded_tab, dstAt_s, dstAt_0, ybv_some, boolOf_b, ↓g_guard_t, ne_eq, Nat.reduceEqDiff, not_false_eq_true, upd_ne, a5, b_add, e1, reduceCtorEq, a4, ↓g_len, Try.underlying9, len_str, ↓g_pick, of_bool, pick_b, if_true, ↓ops_nil, ↓w_cond, ↓w_skip, ↓w_block, ↓g_index, ↓g_convert, Try.underlying5, Try.underlying3, ↓g_assign, a6, b_mul, e4, ↓w_exit, ↓w_ret, ret_three, if_false, b_gtr, k6, decide_false, Bool.not_true, ↓g_guard_f, Bool.false_eq_true, idx_str, k3, Int.toNat_natCast, hin, and_self, hb, c_int, e2, b_rem, Int.reduceEq, e3, k5, onB_false, b_shl, k4, bits_i64, e5, e6, e7, k8, onB_true, k2]
                try rfl
            · rw [if_neg (fun x => x.elim h0 h1)] at a3
              subst a3
              have k8 : ¬ (1000000000 : Int) < n' := by omega
              by_cases h2 : 0 < i
              · have k6 : (0 : Int) < i := by omega
                have k7 : ¬ (c : Int) = 0 := by omega
                simp -implicitDefEqProofs only [↓w_seq, ↓w_region, ↓ops_cons, ↓g_move, ↓g_binOp, Nat.reduceLT, ev_tab, a7, upd_eq, ev_const, of_int, b_lss, k1, decide_true, onS_some, yielded_tab, dstAt_s, dstAt_0, ybv_some, boolOf_b, ↓g_guard_t, ne_eq, Nat.reduceEqDiff, not_false_eq_true, upd_ne, a5, b_add, e1, reduceCtorEq, a4, ↓g_len, Try.underlying9, len_str, ↓g_pick, of_bool, pick_b, if_true, ↓ops_nil, ↓w_cond, ↓w_skip, ↓w_block, ↓g_index, ↓g_convert, Try.underlying5, Try.underlying3, ↓g_assign, a6, b_mul, e4, ↓w_exit, ↓w_ret, ret_three, if_false, b_gtr, k6, idx_str, k3, Int.toNat_natCast, hin, and_self, hb, c_int, e2, b_rem, Int.reduceEq, e3, k5, decide_false, b_eql, k7, Bool.false_eq_true, e9, onB_false, b_shl, k4, bits_i64, e5, e6, e7, k8, k2, onB_true]
                try rfl
              · have k6 : ¬ (0 : Int) < i := by omega
                simp -implicitDefEqProofs only [↓w_seq, ↓w_region, ↓ops_cons, ↓g_move, ↓g_binOp, Nat.reduceLT, ev_tab, a7, upd_eq, ev_const, of_int, b_lss, k1, decide_true, onS_some, yielded_tab, dstAt_s, dstAt_0, ybv_some, boolOf_b, ↓g_guard_t, ne_eq, Nat.reduceEqDiff, not_false_eq_true, upd_ne, a5, b_add, e1, reduceCtorEq, a4, ↓g_len, Try.underlying9, len_str, ↓g_pick, of_bool, pick_b, if_true, ↓ops_nil, ↓w_cond, ↓w_skip, ↓w_block, ↓g_index, ↓g_convert, Try.underlying5, Try.underlying3, ↓g_assign, a6, b_mul, e4, ↓w_exit, ↓w_ret, ret_three, if_false, b_gtr, k6, decide_false, Bool.not_true, ↓g_guard_f, Bool.false_eq_true, e9, idx_str, k3, Int.toNat_natCast, hin, and_self, hb, c_int, e2, b_rem, Int.reduceEq, e3, k5, onB_false, b_shl, k4, bits_i64, e5, e6, e7, k8, k2, onB_true]
                try rfl
      · have k2 : ¬ ((a + i : Nat) : Int) < z.size := by omega
        rw [if_neg hin] at a3
        subst a3
        simp -implicitDefEqProofs only [↓w_seq, ↓w_region, ↓ops_cons, ↓g_move, ↓g_binOp, Nat.reduceLT, ev_tab, a7, upd_eq, ev_const, of_int, b_lss, k1, decide_true, onS_some, yielded_tab, dstAt_s, dstAt_0, ybv_some, boolOf_b, ↓g_guard_t, ne_eq, Nat.reduceEqDiff, not_false_eq_true, upd_ne, a5, b_add, e1, reduceCtorEq, a4, ↓g_len, Try.underlying9, len_str, ↓g_pick, of_bool, pick_b, if_true, ↓ops_nil, ↓w_cond, ↓w_skip, ↓w_block, ↓g_index, ↓g_convert, Try.underlying5, Try.underlying3, ↓g_assign, a6, b_mul, ↓w_exit, ↓w_ret, ret_three, if_false, b_gtr, idx_str, onS_ite, c_int, b_rem, Int.reduceEq, onB_dec, b_shl, bits_i64, onS_not, k2, decide_false, onB_false]
        try rfl
    · have k1 : ¬ (i : Int) < 5 := by omega
      have hi5 : i = 5 := by omega
      subst hi5
      have hRn : R = none := a3.symm
      subst hRn
      simp -implicitDefEqProofs only [↓w_seq, ↓w_region, Nat.reduceSub, ↓ops_cons, ↓g_move, ↓g_binOp, Nat.reduceLT, ev_tab, a7, Int.cast_ofNat_Int, upd_eq, ev_const, of_int, b_lss, Int.reduceLT, decide_false, onS_some, yielded_tab, dstAt_s, dstAt_0, ybv_some, boolOf_b, Bool.not_true, ↓g_guard_f, ne_eq, Nat.reduceEqDiff, not_false_eq_true, upd_ne, ↓g_pick, of_bool, pick_b, Bool.false_eq_true, if_false, ↓ops_nil, ↓w_cond, ↓w_skip, ↓w_block, reduceCtorEq, a4, a5, b_add, ↓g_index, Try.underlying9, ↓g_convert, Try.underlying5, Try.underlying3, ↓g_assign, a6, b_mul, Int.reduceMul, ↓w_exit, Int.reduceAdd, ↓w_ret, ret_three, if_true, b_gtr, decide_true, ↓g_guard_t, idx_str, onS_ite, c_int, b_rem, Int.reduceEq, b_eql, onB_dec, b_shl, bits_i64, onS_not, onB_false]
      try rfl
  · refine ⟨_, _, 0, rfl, by omega, by decide, hR, ?_, ?_, ?_, ?_⟩ <;> simp -implicitDefEqProofs only [ne_eq, reduceCtorEq, not_false_eq_true, upd_ne, par0, Nat.reduceEqDiff, par1, upd_eq, Int.cast_ofNat_Int] <;> rfl
end Go.Proofs.Ytknmbiebnpojjaa.Sim
namespace Go.Proofs.Ytknmbiebnpojjaa.Sim
open Go
set_option maxRecDepth 100000
set_option maxHeartbeats 4000000
set_option linter.unusedSimpArgs false
set_option linter.unusedVariables false
def vl : List Nat → Nat
  | [] => 0
  | b :: l => b % 128 + 128 * vl l
theorem vl_app (c : Nat) : ∀ l : List Nat, vl (l ++ [c]) = vl l + c % 128 * 128 ^ l.length
  | [] => by simp [vl]
  | b :: l => by
    simp only [List.cons_append, vl, vl_app c l, List.length_cons, Nat.pow_succ, Nat.mul_add]
    rw [Nat.mul_comm (128 ^ l.length) 128, ← Nat.mul_assoc, ← Nat.mul_assoc, Nat.mul_comm 128 (c % 128)]
    omega
theorem vl_pos (c : Nat) (hc : 0 < c % 128) : ∀ l : List Nat, 1 ≤ vl (l ++ [c])
  | [] => by simp [vl]; omega
  | b :: l => by
    have := vl_pos c hc l
    simp only [List.cons_append, vl]
    omega
theorem vl_lt : ∀ l : List Nat, vl l < 128 ^ l.length
  | [] => by simp [vl]
  | b :: l => by
    have := vl_lt l
    simp only [vl, List.length_cons, Nat.pow_succ]
    omega
def ci (l : List Nat) : List Int := l.map fun b : Nat => (b : Int)
theorem varN_good (c : Nat) (hc : c < 128) : ∀ P : List Nat, (∀ b ∈ P, 128 ≤ b ∧ b < 256) → (c ≠ 0 ∨ P = []) → varN (vl (P ++ [c])) = ci (P ++ [c])
  | [], _, _ => by
    simp only [List.nil_append, vl]
    rw [varN_small (by omega)]
    simp [ci]
    omega
  | b :: P, h, h0 => by
    have hc0 : c ≠ 0 := by
      rcases h0 with h0 | h0
      · exact h0
      · cases h0
    have hp := vl_pos c (by omega) P
    have hb := h b (by simp)
    have ih := varN_good c hc P (fun x hx => h x (by simp [hx])) (.inl hc0)
    simp only [List.cons_append, vl]
    rw [varN_big (by omega)]
    have e1 : (b % 128 + 128 * vl (P ++ [c])) % 128 + 128 = b := by omega
    have e2 : (b % 128 + 128 * vl (P ++ [c])) / 128 = vl (P ++ [c]) := by omega
    rw [e1, e2, ih]
    rfl
theorem varN_bad (P : List Nat) (hP : P ≠ []) : varN (vl (P ++ [0])) ≠ ci (P ++ [0]) := by
  intro h
  have hl : (varN (vl (P ++ [0]))).length = P.length + 1 := by rw [h]; simp [ci]
  obtain ⟨k, hk⟩ : ∃ k, P.length = k + 1 := ⟨P.length - 1, by have := List.length_pos_iff.2 hP; omega⟩
  have hv : vl (P ++ [0]) < 128 ^ (k + 1) := by
    rw [vl_app, ← hk]
    have := vl_lt P
    omega
  have := varN_len k _ hv
  omega
theorem varN_range (n : Nat) : ∀ x ∈ varN n, 0 ≤ x ∧ x < 256 := by
  induction n using Nat.strongRecOn with
  | _ n ih =>
    intro x hx
    by_cases h : 127 < n
    · rw [varN_big h] at hx
      rcases List.mem_cons.1 hx with rfl | hx
      · omega
      · exact ih (n / 128) (by omega) x hx
    · rw [varN_small h] at hx
      simp at hx
      omega
theorem ext_ci (z : ByteArray) (a i : Nat) (P : List Nat) (c : Nat) (hP : ((nums z).drop a).take i = ci P) (hl : P.length = i) (hin : a + i < z.size) (hc : byteAt z (a + i) = (c : Int)) : ((nums z).drop a).take (i + 1) = ci (P ++ [c]) := by
  have h : i < ((nums z).drop a).length := by rw [List.length_drop, nums_len]; omega
  rw [List.take_add_one, hP, List.getElem?_eq_getElem h]
  have e : ((nums z).drop a)[i] = byteAt z (a + i) := by
    rw [byteAt_nums, List.getElem_drop, List.getD_eq_getElem?_getD, List.getElem?_eq_getElem (by rw [nums_len]; omega)]
    rfl
  rw [e, hc]
  simp [ci]
theorem ext_nums (z : ByteArray) (a k : Nat) : nums (z.extract a (a + k)) = ((nums z).drop a).take k := by
  rw [nums_extract, List.drop_take, Nat.add_sub_cancel_left]
theorem rvS (z : ByteArray) (a : Nat) (ha : a ≤ z.size) (hz : z.size ≤ 1000000000) : Fn Try.prog 96 [.sc (.string z), .sc (.int .i64 a)] (rvV (rdv z a 5 0 0)) := by
  refine Fn.run 58 [.tmp 4, .tmp 5, .tmp 6] Try.func96 rfl rfl rfl rfl (by simp) (flats_cons (.sc _) (flats_cons (.sc _) flats_nil)) (rvV_flat _) ?_
  generalize hR : rdv z a 5 0 0 = R
  simp -implicitDefEqProofs only [↓w_seq, ↓w_region, ↓ops_cons, ↓g_assign, ↓ops_nil, ev_const, of_int, of_bool, ↓g_move, ↓g_len, Try.underlying9, Nat.reduceLT, ev_tab, ne_eq, Nat.reduceEqDiff, not_false_eq_true, upd_ne, par1, reduceCtorEq, par0, upd_eq, len_str, onS_some]
  refine call1 (by simp -implicitDefEqProofs only [List.map_cons, Nat.reduceLT, ev_tab, ne_eq, Nat.reduceEqDiff, not_false_eq_true, upd_ne, upd_eq, ev_const, of_int, List.map_nil] <;> rfl) (inS _ 0 _) ?_
  rw [decide_eq_true (p := 0 ≤ (a : Int) ∧ (a : Int) ≤ (z.size : Int)) (by omega)]
  simp -implicitDefEqProofs only [↓ops_cons, ↓g_unOp, Nat.reduceLT, ev_tab, upd_eq, u_not, Bool.not_true, Option.map_some, ↓ops_nil, ↓w_cond, ↓w_seq, ↓w_region, ↓g_assign, ↓w_ret, ev_const, of_int, of_bool, ret_three, ne_eq, Nat.reduceEqDiff, not_false_eq_true, upd_ne, ↓w_skip, ↓g_move, ↓w_block, par1, onS_some, onB_false]
  refine w_loop (ι := Nat) (fun i s => ∃ (T : Nat → AV) (H : AHeap) (P : List Nat), s = ⟨tab 58 T, H⟩ ∧ i ≤ 5 ∧ a + i ≤ z.size ∧ P.length = i ∧ (∀ b ∈ P, 128 ≤ b ∧ b < 256) ∧ ((nums z).drop a).take i = ci P ∧ rdv z a (5 - i) i (vl P) = R ∧ T 0 = .sc (.string z) ∧ T 1 = .sc (.int .i64 a) ∧ T 7 = .sc (.int .i64 (vl P)) ∧ T 8 = .sc (.int .i64 ((128 ^ i : Nat) : Int)) ∧ T 9 = .sc (.int .i64 ((a + i : Nat) : Int))) (fun i => 5 - i) ?_ (i := 0) ?_
  · rintro i s ⟨T, H, P, rfl, a1, a1b, hPl, hPr, hPe, a3, a4, a5, a6, a7, a8⟩
    have e5 : IntKind.i64.wrap ((a : Int) + 5) = ((a + 5 : Nat) : Int) := by rw [w64 (by omega) (by omega)]; omega
    have e9 : IntKind.i64.wrap (((a + i : Nat) : Int) + 1) = ((a + (i + 1) : Nat) : Int) := by rw [w64 (by omega) (by omega)]; omega
    by_cases hi : i < 5
    · have k1 : ((a + i : Nat) : Int) < ((a + 5 : Nat) : Int) := by omega
      obtain ⟨f, hf⟩ : ∃ f, 5 - i = f + 1 := ⟨4 - i, by omega⟩
      have hf2 : 5 - (i + 1) = f := by omega
      rw [hf, rdv] at a3
      by_cases hin : a + i < z.size
      · have k2 : ((a + i : Nat) : Int) < z.size := by omega
        rw [if_pos hin] at a3
        obtain ⟨hb, hb2⟩ := bN_i z (a + i)
        obtain ⟨p1, p2, p3⟩ := pw7 i hi
        have hvl := vl_lt P
        rw [hPl] at hvl
        generalize hc : bN z (a + i) = c at *
        have hva : vl (P ++ [c]) = vl P + c % 128 * 128 ^ i := by rw [vl_app, hPl]
        have hex := ext_ci z a i P c hPe hPl hin hb
        have k3 : (0 : Int) ≤ ((a + i : Nat) : Int) := by omega
        have e2 : IntKind.i64.wrap (c : Int) = c := w64 (by omega) (by omega)
        have e3 : ((c : Int)).tmod 128 = ((c % 128 : Nat) : Int) := by rw [Int.tmod_eq_emod_of_nonneg (by omega)]; omega
        have hm : c % 128 * 128 ^ i ≤ 127 * 268435456 := Nat.mul_le_mul (by omega) p2
        have e6 : IntKind.i64.wrap (((c % 128 : Nat) : Int) * ((128 ^ i : Nat) : Int)) = ((c % 128 * 128 ^ i : Nat) : Int) := by
          rw [← Int.natCast_mul, w64 (by omega) (by omega)]
        have e7 : IntKind.i64.wrap ((vl P : Int) + ((c % 128 * 128 ^ i : Nat) : Int)) = ((vl (P ++ [c]) : Nat) : Int) := by rw [hva, w64 (by omega) (by omega)]; omega
        have e10 : IntKind.i64.wrap (((128 ^ i : Nat) : Int) * 128) = ((128 ^ (i + 1) : Nat) : Int) := by
          rw [Nat.pow_succ, w64 (by omega) (by omega)]
          omega
        rw [← hva] at a3
        by_cases hbig : 127 < c
        · have k5 : ¬ (c : Int) < 128 := by omega
          rw [if_pos hbig] at a3
          simp -implicitDefEqProofs only [↓w_seq, ↓w_region, ↓ops_cons, ↓g_move, ↓g_len, Try.underlying9, Nat.reduceLT, ev_tab, a8, ne_eq, reduceCtorEq, not_false_eq_true, upd_ne, a4, upd_eq, len_str, ↓g_binOp, Nat.reduceEqDiff, onS_some, b_lss, k2, decide_true, yielded_tab, dstAt_s, dstAt_0, ybv_some, boolOf_b, ↓g_guard_t, a5, ev_const, of_int, b_add, e5, ↓g_pick, of_bool, pick_b, if_true, ↓ops_nil, ↓w_cond, ↓w_skip, ↓w_block, ↓g_index, a6, idx_str, k3, Int.toNat_natCast, hin, and_self, hb, ↓g_convert, Try.underlying5, Try.underlying3, a7, ↓g_assign, b_mul, e10, e9, k5, decide_false, onB_false, c_int, e2, b_rem, Int.reduceEq, e3, if_false, e6, e7, ↓w_exit, ↓w_ret, ret_three, k1, onB_true]
          refine ⟨i + 1, by omega, _, _, P ++ [c], rfl, by omega, by omega, by simp [hPl], ?_, hex, by rw [hf2]; exact a3, ?_, ?_, ?_, ?_, ?_⟩
          · intro x hx
            rcases List.mem_append.1 hx with hx | hx
            · exact hPr x hx
            · simp at hx
              omega
          all_goals (simp -implicitDefEqProofs only [ne_eq, reduceCtorEq, not_false_eq_true, upd_ne, a4, Nat.reduceEqDiff, a5, upd_eq] <;> rfl)
        · have k5 : (c : Int) < 128 := by omega
          rw [if_neg hbig] at a3
          simp -implicitDefEqProofs only [↓w_seq, ↓w_region, ↓ops_cons, ↓g_move, ↓g_len, Try.underlying9, Nat.reduceLT, ev_tab, a8, ne_eq, reduceCtorEq, not_false_eq_true, upd_ne, a4, upd_eq, len_str, ↓g_binOp, Nat.reduceEqDiff, onS_some, b_lss, k2, decide_true, yielded_tab, dstAt_s, dstAt_0, ybv_some, boolOf_b, ↓g_guard_t, a5, ev_const, of_int, b_add, e5, ↓g_pick, of_bool, pick_b, if_true, ↓ops_nil, ↓w_cond, ↓w_skip, ↓w_block, ↓g_index, a6, idx_str, k3, Int.toNat_natCast, hin, and_self, hb, ↓g_convert, Try.underlying5, Try.underlying3, a7, ↓g_assign, b_mul, e10, e9, k5, onB_true, c_int, e2, b_rem, Int.reduceEq, e3, if_false, e6, e7, ↓w_exit, ↓w_ret, ret_three, k1]
          refine drawn [] follows (by kernel_rfl) (by kernel_rfl) ?_
          by_cases h1 : 1000000000 < vl (P ++ [c])
          · rw [if_pos (.inr h1)] at a3
            have k8 : (1000000000 : Int) < ((vl (P ++ [c]) : Nat) : Int) := by omega
            subst a3
            simp -implicitDefEqProofs only [↓dops_cons, ↓g_move, ↓g_binOp, Nat.reduceLT, ev_tab, ne_eq, Nat.reduceEqDiff, not_false_eq_true, upd_ne, upd_eq, ev_const, of_int, b_gtr, k8, decide_true, onS_some, yielded_tab, dstAt_s, dstAt_0, ybv_some, boolOf_b, Bool.not_false, ↓g_guard_f, ↓g_pick, of_bool, pick_b, if_true, ↓dops_0, ↓w_cond, ↓w_seq, ↓w_region, ↓ops_cons, ↓g_assign, ↓ops_nil, ↓w_ret, ret_three, ↓w_skip, onB_true]
            try rfl
          · have k8 : ¬ (1000000000 : Int) < ((vl (P ++ [c]) : Nat) : Int) := by omega
            simp -implicitDefEqProofs only [↓dops_cons, ↓g_move, ↓g_binOp, Nat.reduceLT, ev_tab, ne_eq, Nat.reduceEqDiff, not_false_eq_true, upd_ne, upd_eq, ev_const, of_int, b_gtr, k8, decide_false, onS_some, yielded_tab, dstAt_s, dstAt_0, ybv_some, boolOf_b, ↓g_guard_t]
            refine call1 (by simp -implicitDefEqProofs only [List.map_cons, Nat.reduceLT, ev_tab, upd_eq, List.map_nil] <;> rfl) (varS (vl (P ++ [c])) (by omega)) ?_
            have q1 : (0 : Int) ≤ (a : Int) := by omega
            have q2 : (0 : Int) ≤ ((a + (i + 1) : Nat) : Int) := by omega
            have q3 : a ≤ a + (i + 1) := by omega
            have q4 : a + (i + 1) ≤ z.size := by omega
            have hnx : nums (z.extract a (a + (i + 1))) = ci (P ++ [c]) := by rw [ext_nums]; exact hex
            by_cases h0 : 0 < i ∧ c = 0
            · rw [if_pos (.inl h0)] at a3
              subst a3
              have hne : ((varT (vl (P ++ [c]))).toList == (z.extract a (a + (i + 1))).toList) = false := by
                rw [beq_eq_false_iff_ne]
                intro he
                have he2 := toL_inj.1 he
                have he3 : nums (varT (vl (P ++ [c]))) = ci (P ++ [c]) := by rw [he2, hnx]
                rw [varT, nums_son (varN_range _), h0.2] at he3
                exact varN_bad P (by intro hn; rw [hn] at hPl; simp at hPl; omega) he3
              simp -implicitDefEqProofs only [↓dops_cons, yielded_tab, dstAt_s, dstAt_0, Nat.reduceLT, ybv_some, ne_eq, Nat.reduceEqDiff, not_false_eq_true, upd_ne, upd_eq, boolOf_b, ↓g_guard_t, ↓g_move, ev_tab, reduceCtorEq, a4, a5, a8, ↓g_binOp, ev_const, of_int, b_add, e9, ↓g_slice, Try.underlying9, Option.map_some, cut_str, bnd_int, q1, Int.toNat_natCast, if_true, ↓g_pick, of_bool, pick_b, Bool.false_eq_true, if_false, ↓dops_0, ↓w_cond, ↓w_seq, ↓w_region, ↓ops_cons, ↓g_assign, ↓ops_nil, ↓w_ret, ret_three, ↓w_skip, onS_some, q2, cutS_some, q3, q4, and_self, t_neq, hne, Bool.not_false, onB_true]
              try rfl
            · rw [if_neg (fun x => x.elim h0 h1)] at a3
              subst a3
              have hg : c ≠ 0 ∨ P = [] := by
                by_cases hi0 : 0 < i
                · exact .inl fun hc0 => h0 ⟨hi0, hc0⟩
                · exact .inr (List.eq_nil_of_length_eq_zero (by omega))
              have heq : varT (vl (P ++ [c])) = z.extract a (a + (i + 1)) := by
                apply nums_inj
                rw [varT, nums_son (varN_range _), hnx]
                exact varN_good c (by omega) P hPr hg
              rw [heq]
              simp -implicitDefEqProofs only [↓dops_cons, yielded_tab, dstAt_s, dstAt_0, Nat.reduceLT, ybv_some, ne_eq, Nat.reduceEqDiff, not_false_eq_true, upd_ne, upd_eq, boolOf_b, ↓g_guard_t, ↓g_move, ev_tab, reduceCtorEq, a4, a5, a8, ↓g_binOp, ev_const, of_int, b_add, e9, ↓g_slice, Try.underlying9, Option.map_some, cut_str, bnd_int, q1, Int.toNat_natCast, if_true, ↓g_pick, of_bool, pick_b, Bool.false_eq_true, if_false, ↓dops_0, ↓w_cond, ↓w_seq, ↓w_region, ↓ops_cons, ↓g_assign, ↓ops_nil, ↓w_ret, ret_three, ↓w_skip, onS_some, q2, cutS_some, q3, q4, and_self, t_neq, beq_self_eq_true, Bool.not_true, onB_false]
              try rfl
      · have k2 : ¬ ((a + i : Nat) : Int) < z.size := by omega
        rw [if_neg hin] at a3
        subst a3
        simp -implicitDefEqProofs only [↓w_seq, ↓w_region, ↓ops_cons, ↓g_move, ↓g_len, Try.underlying9, Nat.reduceLT, ev_tab, a8, ne_eq, reduceCtorEq, not_false_eq_true, upd_ne, a4, upd_eq, len_str, ↓g_binOp, Nat.reduceEqDiff, onS_some, b_lss, k2, decide_false, yielded_tab, dstAt_s, dstAt_0, ybv_some, boolOf_b, Bool.not_true, ↓g_guard_f, ↓g_pick, ev_const, of_bool, pick_b, Bool.false_eq_true, if_false, ↓ops_nil, ↓w_cond, ↓w_skip, ↓w_block, ↓g_index, a6, idx_str, ↓g_convert, Try.underlying5, Try.underlying3, of_int, a7, ↓g_assign, b_mul, b_add, onS_ite, onB_dec, c_int, b_rem, Int.reduceEq, ↓w_exit, ↓w_ret, ret_three, if_true, onB_false]
        try rfl
    · have k1 : ¬ ((a + i : Nat) : Int) < ((a + 5 : Nat) : Int) := by omega
      have hi5 : i = 5 := by omega
      subst hi5
      have hRn : R = none := a3.symm
      subst hRn
      by_cases hin : a + 5 < z.size
      · have k2 : ((a + 5 : Nat) : Int) < z.size := by omega
        simp -implicitDefEqProofs only [↓w_seq, ↓w_region, Nat.reduceSub, ↓ops_cons, ↓g_move, ↓g_len, Try.underlying9, Nat.reduceLT, ev_tab, a8, ne_eq, reduceCtorEq, not_false_eq_true, upd_ne, a4, upd_eq, len_str, ↓g_binOp, Nat.reduceEqDiff, onS_some, b_lss, k2, decide_true, yielded_tab, dstAt_s, dstAt_0, ybv_some, boolOf_b, ↓g_guard_t, a5, ev_const, of_int, b_add, e5, ↓g_pick, of_bool, pick_b, if_true, ↓ops_nil, ↓w_cond, ↓w_skip, ↓w_block, ↓g_index, a6, idx_str, ↓g_convert, Try.underlying5, Try.underlying3, a7, Nat.reducePow, Int.cast_ofNat_Int, ↓g_assign, b_mul, Int.reduceMul, onS_ite, onB_dec, c_int, b_rem, Int.reduceEq, if_false, ↓w_exit, ↓w_ret, ret_three, k1, decide_false, onB_false]
        try rfl
      · have k2 : ¬ ((a + 5 : Nat) : Int) < z.size := by omega
        simp -implicitDefEqProofs only [↓w_seq, ↓w_region, Nat.reduceSub, ↓ops_cons, ↓g_move, ↓g_len, Try.underlying9, Nat.reduceLT, ev_tab, a8, ne_eq, reduceCtorEq, not_false_eq_true, upd_ne, a4, upd_eq, len_str, ↓g_binOp, Nat.reduceEqDiff, onS_some, b_lss, k2, decide_false, yielded_tab, dstAt_s, dstAt_0, ybv_some, boolOf_b, Bool.not_true, ↓g_guard_f, ↓g_pick, ev_const, of_bool, pick_b, Bool.false_eq_true, if_false, ↓ops_nil, ↓w_cond, ↓w_skip, ↓w_block, ↓g_index, a6, idx_str, ↓g_convert, Try.underlying5, Try.underlying3, of_int, a7, Nat.reducePow, Int.cast_ofNat_Int, ↓g_assign, b_mul, Int.reduceMul, b_add, onS_ite, onB_dec, c_int, b_rem, Int.reduceEq, ↓w_exit, ↓w_ret, ret_three, if_true, onB_false]
        try rfl
  · refine ⟨_, _, [], rfl, by omega, by omega, rfl, by simp, rfl, hR, ?_, ?_, ?_, ?_, ?_⟩ <;> simp -implicitDefEqProofs only [ne_eq, reduceCtorEq, not_false_eq_true, upd_ne, par0, Nat.reduceEqDiff, par1, upd_eq, Nat.reducePow, Int.cast_ofNat_Int] <;> rfl
end Go.Proofs.Ytknmbiebnpojjaa.Sim
namespace Go.Proofs.Ytknmbiebnpojjaa.Sim
open Go
set_option maxRecDepth 100000
set_option maxHeartbeats 40000000
set_option linter.unusedSimpArgs false
set_option linter.unusedVariables false
set_option linter.unusedSectionVars false
theorem rdv_le (z : ByteArray) (a : Nat) : ∀ f i n m k, rdv z a f i n = some (m, k) → k ≤ z.size ∧ m ≤ 1000000000
  | 0, i, n, m, k, h => by cases h
  | f + 1, i, n, m, k, h => by
    rw [rdv] at h
    split at h
    · rename_i hin
      split at h
      · exact rdv_le z a f _ _ _ _ h
      · split at h
        · cases h
        · rename_i hno
          simp only [Option.some.injEq, Prod.mk.injEq] at h
          obtain ⟨rfl, rfl⟩ := h
          have : ¬ 1000000000 < n + bN z (a + i) % 128 * 128 ^ i := fun q => hno (.inr q)
          omega
    · cases h
theorem rdv_num (z : ByteArray) (a : Nat) : ∀ f i n m k, rdv z a f i n = some (m, k) → ∃ q, m = n + 128 ^ i * q ∧ k = a + i + (varN q).length ∧ (i = 0 ∨ q ≠ 0)
  | 0, i, n, m, k, h => by cases h
  | f + 1, i, n, m, k, h => by
    rw [rdv] at h
    split at h
    · rename_i hin
      generalize hc : bN z (a + i) = c at *
      split at h
      · rename_i hbig
        obtain ⟨q, h1, h2, h3⟩ := rdv_num z a f _ _ _ _ h
        have hq : q ≠ 0 := by
          rcases h3 with h3 | h3
          · omega
          · exact h3
        refine ⟨c % 128 + 128 * q, ?_, ?_, .inr (by omega)⟩
        · rw [h1, Nat.pow_succ, Nat.mul_add, Nat.mul_comm (128 ^ i) (c % 128), Nat.mul_assoc]
          omega
        · have e2 : (c % 128 + 128 * q) / 128 = q := by omega
          rw [varN_big (by omega), e2, List.length_cons]
          omega
      · split at h
        · cases h
        · rename_i hbig hno
          simp only [Option.some.injEq, Prod.mk.injEq] at h
          obtain ⟨rfl, rfl⟩ := h
          refine ⟨c % 128, by rw [Nat.mul_comm], ?_, ?_⟩
          · rw [varN_small (by omega)]
            simp
          · by_cases hi : i = 0
            · exact .inl hi
            · refine .inr fun h0 => hno (.inl ⟨by omega, by omega⟩)
    · cases h
theorem rdv_len {z : ByteArray} {a n k : Nat} (h : rdv z a 5 0 0 = some (n, k)) : k = a + (varN n).length := by
  obtain ⟨q, h1, h2, h3⟩ := rdv_num z a _ _ _ _ _ h
  have : n = q := by omega
  rw [this, h2]
  omega
def rsh (z : ByteArray) (a : Nat) : Option (ByteArray × Nat) :=
  match rdv z a 5 0 0 with
  | some (n, k) => if 20000 < n ∨ z.size < k + n then none else some (z.extract k (k + n), k + n)
  | none => none
def rsV (r : Option (ByteArray × Nat)) : AV :=
  match r with
  | some (d, k) => .tup [.sc (.string d), .sc (.int .i64 k), .sc (.bool true)]
  | none => .tup [.sc (.string ByteArray.empty), .sc (.int .i64 0), .sc (.bool false)]
theorem rsV_flat (r : Option (ByteArray × Nat)) : Flat (rsV r) := by
  unfold rsV
  split <;> exact .tup (flats_cons (.sc _) (flats_cons (.sc _) (flats_cons (.sc _) flats_nil)))
theorem rvV_some {r : Option (Nat × Nat)} {n k : Nat} (h : r = some (n, k)) : rvV r = .tup [.sc (.int .i64 n), .sc (.int .i64 k), .sc (.bool true)] := by rw [h]; rfl
theorem rvV_none {r : Option (Nat × Nat)} (h : r = none) : rvV r = .tup [.sc (.int .i64 0), .sc (.int .i64 0), .sc (.bool false)] := by rw [h]; rfl
theorem rshI (z : ByteArray) (a : Nat) (ha : a ≤ z.size) (hz : z.size ≤ 1000000000) : Fn Try.prog 89 [.sc (.string z), .sc (.int .i64 a)] (rsV (rsh z a)) := by
  have c := rvI z a ha hz
  cases hr : rdv z a 5 0 0 with
  | none =>
    rw [rvV_none hr] at c
    have hv : rsh z a = none := by simp only [rsh, hr]
    rw [hv]
    refine Fn.run 40 [.tmp 4, .tmp 5, .tmp 6] Try.func89 rfl rfl rfl rfl (by simp) (flats_cons (.sc _) (flats_cons (.sc _) flats_nil)) (rsV_flat _) ?_
    simp -implicitDefEqProofs only [↓w_seq, ↓w_region, ↓ops_cons, ↓g_assign, ↓ops_nil, ev_const, of_str, of_int, of_bool, ↓g_move, Nat.reduceLT, ev_tab, ne_eq, reduceCtorEq, not_false_eq_true, upd_ne, par0, Nat.reduceEqDiff, par1]
    refine call1 (by simp -implicitDefEqProofs only [List.map_cons, Nat.reduceLT, ev_tab, ne_eq, Nat.reduceEqDiff, not_false_eq_true, upd_ne, upd_eq, List.map_nil] <;> rfl) c ?_
    simp -implicitDefEqProofs only [↓ops_cons, ↓g_move, ↓g_extract, Nat.reduceLT, ev_tab, upd_eq, ext_0, ne_eq, Nat.reduceEqDiff, not_false_eq_true, upd_ne, ext_1, ext_2, ↓g_assign, ↓ops_nil, ↓w_seq, ↓w_region, ↓g_unOp, onS_some, u_not, Bool.not_false, Option.map_some, yielded_tab, dstAt_s, dstAt_0, ybv_some, boolOf_b, ↓g_guard_f, ↓g_pick, ev_const, of_bool, pick_b, if_true, ↓w_cond, ↓w_ret, of_str, of_int, ret_three, ↓w_skip, ↓g_binOp, reduceCtorEq, par0, ↓g_slice, Try.underlying9, cut_str, onB_true]
    rfl
  | some p =>
    obtain ⟨n, k⟩ := p
    rw [rvV_some hr] at c
    obtain ⟨hk, hn⟩ := rdv_le z a _ _ _ _ _ hr
    have e1 : IntKind.i64.wrap ((z.size : Int) - k) = z.size - k := w64 (by omega) (by omega)
    have e2 : IntKind.i64.wrap ((k : Int) + n) = ((k + n : Nat) : Int) := by rw [w64 (by omega) (by omega)]; omega
    by_cases h1 : 20000 < n
    · have k1 : (20000 : Int) < n := by omega
      have hv : rsh z a = none := by simp only [rsh, hr]; rw [if_pos (.inl h1)]
      rw [hv]
      refine Fn.run 40 [.tmp 4, .tmp 5, .tmp 6] Try.func89 rfl rfl rfl rfl (by simp) (flats_cons (.sc _) (flats_cons (.sc _) flats_nil)) (rsV_flat _) ?_
      simp -implicitDefEqProofs only [↓w_seq, ↓w_region, ↓ops_cons, ↓g_assign, ↓ops_nil, ev_const, of_str, of_int, of_bool, ↓g_move, Nat.reduceLT, ev_tab, ne_eq, reduceCtorEq, not_false_eq_true, upd_ne, par0, Nat.reduceEqDiff, par1]
      refine call1 (by simp -implicitDefEqProofs only [List.map_cons, Nat.reduceLT, ev_tab, ne_eq, Nat.reduceEqDiff, not_false_eq_true, upd_ne, upd_eq, List.map_nil] <;> rfl) c ?_
      simp -implicitDefEqProofs only [↓ops_cons, ↓g_move, ↓g_extract, Nat.reduceLT, ev_tab, upd_eq, ext_0, ne_eq, Nat.reduceEqDiff, not_false_eq_true, upd_ne, ext_1, ext_2, ↓g_assign, ↓ops_nil, ↓w_seq, ↓w_region, ↓g_unOp, onS_some, u_not, Bool.not_true, Option.map_some, yielded_tab, dstAt_s, dstAt_0, ybv_some, boolOf_b, ↓g_guard_t, ↓g_binOp, ev_const, of_int, ↓g_pick, of_bool, pick_b, Bool.false_eq_true, if_false, b_gtr, k1, decide_true, Bool.not_false, ↓g_guard_f, if_true, ↓w_cond, ↓w_ret, of_str, ret_three, ↓w_skip, reduceCtorEq, par0, b_add, ↓g_slice, Try.underlying9, cut_str, bnd_int, onB_true]
      rfl
    · have k1 : ¬ (20000 : Int) < n := by omega
      by_cases h2 : z.size < k + n
      · have k2 : (z.size : Int) - k < n := by omega
        have hv : rsh z a = none := by simp only [rsh, hr]; rw [if_pos (.inr h2)]
        rw [hv]
        refine Fn.run 40 [.tmp 4, .tmp 5, .tmp 6] Try.func89 rfl rfl rfl rfl (by simp) (flats_cons (.sc _) (flats_cons (.sc _) flats_nil)) (rsV_flat _) ?_
        simp -implicitDefEqProofs only [↓w_seq, ↓w_region, ↓ops_cons, ↓g_assign, ↓ops_nil, ev_const, of_str, of_int, of_bool, ↓g_move, Nat.reduceLT, ev_tab, ne_eq, reduceCtorEq, not_false_eq_true, upd_ne, par0, Nat.reduceEqDiff, par1]
        refine call1 (by simp -implicitDefEqProofs only [List.map_cons, Nat.reduceLT, ev_tab, ne_eq, Nat.reduceEqDiff, not_false_eq_true, upd_ne, upd_eq, List.map_nil] <;> rfl) c ?_
        simp -implicitDefEqProofs only [↓ops_cons, ↓g_move, ↓g_extract, Nat.reduceLT, ev_tab, upd_eq, ext_0, ne_eq, Nat.reduceEqDiff, not_false_eq_true, upd_ne, ext_1, ext_2, ↓g_assign, ↓ops_nil, ↓w_seq, ↓w_region, ↓g_unOp, onS_some, u_not, Bool.not_true, Option.map_some, yielded_tab, dstAt_s, dstAt_0, ybv_some, boolOf_b, ↓g_guard_t, ↓g_binOp, ev_const, of_int, ↓g_pick, of_bool, pick_b, Bool.false_eq_true, if_false, b_gtr, k1, decide_false, reduceCtorEq, par0, ↓g_len, Try.underlying9, len_str, ↓w_cond, ↓w_ret, of_str, ret_three, ↓w_skip, b_add, ↓g_slice, cut_str, bnd_int, b_sub, e1, k2, decide_true, onB_true]
        rfl
      · have k2 : ¬ (z.size : Int) - k < n := by omega
        have hv : rsh z a = some (z.extract k (k + n), k + n) := by simp only [rsh, hr]; rw [if_neg (fun x => x.elim h1 h2)]
        rw [hv]
        have q1 : (0 : Int) ≤ (k : Int) := by omega
        have q2 : (0 : Int) ≤ ((k + n : Nat) : Int) := by omega
        have q3 : k ≤ k + n := by omega
        have q4 : k + n ≤ z.size := by omega
        refine Fn.run 40 [.tmp 4, .tmp 5, .tmp 6] Try.func89 rfl rfl rfl rfl (by simp) (flats_cons (.sc _) (flats_cons (.sc _) flats_nil)) (rsV_flat _) ?_
        simp -implicitDefEqProofs only [↓w_seq, ↓w_region, ↓ops_cons, ↓g_assign, ↓ops_nil, ev_const, of_str, of_int, of_bool, ↓g_move, Nat.reduceLT, ev_tab, ne_eq, reduceCtorEq, not_false_eq_true, upd_ne, par0, Nat.reduceEqDiff, par1]
        refine call1 (by simp -implicitDefEqProofs only [List.map_cons, Nat.reduceLT, ev_tab, ne_eq, Nat.reduceEqDiff, not_false_eq_true, upd_ne, upd_eq, List.map_nil] <;> rfl) c ?_
        simp -implicitDefEqProofs only [↓ops_cons, ↓g_move, ↓g_extract, Nat.reduceLT, ev_tab, upd_eq, ext_0, ne_eq, Nat.reduceEqDiff, not_false_eq_true, upd_ne, ext_1, ext_2, ↓g_assign, ↓ops_nil, ↓w_seq, ↓w_region, ↓g_unOp, onS_some, u_not, Bool.not_true, Option.map_some, yielded_tab, dstAt_s, dstAt_0, ybv_some, boolOf_b, ↓g_guard_t, ↓g_binOp, ev_const, of_int, ↓g_pick, of_bool, pick_b, Bool.false_eq_true, if_false, b_gtr, k1, decide_false, reduceCtorEq, par0, ↓g_len, Try.underlying9, len_str, ↓w_cond, ↓w_ret, of_str, ret_three, ↓w_skip, b_add, e2, ↓g_slice, cut_str, bnd_int, q1, Int.toNat_natCast, if_true, q2, cutS_some, q3, q4, and_self, b_sub, e1, k2, onB_false]
        try rfl
theorem rshS (z : ByteArray) (a : Nat) (ha : a ≤ z.size) (hz : z.size ≤ 1000000000) : Fn Try.prog 97 [.sc (.string z), .sc (.int .i64 a)] (rsV (rsh z a)) := by
  have c := rvS z a ha hz
  cases hr : rdv z a 5 0 0 with
  | none =>
    rw [rvV_none hr] at c
    have hv : rsh z a = none := by simp only [rsh, hr]
    rw [hv]
    refine Fn.run 40 [.tmp 4, .tmp 5, .tmp 6] Try.func97 rfl rfl rfl rfl (by simp) (flats_cons (.sc _) (flats_cons (.sc _) flats_nil)) (rsV_flat _) ?_
    simp -implicitDefEqProofs only [↓w_seq, ↓w_region, ↓ops_cons, ↓g_assign, ↓ops_nil, ev_const, of_str, of_int, of_bool, ↓g_move, Nat.reduceLT, ev_tab, ne_eq, reduceCtorEq, not_false_eq_true, upd_ne, par0, Nat.reduceEqDiff, par1]
    refine call1 (by simp -implicitDefEqProofs only [List.map_cons, Nat.reduceLT, ev_tab, ne_eq, Nat.reduceEqDiff, not_false_eq_true, upd_ne, upd_eq, List.map_nil] <;> rfl) c ?_
    simp -implicitDefEqProofs only [↓ops_cons, ↓g_move, ↓g_extract, Nat.reduceLT, ev_tab, upd_eq, ext_0, ne_eq, Nat.reduceEqDiff, not_false_eq_true, upd_ne, ext_1, ext_2, ↓g_assign, ↓ops_nil, ↓w_seq, ↓w_region, ↓g_unOp, onS_some, u_not, Bool.not_false, Option.map_some, yielded_tab, dstAt_s, dstAt_0, ybv_some, boolOf_b, ↓g_guard_f, ↓g_pick, ev_const, of_bool, pick_b, if_true, ↓w_cond, ↓w_ret, of_str, of_int, ret_three, ↓w_skip, ↓g_binOp, reduceCtorEq, par0, ↓g_slice, Try.underlying9, cut_str, onB_true]
    rfl
  | some p =>
    obtain ⟨n, k⟩ := p
    rw [rvV_some hr] at c
    obtain ⟨hk, hn⟩ := rdv_le z a _ _ _ _ _ hr
    have e1 : IntKind.i64.wrap ((z.size : Int) - k) = z.size - k := w64 (by omega) (by omega)
    have e2 : IntKind.i64.wrap ((k : Int) + n) = ((k + n : Nat) : Int) := by rw [w64 (by omega) (by omega)]; omega
    by_cases h1 : 20000 < n
    · have k1 : (20000 : Int) < n := by omega
      have hv : rsh z a = none := by simp only [rsh, hr]; rw [if_pos (.inl h1)]
      rw [hv]
      refine Fn.run 40 [.tmp 4, .tmp 5, .tmp 6] Try.func97 rfl rfl rfl rfl (by simp) (flats_cons (.sc _) (flats_cons (.sc _) flats_nil)) (rsV_flat _) ?_
      simp -implicitDefEqProofs only [↓w_seq, ↓w_region, ↓ops_cons, ↓g_assign, ↓ops_nil, ev_const, of_str, of_int, of_bool, ↓g_move, Nat.reduceLT, ev_tab, ne_eq, reduceCtorEq, not_false_eq_true, upd_ne, par0, Nat.reduceEqDiff, par1]
      refine call1 (by simp -implicitDefEqProofs only [List.map_cons, Nat.reduceLT, ev_tab, ne_eq, Nat.reduceEqDiff, not_false_eq_true, upd_ne, upd_eq, List.map_nil] <;> rfl) c ?_
      simp -implicitDefEqProofs only [↓ops_cons, ↓g_move, ↓g_extract, Nat.reduceLT, ev_tab, upd_eq, ext_0, ne_eq, Nat.reduceEqDiff, not_false_eq_true, upd_ne, ext_1, ext_2, ↓g_assign, ↓ops_nil, ↓w_seq, ↓w_region, ↓g_unOp, onS_some, u_not, Bool.not_true, Option.map_some, yielded_tab, dstAt_s, dstAt_0, ybv_some, boolOf_b, ↓g_guard_t, ↓g_binOp, ev_const, of_int, ↓g_pick, of_bool, pick_b, Bool.false_eq_true, if_false, b_gtr, k1, decide_true, Bool.not_false, ↓g_guard_f, if_true, ↓w_cond, ↓w_ret, of_str, ret_three, ↓w_skip, reduceCtorEq, par0, b_add, ↓g_slice, Try.underlying9, cut_str, bnd_int, onB_true]
      rfl
    · have k1 : ¬ (20000 : Int) < n := by omega
      by_cases h2 : z.size < k + n
      · have k2 : (z.size : Int) - k < n := by omega
        have hv : rsh z a = none := by simp only [rsh, hr]; rw [if_pos (.inr h2)]
        rw [hv]
        refine Fn.run 40 [.tmp 4, .tmp 5, .tmp 6] Try.func97 rfl rfl rfl rfl (by simp) (flats_cons (.sc _) (flats_cons (.sc _) flats_nil)) (rsV_flat _) ?_
        simp -implicitDefEqProofs only [↓w_seq, ↓w_region, ↓ops_cons, ↓g_assign, ↓ops_nil, ev_const, of_str, of_int, of_bool, ↓g_move, Nat.reduceLT, ev_tab, ne_eq, reduceCtorEq, not_false_eq_true, upd_ne, par0, Nat.reduceEqDiff, par1]
        refine call1 (by simp -implicitDefEqProofs only [List.map_cons, Nat.reduceLT, ev_tab, ne_eq, Nat.reduceEqDiff, not_false_eq_true, upd_ne, upd_eq, List.map_nil] <;> rfl) c ?_
        simp -implicitDefEqProofs only [↓ops_cons, ↓g_move, ↓g_extract, Nat.reduceLT, ev_tab, upd_eq, ext_0, ne_eq, Nat.reduceEqDiff, not_false_eq_true, upd_ne, ext_1, ext_2, ↓g_assign, ↓ops_nil, ↓w_seq, ↓w_region, ↓g_unOp, onS_some, u_not, Bool.not_true, Option.map_some, yielded_tab, dstAt_s, dstAt_0, ybv_some, boolOf_b, ↓g_guard_t, ↓g_binOp, ev_const, of_int, ↓g_pick, of_bool, pick_b, Bool.false_eq_true, if_false, b_gtr, k1, decide_false, reduceCtorEq, par0, ↓g_len, Try.underlying9, len_str, ↓w_cond, ↓w_ret, of_str, ret_three, ↓w_skip, b_add, ↓g_slice, cut_str, bnd_int, b_sub, e1, k2, decide_true, onB_true]
        rfl
      · have k2 : ¬ (z.size : Int) - k < n := by omega
        have hv : rsh z a = some (z.extract k (k + n), k + n) := by simp only [rsh, hr]; rw [if_neg (fun x => x.elim h1 h2)]
        rw [hv]
        have q1 : (0 : Int) ≤ (k : Int) := by omega
        have q2 : (0 : Int) ≤ ((k + n : Nat) : Int) := by omega
        have q3 : k ≤ k + n := by omega
        have q4 : k + n ≤ z.size := by omega
        refine Fn.run 40 [.tmp 4, .tmp 5, .tmp 6] Try.func97 rfl rfl rfl rfl (by simp) (flats_cons (.sc _) (flats_cons (.sc _) flats_nil)) (rsV_flat _) ?_
        simp -implicitDefEqProofs only [↓w_seq, ↓w_region, ↓ops_cons, ↓g_assign, ↓ops_nil, ev_const, of_str, of_int, of_bool, ↓g_move, Nat.reduceLT, ev_tab, ne_eq, reduceCtorEq, not_false_eq_true, upd_ne, par0, Nat.reduceEqDiff, par1]
        refine call1 (by simp -implicitDefEqProofs only [List.map_cons, Nat.reduceLT, ev_tab, ne_eq, Nat.reduceEqDiff, not_false_eq_true, upd_ne, upd_eq, List.map_nil] <;> rfl) c ?_
        simp -implicitDefEqProofs only [↓ops_cons, ↓g_move, ↓g_extract, Nat.reduceLT, ev_tab, upd_eq, ext_0, ne_eq, Nat.reduceEqDiff, not_false_eq_true, upd_ne, ext_1, ext_2, ↓g_assign, ↓ops_nil, ↓w_seq, ↓w_region, ↓g_unOp, onS_some, u_not, Bool.not_true, Option.map_some, yielded_tab, dstAt_s, dstAt_0, ybv_some, boolOf_b, ↓g_guard_t, ↓g_binOp, ev_const, of_int, ↓g_pick, of_bool, pick_b, Bool.false_eq_true, if_false, b_gtr, k1, decide_false, reduceCtorEq, par0, ↓g_len, Try.underlying9, len_str, ↓w_cond, ↓w_ret, of_str, ret_three, ↓w_skip, b_add, e2, ↓g_slice, cut_str, bnd_int, q1, Int.toNat_natCast, if_true, q2, cutS_some, q3, q4, and_self, b_sub, e1, k2, onB_false]
        try rfl
/-- What a reader gave. -/
theorem rv_ex (z : ByteArray) (a : Nat) : ∃ (n k : Nat) (b : Bool), rvV (rdv z a 5 0 0) = .tup [.sc (.int .i64 n), .sc (.int .i64 k), .sc (.bool b)] ∧ k ≤ z.size ∧ n ≤ 1000000000 ∧ (b = true → k = a + (varN n).length) := by
  cases hr : rdv z a 5 0 0 with
  | none => exact ⟨0, 0, false, rfl, by omega, by omega, by simp⟩
  | some p =>
    obtain ⟨n, k⟩ := p
    obtain ⟨hk, hn⟩ := rdv_le z a _ _ _ _ _ hr
    exact ⟨n, k, true, rfl, hk, hn, fun _ => rdv_len hr⟩
theorem rs_ex (z : ByteArray) (a : Nat) : ∃ (d : ByteArray) (k : Nat) (b : Bool), rsV (rsh z a) = .tup [.sc (.string d), .sc (.int .i64 k), .sc (.bool b)] ∧ k ≤ z.size ∧ d.size ≤ z.size ∧ (b = true → k = a + (varN d.size).length + d.size) := by
  unfold rsh
  cases hr : rdv z a 5 0 0 with
  | none => exact ⟨ByteArray.empty, 0, false, rfl, by omega, by simp, by simp⟩
  | some p =>
    obtain ⟨n, k⟩ := p
    obtain ⟨hk, hn⟩ := rdv_le z a _ _ _ _ _ hr
    simp only
    by_cases h : 20000 < n ∨ z.size < k + n
    · rw [if_pos h]
      exact ⟨ByteArray.empty, 0, false, rfl, by omega, by simp, by simp⟩
    · rw [if_neg h]
      have h2 : ¬ z.size < k + n := fun x => h (.inr x)
      have hs : (z.extract k (k + n)).size = n := by rw [ByteArray.size_extract]; omega
      refine ⟨_, _, _, rfl, by omega, by omega, ?_⟩
      intro _
      rw [hs, rdv_len hr]
theorem ptT_size (i t f : Nat) (d : ByteArray) : (ptT i t f d).size = (varN i).length + (varN t).length + (varN f).length + (varN d.size).length + d.size := by
  rw [ptT, son_size]
  simp only [List.length_append, nums_len]
  omega
theorem neT {x z : ByteArray} (h : x ≠ z) : (x.toList == z.toList) = false := by
  rw [beq_eq_false_iff_ne]
  exact fun he => h (toL_inj.1 he)
theorem flatP (i t f : Int) (d : ByteArray) (c : Bool) : Flat (.tup [prt i t f d, .sc (.bool c)]) := .tup (flats_cons (prt_flat _ _ _ _) (flats_cons (.sc _) flats_nil))
section
variable (z : ByteArray) (hz : z.size ≤ 1000000000) (i t f k1 k2 k3 k4 : Nat) (d : ByteArray) (b1 b2 b3 b4 : Bool)
  (h1 : rvV (rdv z 0 5 0 0) = .tup [.sc (.int .i64 i), .sc (.int .i64 k1), .sc (.bool b1)]) (q1 : k1 ≤ z.size)
  (h2 : rvV (rdv z k1 5 0 0) = .tup [.sc (.int .i64 t), .sc (.int .i64 k2), .sc (.bool b2)]) (q2 : k2 ≤ z.size)
  (h3 : rvV (rdv z k2 5 0 0) = .tup [.sc (.int .i64 f), .sc (.int .i64 k3), .sc (.bool b3)]) (q3 : k3 ≤ z.size)
  (h4 : rsV (rsh z k3) = .tup [.sc (.string d), .sc (.int .i64 k4), .sc (.bool b4)]) (q4 : d.size ≤ z.size)
include h1 q1 h2 q2 h3 q3 h4 q4 hz
theorem rpOkI (hb1 : b1 = true) (hb2 : b2 = true) (hb3 : b3 = true) (hb4 : b4 = true) (hp : okPc i t f d ∧ d.size ≤ 1000) (he : ptT i t f d = z) : Fn Try.prog 40 [.sc (.string z)] (.tup [prt i t f d, .sc (.bool true)]) := by
  refine Fn.run 79 [.cell 2 58, .tmp 3] Try.func40 rfl rfl rfl rfl (by simp) (flats_cons (.sc _) flats_nil) (flatP _ _ _ _ _) ?_
  subst hb1 hb2 hb3 hb4
  have c1 := rvI z 0 (by omega) hz
  have c2 := rvI z k1 q1 hz
  have c3 := rvI z k2 q2 hz
  have c4 := rshI z k3 q3 hz
  rw [h1] at c1
  rw [h2] at c2
  rw [h3] at c3
  rw [h4] at c4
  have c5 := ptI i t f d hp.1 hp.2
  rw [he] at c5
  unfold prt at c5 ⊢
  simp -implicitDefEqProofs only [↓w_seq, ↓w_region, ↓ops_cons, ↓g_alloc, zero58, Option.map_some, ↓g_assign, ↓ops_nil, ev_const, of_bool, ↓g_buildV, List.map_nil, bz58, ↓g_store, Nat.reduceLT, ev_tab, upd_eq, ne_eq, Nat.reduceEqDiff, not_false_eq_true, upd_ne, ↓g_move, reduceCtorEq, par0, alK_some, List.all_cons, one_int, one_str, List.all_nil, Bool.and_self, wr_def, tyOk58, cells58, at_end, wr_c, Nat.zero_add, List.length_cons, List.length_nil, Nat.reduceAdd, Nat.le_refl, true_and, onS_ite, onS_some, cells_agg, and_self, ovr_m, ovr_n, List.nil_append, List.cons_append, List.set_cons_succ, List.set_cons_zero]
  refine call1 (by simp -implicitDefEqProofs only [List.map_cons, Nat.reduceLT, ev_tab, upd_eq, ev_const, of_int, List.map_nil, Int.cast_ofNat_Int] <;> rfl) c1 ?_
  simp -implicitDefEqProofs only [↓ops_cons, ↓g_move, ↓g_extract, Nat.reduceLT, ev_tab, upd_eq, ext_0, ne_eq, Nat.reduceEqDiff, not_false_eq_true, upd_ne, ext_1, ext_2, ↓g_assign, ↓ops_nil, ↓w_seq, ↓w_region, reduceCtorEq, par0, onS_some]
  refine call1 (by simp -implicitDefEqProofs only [List.map_cons, Nat.reduceLT, ev_tab, ne_eq, Nat.reduceEqDiff, not_false_eq_true, upd_ne, upd_eq, List.map_nil] <;> rfl) c2 ?_
  simp -implicitDefEqProofs only [↓ops_cons, ↓g_move, ↓g_extract, Nat.reduceLT, ev_tab, upd_eq, ext_0, ne_eq, Nat.reduceEqDiff, not_false_eq_true, upd_ne, ext_1, ext_2, ↓g_assign, ↓ops_nil, ↓w_seq, ↓w_region, reduceCtorEq, par0, onS_some]
  refine call1 (by simp -implicitDefEqProofs only [List.map_cons, Nat.reduceLT, ev_tab, ne_eq, Nat.reduceEqDiff, not_false_eq_true, upd_ne, upd_eq, List.map_nil] <;> rfl) c3 ?_
  simp -implicitDefEqProofs only [↓ops_cons, ↓g_move, ↓g_extract, Nat.reduceLT, ev_tab, upd_eq, ext_0, ne_eq, Nat.reduceEqDiff, not_false_eq_true, upd_ne, ext_1, ext_2, ↓g_assign, ↓ops_nil, ↓w_seq, ↓w_region, reduceCtorEq, par0, onS_some]
  refine call1 (by simp -implicitDefEqProofs only [List.map_cons, Nat.reduceLT, ev_tab, ne_eq, Nat.reduceEqDiff, not_false_eq_true, upd_ne, upd_eq, List.map_nil] <;> rfl) c4 ?_
  simp -implicitDefEqProofs only [↓ops_cons, ↓g_move, ↓g_extract, Nat.reduceLT, ev_tab, upd_eq, ext_0, ne_eq, Nat.reduceEqDiff, not_false_eq_true, upd_ne, ext_1, ext_2, ↓g_assign, ↓ops_nil, ↓w_seq, ↓w_region, ↓g_unOp, u_not, Bool.not_true, Option.map_some, onS_some, yielded_tab, dstAt_s, dstAt_0, ybv_some, boolOf_b, ↓g_guard_t, ↓g_pick, ev_const, of_bool, pick_b, Bool.false_eq_true, if_false, ↓w_cond, ↓g_buildV, List.map_nil, bz58, ↓g_store, wr_def, tyOk58, cells58, List.getElem?_cons_zero, wr_c, Nat.zero_add, List.length_cons, List.length_nil, Nat.reduceAdd, Nat.le_refl, true_and, List.set_cons_zero, ↓w_ret, ret_ct, rd_def, agg58, onS_ite, cells_agg, List.all_cons, one_int, one_str, List.all_nil, Bool.and_self, and_self, ovr_m, ovr_n, rd_aggc, List.drop_zero, List.take_succ_cons, List.take_zero, if_true, ↓w_skip, List.map_cons, cells_int, List.getElem?_cons_succ, List.set_cons_succ, ↓g_load, onB_false, cells_str, bds58]
  refine call1 (by simp -implicitDefEqProofs only [List.map_cons, Nat.reduceLT, ev_tab, upd_eq, List.map_nil] <;> rfl) c5 ?_
  simp -implicitDefEqProofs only [↓ops_cons, ↓g_move, ↓g_extract, Nat.reduceLT, ev_tab, upd_eq, ext_0, ne_eq, Nat.reduceEqDiff, not_false_eq_true, upd_ne, ext_1, ↓g_assign, ↓ops_nil, ↓w_seq, ↓w_region, ↓g_unOp, onS_some, u_not, Bool.not_true, Option.map_some, yielded_tab, dstAt_s, dstAt_0, ybv_some, boolOf_b, ↓g_guard_t, reduceCtorEq, par0, ↓g_binOp, ↓g_pick, ev_const, of_bool, pick_b, Bool.false_eq_true, if_false, ↓w_cond, ↓g_buildV, List.map_nil, bz58, ↓g_store, wr_def, tyOk58, cells58, List.getElem?_cons_zero, wr_c, Nat.zero_add, List.length_cons, List.length_nil, Nat.reduceAdd, Nat.le_refl, true_and, List.set_cons_zero, ↓w_ret, ret_ct, rd_def, agg58, onS_ite, cells_agg, List.all_cons, one_int, one_str, List.all_nil, Bool.and_self, and_self, ovr_m, ovr_n, rd_aggc, List.drop_zero, List.take_succ_cons, List.take_zero, if_true, ↓w_skip, ↓g_load, List.getElem?_cons_succ, t_neq, beq_self_eq_true, onB_false]
theorem rpOkS (hb1 : b1 = true) (hb2 : b2 = true) (hb3 : b3 = true) (hb4 : b4 = true) (hp : okPc i t f d ∧ d.size ≤ 1000) (he : ptT i t f d = z) (hk : k4 = z.size) : Fn Try.prog 49 [.sc (.string z)] (.tup [prt i t f d, .sc (.bool true)]) := by
  refine Fn.run 84 [.cell 2 58, .tmp 3] Try.func49 rfl rfl rfl rfl (by simp) (flats_cons (.sc _) flats_nil) (flatP _ _ _ _ _) ?_
  subst hb1 hb2 hb3 hb4
  have c1 := rvS z 0 (by omega) hz
  have c2 := rvS z k1 q1 hz
  have c3 := rvS z k2 q2 hz
  have c4 := rshS z k3 q3 hz
  rw [h1] at c1
  rw [h2] at c2
  rw [h3] at c3
  rw [h4, hk] at c4
  have c5 := ptS i t f d hp.1 hp.2
  rw [he] at c5
  unfold prt at c5 ⊢
  simp -implicitDefEqProofs only [↓w_seq, ↓w_region, ↓ops_cons, ↓g_alloc, zero58, Option.map_some, ↓g_assign, ↓ops_nil, ev_const, of_bool, ↓g_move, Nat.reduceLT, ev_tab, ne_eq, reduceCtorEq, not_false_eq_true, upd_ne, par0, alK_some, List.all_cons, one_int, one_str, List.all_nil, Bool.and_self, List.length_nil, List.nil_append, true_and]
  refine call1 (by simp -implicitDefEqProofs only [List.map_cons, Nat.reduceLT, ev_tab, upd_eq, ev_const, of_int, List.map_nil, Int.cast_ofNat_Int] <;> rfl) c1 ?_
  simp -implicitDefEqProofs only [↓ops_cons, ↓g_move, ↓g_extract, Nat.reduceLT, ev_tab, upd_eq, ext_0, ne_eq, Nat.reduceEqDiff, not_false_eq_true, upd_ne, ext_1, ext_2, ↓g_assign, ↓ops_nil, ↓w_seq, ↓w_region, ↓g_unOp, ↓w_cond, ↓g_buildV, List.map_nil, bz58, ↓g_store, wr_def, tyOk58, cells58, List.getElem?_cons_zero, wr_c, Nat.zero_add, List.length_cons, List.length_nil, Nat.reduceAdd, Nat.le_refl, true_and, List.set_cons_zero, ↓w_ret, ev_const, of_bool, ret_ct, rd_def, agg58, onS_ite, onS_some, cells_agg, List.all_cons, one_int, one_str, List.all_nil, Bool.and_self, and_self, ovr_m, ovr_n, rd_aggc, List.drop_zero, List.take_succ_cons, List.take_zero, if_true, ↓w_skip, reduceCtorEq, par0, u_not, Bool.not_true, Option.map_some, onB_false]
  refine call1 (by simp -implicitDefEqProofs only [List.map_cons, Nat.reduceLT, ev_tab, ne_eq, Nat.reduceEqDiff, not_false_eq_true, upd_ne, upd_eq, List.map_nil] <;> rfl) c2 ?_
  simp -implicitDefEqProofs only [↓ops_cons, ↓g_move, ↓g_extract, Nat.reduceLT, ev_tab, upd_eq, ext_0, ne_eq, Nat.reduceEqDiff, not_false_eq_true, upd_ne, ext_1, ext_2, ↓g_assign, ↓ops_nil, ↓w_seq, ↓w_region, ↓g_unOp, ↓w_cond, ↓g_buildV, List.map_nil, bz58, ↓g_store, wr_def, tyOk58, cells58, List.getElem?_cons_zero, wr_c, Nat.zero_add, List.length_cons, List.length_nil, Nat.reduceAdd, Nat.le_refl, true_and, List.set_cons_zero, ↓w_ret, ev_const, of_bool, ret_ct, rd_def, agg58, onS_ite, onS_some, cells_agg, List.all_cons, one_int, one_str, List.all_nil, Bool.and_self, and_self, ovr_m, ovr_n, rd_aggc, List.drop_zero, List.take_succ_cons, List.take_zero, if_true, ↓w_skip, reduceCtorEq, par0, u_not, Bool.not_true, Option.map_some, onB_false]
  refine call1 (by simp -implicitDefEqProofs only [List.map_cons, Nat.reduceLT, ev_tab, ne_eq, Nat.reduceEqDiff, not_false_eq_true, upd_ne, upd_eq, List.map_nil] <;> rfl) c3 ?_
  simp -implicitDefEqProofs only [↓ops_cons, ↓g_move, ↓g_extract, Nat.reduceLT, ev_tab, upd_eq, ext_0, ne_eq, Nat.reduceEqDiff, not_false_eq_true, upd_ne, ext_1, ext_2, ↓g_assign, ↓ops_nil, ↓w_seq, ↓w_region, ↓g_unOp, ↓w_cond, ↓g_buildV, List.map_nil, bz58, ↓g_store, wr_def, tyOk58, cells58, List.getElem?_cons_zero, wr_c, Nat.zero_add, List.length_cons, List.length_nil, Nat.reduceAdd, Nat.le_refl, true_and, List.set_cons_zero, ↓w_ret, ev_const, of_bool, ret_ct, rd_def, agg58, onS_ite, onS_some, cells_agg, List.all_cons, one_int, one_str, List.all_nil, Bool.and_self, and_self, ovr_m, ovr_n, rd_aggc, List.drop_zero, List.take_succ_cons, List.take_zero, if_true, ↓w_skip, reduceCtorEq, par0, u_not, Bool.not_true, Option.map_some, onB_false]
  refine call1 (by simp -implicitDefEqProofs only [List.map_cons, Nat.reduceLT, ev_tab, ne_eq, Nat.reduceEqDiff, not_false_eq_true, upd_ne, upd_eq, List.map_nil] <;> rfl) c4 ?_
  simp -implicitDefEqProofs only [↓ops_cons, ↓g_move, ↓g_extract, Nat.reduceLT, ev_tab, upd_eq, ext_0, ne_eq, Nat.reduceEqDiff, not_false_eq_true, upd_ne, ext_1, ext_2, ↓g_assign, ↓ops_nil, ↓w_seq, ↓w_region, ↓g_buildV, List.map_cons, List.map_nil, cells_int, ↓g_alloc, zero58, Option.map_some, ↓g_store, ↓g_load, alK_some, List.all_cons, one_int, one_str, List.all_nil, Bool.and_self, List.length_cons, List.length_nil, Nat.zero_add, List.cons_append, List.nil_append, wr_def, tyOk58, cells58, List.getElem?_cons_succ, List.getElem?_cons_zero, wr_c, Nat.reduceAdd, Nat.le_refl, true_and, List.set_cons_succ, List.set_cons_zero, rd_def, agg58, onS_ite, onS_some, cells_str, bds58, cells_agg, and_self, ovr_m, ovr_n, rd_aggc, List.drop_zero, List.take_succ_cons, List.take_zero, if_true]
  refine call1 (by simp -implicitDefEqProofs only [List.map_cons, Nat.reduceLT, ev_tab, upd_eq, List.map_nil] <;> rfl) c5 ?_
  simp -implicitDefEqProofs only [↓ops_cons, ↓g_move, ↓g_extract, Nat.reduceLT, ev_tab, upd_eq, ext_0, ne_eq, Nat.reduceEqDiff, not_false_eq_true, upd_ne, ext_1, ↓g_assign, ↓ops_nil, ↓w_seq, ↓w_region, ↓g_unOp, u_not, Bool.not_true, Option.map_some, onS_some, yielded_tab, dstAt_s, dstAt_0, ybv_some, boolOf_b, ↓g_guard_t, reduceCtorEq, par0, ↓g_len, Try.underlying9, len_str, ↓g_binOp, ↓g_pick, ev_const, of_bool, pick_b, Bool.false_eq_true, if_false, b_neq, decide_true, ↓w_cond, ↓g_buildV, List.map_nil, bz58, ↓g_store, wr_def, tyOk58, cells58, List.getElem?_cons_zero, wr_c, Nat.zero_add, List.length_cons, List.length_nil, Nat.reduceAdd, Nat.le_refl, true_and, List.set_cons_zero, ↓w_ret, ret_ct, rd_def, agg58, onS_ite, cells_agg, List.all_cons, one_int, one_str, List.all_nil, Bool.and_self, and_self, ovr_m, ovr_n, rd_aggc, List.drop_zero, List.take_succ_cons, List.take_zero, if_true, ↓w_skip, ↓g_load, List.getElem?_cons_succ, t_neq, beq_self_eq_true, onB_false]
end
end Go.Proofs.Ytknmbiebnpojjaa.Sim
namespace Go.Proofs.Ytknmbiebnpojjaa.Sim
open Go
set_option maxRecDepth 100000
set_option maxHeartbeats 40000000
set_option linter.unusedSimpArgs false
set_option linter.unusedVariables false
set_option linter.unusedSectionVars false
section
variable (z : ByteArray) (hz : z.size ≤ 1000000000) (i t f k1 k2 k3 k4 : Nat) (d : ByteArray) (b1 b2 b3 b4 : Bool)
  (h1 : rvV (rdv z 0 5 0 0) = .tup [.sc (.int .i64 i), .sc (.int .i64 k1), .sc (.bool b1)]) (q1 : k1 ≤ z.size)
  (h2 : rvV (rdv z k1 5 0 0) = .tup [.sc (.int .i64 t), .sc (.int .i64 k2), .sc (.bool b2)]) (q2 : k2 ≤ z.size)
  (h3 : rvV (rdv z k2 5 0 0) = .tup [.sc (.int .i64 f), .sc (.int .i64 k3), .sc (.bool b3)]) (q3 : k3 ≤ z.size)
  (h4 : rsV (rsh z k3) = .tup [.sc (.string d), .sc (.int .i64 k4), .sc (.bool b4)]) (q4 : d.size ≤ z.size)
include h1 q1 h2 q2 h3 q3 h4 q4 hz
theorem rpNoI (hno : ¬ (b1 = true ∧ b2 = true ∧ b3 = true ∧ b4 = true ∧ (okPc i t f d ∧ d.size ≤ 1000) ∧ ptT i t f d = z)) : Fn Try.prog 40 [.sc (.string z)] (.tup [prt 0 0 0 ByteArray.empty, .sc (.bool false)]) := by
  refine Fn.run 79 [.cell 2 58, .tmp 3] Try.func40 rfl rfl rfl rfl (by simp) (flats_cons (.sc _) flats_nil) (flatP _ _ _ _ _) ?_
  have c1 := rvI z 0 (by omega) hz
  have c2 := rvI z k1 q1 hz
  have c3 := rvI z k2 q2 hz
  have c4 := rshI z k3 q3 hz
  rw [h1] at c1
  rw [h2] at c2
  rw [h3] at c3
  rw [h4] at c4
  unfold prt
  simp -implicitDefEqProofs only [↓w_seq, ↓w_region, ↓ops_cons, ↓g_alloc, zero58, Option.map_some, ↓g_assign, ↓ops_nil, ev_const, of_bool, ↓g_buildV, List.map_nil, bz58, ↓g_store, Nat.reduceLT, ev_tab, upd_eq, ne_eq, Nat.reduceEqDiff, not_false_eq_true, upd_ne, ↓g_move, reduceCtorEq, par0, alK_some, List.all_cons, one_int, one_str, List.all_nil, Bool.and_self, wr_def, tyOk58, cells58, at_end, wr_c, Nat.zero_add, List.length_cons, List.length_nil, Nat.reduceAdd, Nat.le_refl, true_and, onS_ite, onS_some, cells_agg, and_self, ovr_m, ovr_n, List.nil_append, List.cons_append, List.set_cons_succ, List.set_cons_zero]
  refine call1 (by simp -implicitDefEqProofs only [List.map_cons, Nat.reduceLT, ev_tab, upd_eq, ev_const, of_int, List.map_nil, Int.cast_ofNat_Int] <;> rfl) c1 ?_
  simp -implicitDefEqProofs only [↓ops_cons, ↓g_move, ↓g_extract, Nat.reduceLT, ev_tab, upd_eq, ext_0, ne_eq, Nat.reduceEqDiff, not_false_eq_true, upd_ne, ext_1, ext_2, ↓g_assign, ↓ops_nil, ↓w_seq, ↓w_region, reduceCtorEq, par0, onS_some]
  refine call1 (by simp -implicitDefEqProofs only [List.map_cons, Nat.reduceLT, ev_tab, ne_eq, Nat.reduceEqDiff, not_false_eq_true, upd_ne, upd_eq, List.map_nil] <;> rfl) c2 ?_
  simp -implicitDefEqProofs only [↓ops_cons, ↓g_move, ↓g_extract, Nat.reduceLT, ev_tab, upd_eq, ext_0, ne_eq, Nat.reduceEqDiff, not_false_eq_true, upd_ne, ext_1, ext_2, ↓g_assign, ↓ops_nil, ↓w_seq, ↓w_region, reduceCtorEq, par0, onS_some]
  refine call1 (by simp -implicitDefEqProofs only [List.map_cons, Nat.reduceLT, ev_tab, ne_eq, Nat.reduceEqDiff, not_false_eq_true, upd_ne, upd_eq, List.map_nil] <;> rfl) c3 ?_
  simp -implicitDefEqProofs only [↓ops_cons, ↓g_move, ↓g_extract, Nat.reduceLT, ev_tab, upd_eq, ext_0, ne_eq, Nat.reduceEqDiff, not_false_eq_true, upd_ne, ext_1, ext_2, ↓g_assign, ↓ops_nil, ↓w_seq, ↓w_region, reduceCtorEq, par0, onS_some]
  refine call1 (by simp -implicitDefEqProofs only [List.map_cons, Nat.reduceLT, ev_tab, ne_eq, Nat.reduceEqDiff, not_false_eq_true, upd_ne, upd_eq, List.map_nil] <;> rfl) c4 ?_
  cases b1 with
  | false => simp -implicitDefEqProofs only [↓ops_cons, ↓g_move, ↓g_extract, Nat.reduceLT, ev_tab, upd_eq, ext_0, ne_eq, Nat.reduceEqDiff, not_false_eq_true, upd_ne, ext_1, ext_2, ↓g_assign, ↓ops_nil, ↓w_seq, ↓w_region, ↓g_unOp, u_not, Bool.not_false, Option.map_some, onS_some, yielded_tab, dstAt_s, dstAt_0, ybv_some, boolOf_b, ↓g_guard_f, ↓g_pick, ev_const, of_bool, pick_b, if_true, ↓w_cond, ↓g_buildV, List.map_nil, bz58, ↓g_store, wr_def, tyOk58, cells58, List.getElem?_cons_zero, wr_c, Nat.zero_add, List.length_cons, List.length_nil, Nat.reduceAdd, Nat.le_refl, true_and, List.set_cons_zero, ↓w_ret, ret_ct, rd_def, agg58, onS_ite, cells_agg, List.all_cons, one_int, one_str, List.all_nil, Bool.and_self, and_self, ovr_m, ovr_n, rd_aggc, List.drop_zero, List.take_succ_cons, List.take_zero, ↓w_skip, List.map_cons, cells_int, List.getElem?_cons_succ, List.set_cons_succ, ↓g_load, onB_true]
  | true =>
  cases b2 with
  | false => simp -implicitDefEqProofs only [↓ops_cons, ↓g_move, ↓g_extract, Nat.reduceLT, ev_tab, upd_eq, ext_0, ne_eq, Nat.reduceEqDiff, not_false_eq_true, upd_ne, ext_1, ext_2, ↓g_assign, ↓ops_nil, ↓w_seq, ↓w_region, ↓g_unOp, u_not, Bool.not_true, Option.map_some, onS_some, yielded_tab, dstAt_s, dstAt_0, ybv_some, boolOf_b, ↓g_guard_t, Bool.not_false, ↓g_pick, ev_const, of_bool, pick_b, Bool.false_eq_true, if_false, ↓g_guard_f, if_true, ↓w_cond, ↓g_buildV, List.map_nil, bz58, ↓g_store, wr_def, tyOk58, cells58, List.getElem?_cons_zero, wr_c, Nat.zero_add, List.length_cons, List.length_nil, Nat.reduceAdd, Nat.le_refl, true_and, List.set_cons_zero, ↓w_ret, ret_ct, rd_def, agg58, onS_ite, cells_agg, List.all_cons, one_int, one_str, List.all_nil, Bool.and_self, and_self, ovr_m, ovr_n, rd_aggc, List.drop_zero, List.take_succ_cons, List.take_zero, ↓w_skip, List.map_cons, cells_int, List.getElem?_cons_succ, List.set_cons_succ, ↓g_load, onB_true]
  | true =>
  cases b3 with
  | false => simp -implicitDefEqProofs only [↓ops_cons, ↓g_move, ↓g_extract, Nat.reduceLT, ev_tab, upd_eq, ext_0, ne_eq, Nat.reduceEqDiff, not_false_eq_true, upd_ne, ext_1, ext_2, ↓g_assign, ↓ops_nil, ↓w_seq, ↓w_region, ↓g_unOp, u_not, Bool.not_true, Option.map_some, onS_some, yielded_tab, dstAt_s, dstAt_0, ybv_some, boolOf_b, ↓g_guard_t, ↓g_pick, ev_const, of_bool, pick_b, Bool.false_eq_true, if_false, Bool.not_false, ↓g_guard_f, if_true, ↓w_cond, ↓g_buildV, List.map_nil, bz58, ↓g_store, wr_def, tyOk58, cells58, List.getElem?_cons_zero, wr_c, Nat.zero_add, List.length_cons, List.length_nil, Nat.reduceAdd, Nat.le_refl, true_and, List.set_cons_zero, ↓w_ret, ret_ct, rd_def, agg58, onS_ite, cells_agg, List.all_cons, one_int, one_str, List.all_nil, Bool.and_self, and_self, ovr_m, ovr_n, rd_aggc, List.drop_zero, List.take_succ_cons, List.take_zero, ↓w_skip, List.map_cons, cells_int, List.getElem?_cons_succ, List.set_cons_succ, ↓g_load, onB_true]
  | true =>
  cases b4 with
  | false => simp -implicitDefEqProofs only [↓ops_cons, ↓g_move, ↓g_extract, Nat.reduceLT, ev_tab, upd_eq, ext_0, ne_eq, Nat.reduceEqDiff, not_false_eq_true, upd_ne, ext_1, ext_2, ↓g_assign, ↓ops_nil, ↓w_seq, ↓w_region, ↓g_unOp, u_not, Bool.not_true, Option.map_some, onS_some, yielded_tab, dstAt_s, dstAt_0, ybv_some, boolOf_b, ↓g_guard_t, ↓g_pick, ev_const, of_bool, pick_b, Bool.false_eq_true, if_false, ↓w_cond, ↓g_buildV, List.map_nil, bz58, ↓g_store, wr_def, tyOk58, cells58, List.getElem?_cons_zero, wr_c, Nat.zero_add, List.length_cons, List.length_nil, Nat.reduceAdd, Nat.le_refl, true_and, List.set_cons_zero, ↓w_ret, ret_ct, rd_def, agg58, onS_ite, cells_agg, List.all_cons, one_int, one_str, List.all_nil, Bool.and_self, and_self, ovr_m, ovr_n, rd_aggc, List.drop_zero, List.take_succ_cons, List.take_zero, if_true, ↓w_skip, List.map_cons, cells_int, List.getElem?_cons_succ, List.set_cons_succ, ↓g_load, Bool.not_false, onB_true]
  | true =>
    simp -implicitDefEqProofs only [↓ops_cons, ↓g_move, ↓g_extract, Nat.reduceLT, ev_tab, upd_eq, ext_0, ne_eq, Nat.reduceEqDiff, not_false_eq_true, upd_ne, ext_1, ext_2, ↓g_assign, ↓ops_nil, ↓w_seq, ↓w_region, ↓g_unOp, u_not, Bool.not_true, Option.map_some, onS_some, yielded_tab, dstAt_s, dstAt_0, ybv_some, boolOf_b, ↓g_guard_t, ↓g_pick, ev_const, of_bool, pick_b, Bool.false_eq_true, if_false, ↓w_cond, ↓g_buildV, List.map_nil, bz58, ↓g_store, wr_def, tyOk58, cells58, List.getElem?_cons_zero, wr_c, Nat.zero_add, List.length_cons, List.length_nil, Nat.reduceAdd, Nat.le_refl, true_and, List.set_cons_zero, ↓w_ret, ret_ct, rd_def, agg58, onS_ite, cells_agg, List.all_cons, one_int, one_str, List.all_nil, Bool.and_self, and_self, ovr_m, ovr_n, rd_aggc, List.drop_zero, List.take_succ_cons, List.take_zero, if_true, ↓w_skip, List.map_cons, cells_int, List.getElem?_cons_succ, List.set_cons_succ, ↓g_load, onB_false, cells_str, bds58]
    by_cases hp : okPc i t f d ∧ d.size ≤ 1000
    · have hne : ¬ ptT i t f d = z := fun x => hno ⟨rfl, rfl, rfl, rfl, hp, x⟩
      have c5 := ptI i t f d hp.1 hp.2
      unfold prt at c5
      refine call1 (by simp -implicitDefEqProofs only [List.map_cons, Nat.reduceLT, ev_tab, upd_eq, List.map_nil] <;> rfl) c5 ?_
      simp -implicitDefEqProofs only [↓ops_cons, ↓g_move, ↓g_extract, Nat.reduceLT, ev_tab, upd_eq, ext_0, ne_eq, Nat.reduceEqDiff, not_false_eq_true, upd_ne, ext_1, ↓g_assign, ↓ops_nil, ↓w_seq, ↓w_region, ↓g_unOp, onS_some, u_not, Bool.not_true, Option.map_some, yielded_tab, dstAt_s, dstAt_0, ybv_some, boolOf_b, ↓g_guard_t, reduceCtorEq, par0, ↓g_binOp, ↓g_pick, ev_const, of_bool, pick_b, Bool.false_eq_true, if_false, ↓w_cond, ↓g_buildV, List.map_nil, bz58, ↓g_store, wr_def, tyOk58, cells58, List.getElem?_cons_zero, wr_c, Nat.zero_add, List.length_cons, List.length_nil, Nat.reduceAdd, Nat.le_refl, true_and, List.set_cons_zero, ↓w_ret, ret_ct, rd_def, agg58, onS_ite, cells_agg, List.all_cons, one_int, one_str, List.all_nil, Bool.and_self, and_self, ovr_m, ovr_n, rd_aggc, List.drop_zero, List.take_succ_cons, List.take_zero, if_true, ↓w_skip, ↓g_load, List.getElem?_cons_succ, t_neq, neT hne, Bool.not_false, onB_true]
    · have c5 := ptNoI i t f d hp (by omega)
      unfold prt at c5
      refine call1 (by simp -implicitDefEqProofs only [List.map_cons, Nat.reduceLT, ev_tab, upd_eq, List.map_nil] <;> rfl) c5 ?_
      simp -implicitDefEqProofs only [↓ops_cons, ↓g_move, ↓g_extract, Nat.reduceLT, ev_tab, upd_eq, ext_0, ne_eq, Nat.reduceEqDiff, not_false_eq_true, upd_ne, ext_1, ↓g_assign, ↓ops_nil, ↓w_seq, ↓w_region, ↓g_unOp, onS_some, u_not, Bool.not_false, Option.map_some, yielded_tab, dstAt_s, dstAt_0, ybv_some, boolOf_b, ↓g_guard_f, ↓g_pick, ev_const, of_bool, pick_b, if_true, ↓w_cond, ↓g_buildV, List.map_nil, bz58, ↓g_store, wr_def, tyOk58, cells58, List.getElem?_cons_zero, wr_c, Nat.zero_add, List.length_cons, List.length_nil, Nat.reduceAdd, Nat.le_refl, true_and, List.set_cons_zero, ↓w_ret, ret_ct, rd_def, agg58, onS_ite, cells_agg, List.all_cons, one_int, one_str, List.all_nil, Bool.and_self, and_self, ovr_m, ovr_n, rd_aggc, List.drop_zero, List.take_succ_cons, List.take_zero, ↓w_skip, ↓g_load, List.getElem?_cons_succ, onB_true]
theorem rpNoS (hno : ¬ (b1 = true ∧ b2 = true ∧ b3 = true ∧ b4 = true ∧ (okPc i t f d ∧ d.size ≤ 1000) ∧ ptT i t f d = z)) : Fn Try.prog 49 [.sc (.string z)] (.tup [prt 0 0 0 ByteArray.empty, .sc (.bool false)]) := by
  refine Fn.run 84 [.cell 2 58, .tmp 3] Try.func49 rfl rfl rfl rfl (by simp) (flats_cons (.sc _) flats_nil) (flatP _ _ _ _ _) ?_
  have hk0 := Classical.em ((k4 : Int) = z.size)
  have hp0 := Classical.em (okPc i t f d ∧ d.size ≤ 1000)
  have c1 := rvS z 0 (by omega) hz
  have c2 := rvS z k1 q1 hz
  have c3 := rvS z k2 q2 hz
  have c4 := rshS z k3 q3 hz
  rw [h1] at c1
  rw [h2] at c2
  rw [h3] at c3
  rw [h4] at c4
  unfold prt
  simp -implicitDefEqProofs only [↓w_seq, ↓w_region, ↓ops_cons, ↓g_alloc, zero58, Option.map_some, ↓g_assign, ↓ops_nil, ev_const, of_bool, ↓g_move, Nat.reduceLT, ev_tab, ne_eq, reduceCtorEq, not_false_eq_true, upd_ne, par0, alK_some, List.all_cons, one_int, one_str, List.all_nil, Bool.and_self, List.length_nil, List.nil_append, true_and]
  refine call1 (by simp -implicitDefEqProofs only [List.map_cons, Nat.reduceLT, ev_tab, upd_eq, ev_const, of_int, List.map_nil, Int.cast_ofNat_Int] <;> rfl) c1 ?_
  cases b1 with
  | false => simp -implicitDefEqProofs only [↓ops_cons, ↓g_move, ↓g_extract, Nat.reduceLT, ev_tab, upd_eq, ext_0, ne_eq, Nat.reduceEqDiff, not_false_eq_true, upd_ne, ext_1, ext_2, ↓g_assign, ↓ops_nil, ↓w_seq, ↓w_region, ↓g_unOp, ↓w_cond, ↓g_buildV, List.map_nil, bz58, ↓g_store, wr_def, tyOk58, cells58, List.getElem?_cons_zero, wr_c, Nat.zero_add, List.length_cons, List.length_nil, Nat.reduceAdd, Nat.le_refl, true_and, List.set_cons_zero, ↓w_ret, ev_const, of_bool, ret_ct, rd_def, agg58, onS_ite, onS_some, cells_agg, List.all_cons, one_int, one_str, List.all_nil, Bool.and_self, and_self, ovr_m, ovr_n, rd_aggc, List.drop_zero, List.take_succ_cons, List.take_zero, if_true, ↓w_skip, reduceCtorEq, par0, u_not, Bool.not_false, Option.map_some, onB_true]
  | true =>
  simp -implicitDefEqProofs only [↓ops_cons, ↓g_move, ↓g_extract, Nat.reduceLT, ev_tab, upd_eq, ext_0, ne_eq, Nat.reduceEqDiff, not_false_eq_true, upd_ne, ext_1, ext_2, ↓g_assign, ↓ops_nil, ↓w_seq, ↓w_region, ↓g_unOp, ↓w_cond, ↓g_buildV, List.map_nil, bz58, ↓g_store, wr_def, tyOk58, cells58, List.getElem?_cons_zero, wr_c, Nat.zero_add, List.length_cons, List.length_nil, Nat.reduceAdd, Nat.le_refl, true_and, List.set_cons_zero, ↓w_ret, ev_const, of_bool, ret_ct, rd_def, agg58, onS_ite, onS_some, cells_agg, List.all_cons, one_int, one_str, List.all_nil, Bool.and_self, and_self, ovr_m, ovr_n, rd_aggc, List.drop_zero, List.take_succ_cons, List.take_zero, if_true, ↓w_skip, reduceCtorEq, par0, u_not, Bool.not_true, Option.map_some, onB_false]
  refine call1 (by simp -implicitDefEqProofs only [List.map_cons, Nat.reduceLT, ev_tab, ne_eq, Nat.reduceEqDiff, not_false_eq_true, upd_ne, upd_eq, List.map_nil] <;> rfl) c2 ?_
  cases b2 with
  | false => simp -implicitDefEqProofs only [↓ops_cons, ↓g_move, ↓g_extract, Nat.reduceLT, ev_tab, upd_eq, ext_0, ne_eq, Nat.reduceEqDiff, not_false_eq_true, upd_ne, ext_1, ext_2, ↓g_assign, ↓ops_nil, ↓w_seq, ↓w_region, ↓g_unOp, ↓w_cond, ↓g_buildV, List.map_nil, bz58, ↓g_store, wr_def, tyOk58, cells58, List.getElem?_cons_zero, wr_c, Nat.zero_add, List.length_cons, List.length_nil, Nat.reduceAdd, Nat.le_refl, true_and, List.set_cons_zero, ↓w_ret, ev_const, of_bool, ret_ct, rd_def, agg58, onS_ite, onS_some, cells_agg, List.all_cons, one_int, one_str, List.all_nil, Bool.and_self, and_self, ovr_m, ovr_n, rd_aggc, List.drop_zero, List.take_succ_cons, List.take_zero, if_true, ↓w_skip, reduceCtorEq, par0, u_not, Bool.not_false, Option.map_some, onB_true]
  | true =>
  simp -implicitDefEqProofs only [↓ops_cons, ↓g_move, ↓g_extract, Nat.reduceLT, ev_tab, upd_eq, ext_0, ne_eq, Nat.reduceEqDiff, not_false_eq_true, upd_ne, ext_1, ext_2, ↓g_assign, ↓ops_nil, ↓w_seq, ↓w_region, ↓g_unOp, ↓w_cond, ↓g_buildV, List.map_nil, bz58, ↓g_store, wr_def, tyOk58, cells58, List.getElem?_cons_zero, wr_c, Nat.zero_add, List.length_cons, List.length_nil, Nat.reduceAdd, Nat.le_refl, true_and, List.set_cons_zero, ↓w_ret, ev_const, of_bool, ret_ct, rd_def, agg58, onS_ite, onS_some, cells_agg, List.all_cons, one_int, one_str, List.all_nil, Bool.and_self, and_self, ovr_m, ovr_n, rd_aggc, List.drop_zero, List.take_succ_cons, List.take_zero, if_true, ↓w_skip, reduceCtorEq, par0, u_not, Bool.not_true, Option.map_some, onB_false]
  refine call1 (by simp -implicitDefEqProofs only [List.map_cons, Nat.reduceLT, ev_tab, ne_eq, Nat.reduceEqDiff, not_false_eq_true, upd_ne, upd_eq, List.map_nil] <;> rfl) c3 ?_
  cases b3 with
  | false => simp -implicitDefEqProofs only [↓ops_cons, ↓g_move, ↓g_extract, Nat.reduceLT, ev_tab, upd_eq, ext_0, ne_eq, Nat.reduceEqDiff, not_false_eq_true, upd_ne, ext_1, ext_2, ↓g_assign, ↓ops_nil, ↓w_seq, ↓w_region, ↓g_unOp, ↓w_cond, ↓g_buildV, List.map_nil, bz58, ↓g_store, wr_def, tyOk58, cells58, List.getElem?_cons_zero, wr_c, Nat.zero_add, List.length_cons, List.length_nil, Nat.reduceAdd, Nat.le_refl, true_and, List.set_cons_zero, ↓w_ret, ev_const, of_bool, ret_ct, rd_def, agg58, onS_ite, onS_some, cells_agg, List.all_cons, one_int, one_str, List.all_nil, Bool.and_self, and_self, ovr_m, ovr_n, rd_aggc, List.drop_zero, List.take_succ_cons, List.take_zero, if_true, ↓w_skip, reduceCtorEq, par0, u_not, Bool.not_false, Option.map_some, onB_true]
  | true =>
  simp -implicitDefEqProofs only [↓ops_cons, ↓g_move, ↓g_extract, Nat.reduceLT, ev_tab, upd_eq, ext_0, ne_eq, Nat.reduceEqDiff, not_false_eq_true, upd_ne, ext_1, ext_2, ↓g_assign, ↓ops_nil, ↓w_seq, ↓w_region, ↓g_unOp, ↓w_cond, ↓g_buildV, List.map_nil, bz58, ↓g_store, wr_def, tyOk58, cells58, List.getElem?_cons_zero, wr_c, Nat.zero_add, List.length_cons, List.length_nil, Nat.reduceAdd, Nat.le_refl, true_and, List.set_cons_zero, ↓w_ret, ev_const, of_bool, ret_ct, rd_def, agg58, onS_ite, onS_some, cells_agg, List.all_cons, one_int, one_str, List.all_nil, Bool.and_self, and_self, ovr_m, ovr_n, rd_aggc, List.drop_zero, List.take_succ_cons, List.take_zero, if_true, ↓w_skip, reduceCtorEq, par0, u_not, Bool.not_true, Option.map_some, onB_false]
  refine call1 (by simp -implicitDefEqProofs only [List.map_cons, Nat.reduceLT, ev_tab, ne_eq, Nat.reduceEqDiff, not_false_eq_true, upd_ne, upd_eq, List.map_nil] <;> rfl) c4 ?_
  simp -implicitDefEqProofs only [↓ops_cons, ↓g_move, ↓g_extract, Nat.reduceLT, ev_tab, upd_eq, ext_0, ne_eq, Nat.reduceEqDiff, not_false_eq_true, upd_ne, ext_1, ext_2, ↓g_assign, ↓ops_nil, ↓w_seq, ↓w_region, ↓g_buildV, List.map_cons, List.map_nil, cells_int, ↓g_alloc, zero58, Option.map_some, ↓g_store, ↓g_load, alK_some, List.all_cons, one_int, one_str, List.all_nil, Bool.and_self, List.length_cons, List.length_nil, Nat.zero_add, List.cons_append, List.nil_append, wr_def, tyOk58, cells58, List.getElem?_cons_succ, List.getElem?_cons_zero, wr_c, Nat.reduceAdd, Nat.le_refl, true_and, List.set_cons_succ, List.set_cons_zero, rd_def, agg58, onS_ite, onS_some, cells_str, bds58, cells_agg, and_self, ovr_m, ovr_n, rd_aggc, List.drop_zero, List.take_succ_cons, List.take_zero, if_true]
  cases b4 with
  | false =>
    rcases hp0 with hp | hp
    · have c5 := ptS i t f d hp.1 hp.2
      unfold prt at c5
      refine call1 (by simp -implicitDefEqProofs only [List.map_cons, Nat.reduceLT, ev_tab, upd_eq, List.map_nil] <;> rfl) c5 ?_
      simp -implicitDefEqProofs only [↓ops_cons, ↓g_move, ↓g_extract, Nat.reduceLT, ev_tab, upd_eq, ext_0, ne_eq, Nat.reduceEqDiff, not_false_eq_true, upd_ne, ext_1, ↓g_assign, ↓ops_nil, ↓w_seq, ↓w_region, ↓g_unOp, u_not, Bool.not_false, Option.map_some, onS_some, yielded_tab, dstAt_s, dstAt_0, ybv_some, boolOf_b, ↓g_guard_f, ↓g_pick, ev_const, of_bool, pick_b, if_true, ↓w_cond, ↓g_buildV, List.map_nil, bz58, ↓g_store, wr_def, tyOk58, cells58, List.getElem?_cons_zero, wr_c, Nat.zero_add, List.length_cons, List.length_nil, Nat.reduceAdd, Nat.le_refl, true_and, List.set_cons_zero, ↓w_ret, ret_ct, rd_def, agg58, onS_ite, cells_agg, List.all_cons, one_int, one_str, List.all_nil, Bool.and_self, and_self, ovr_m, ovr_n, rd_aggc, List.drop_zero, List.take_succ_cons, List.take_zero, ↓w_skip, ↓g_load, List.getElem?_cons_succ, onB_true]
    · have c5 := ptNoS i t f d hp (by omega)
      unfold prt at c5
      refine call1 (by simp -implicitDefEqProofs only [List.map_cons, Nat.reduceLT, ev_tab, upd_eq, List.map_nil] <;> rfl) c5 ?_
      simp -implicitDefEqProofs only [↓ops_cons, ↓g_move, ↓g_extract, Nat.reduceLT, ev_tab, upd_eq, ext_0, ne_eq, Nat.reduceEqDiff, not_false_eq_true, upd_ne, ext_1, ↓g_assign, ↓ops_nil, ↓w_seq, ↓w_region, ↓g_unOp, u_not, Bool.not_false, Option.map_some, onS_some, yielded_tab, dstAt_s, dstAt_0, ybv_some, boolOf_b, ↓g_guard_f, ↓g_pick, ev_const, of_bool, pick_b, if_true, ↓w_cond, ↓g_buildV, List.map_nil, bz58, ↓g_store, wr_def, tyOk58, cells58, List.getElem?_cons_zero, wr_c, Nat.zero_add, List.length_cons, List.length_nil, Nat.reduceAdd, Nat.le_refl, true_and, List.set_cons_zero, ↓w_ret, ret_ct, rd_def, agg58, onS_ite, cells_agg, List.all_cons, one_int, one_str, List.all_nil, Bool.and_self, and_self, ovr_m, ovr_n, rd_aggc, List.drop_zero, List.take_succ_cons, List.take_zero, ↓w_skip, ↓g_load, List.getElem?_cons_succ, onB_true]
  | true =>
    rcases hp0 with hp | hp
    · have c5 := ptS i t f d hp.1 hp.2
      unfold prt at c5
      have hne : ¬ ptT i t f d = z := fun x => hno ⟨rfl, rfl, rfl, rfl, hp, x⟩
      rcases hk0 with hk | hk
      · refine call1 (by simp -implicitDefEqProofs only [List.map_cons, Nat.reduceLT, ev_tab, upd_eq, List.map_nil] <;> rfl) c5 ?_
        simp -implicitDefEqProofs only [↓ops_cons, ↓g_move, ↓g_extract, hk, Nat.reduceLT, ev_tab, upd_eq, ext_0, ne_eq, Nat.reduceEqDiff, not_false_eq_true, upd_ne, ext_1, ↓g_assign, ↓ops_nil, ↓w_seq, ↓w_region, ↓g_unOp, u_not, Bool.not_true, Option.map_some, onS_some, yielded_tab, dstAt_s, dstAt_0, ybv_some, boolOf_b, ↓g_guard_t, reduceCtorEq, par0, ↓g_len, Try.underlying9, len_str, ↓g_binOp, ↓g_pick, ev_const, of_bool, pick_b, Bool.false_eq_true, if_false, b_neq, decide_true, ↓w_cond, ↓g_buildV, List.map_nil, bz58, ↓g_store, wr_def, tyOk58, cells58, List.getElem?_cons_zero, wr_c, Nat.zero_add, List.length_cons, List.length_nil, Nat.reduceAdd, Nat.le_refl, true_and, List.set_cons_zero, ↓w_ret, ret_ct, rd_def, agg58, onS_ite, cells_agg, List.all_cons, one_int, one_str, List.all_nil, Bool.and_self, and_self, ovr_m, ovr_n, rd_aggc, List.drop_zero, List.take_succ_cons, List.take_zero, if_true, ↓w_skip, ↓g_load, List.getElem?_cons_succ, t_neq, neT hne, Bool.not_false, onB_true]
      · refine call1 (by simp -implicitDefEqProofs only [List.map_cons, Nat.reduceLT, ev_tab, upd_eq, List.map_nil] <;> rfl) c5 ?_
        simp -implicitDefEqProofs only [↓ops_cons, ↓g_move, ↓g_extract, Nat.reduceLT, ev_tab, upd_eq, ext_0, ne_eq, Nat.reduceEqDiff, not_false_eq_true, upd_ne, ext_1, ↓g_assign, ↓ops_nil, ↓w_seq, ↓w_region, ↓g_unOp, u_not, Bool.not_true, Option.map_some, onS_some, yielded_tab, dstAt_s, dstAt_0, ybv_some, boolOf_b, ↓g_guard_t, reduceCtorEq, par0, ↓g_len, Try.underlying9, len_str, ↓g_binOp, ↓g_pick, ev_const, of_bool, pick_b, Bool.false_eq_true, if_false, b_neq, hk, decide_false, Bool.not_false, ↓g_guard_f, if_true, ↓w_cond, ↓g_buildV, List.map_nil, bz58, ↓g_store, wr_def, tyOk58, cells58, List.getElem?_cons_zero, wr_c, Nat.zero_add, List.length_cons, List.length_nil, Nat.reduceAdd, Nat.le_refl, true_and, List.set_cons_zero, ↓w_ret, ret_ct, rd_def, agg58, onS_ite, cells_agg, List.all_cons, one_int, one_str, List.all_nil, Bool.and_self, and_self, ovr_m, ovr_n, rd_aggc, List.drop_zero, List.take_succ_cons, List.take_zero, ↓w_skip, ↓g_load, List.getElem?_cons_succ, onB_true]
    · have c5 := ptNoS i t f d hp (by omega)
      unfold prt at c5
      rcases hk0 with hk | hk
      · refine call1 (by simp -implicitDefEqProofs only [List.map_cons, Nat.reduceLT, ev_tab, upd_eq, List.map_nil] <;> rfl) c5 ?_
        simp -implicitDefEqProofs only [↓ops_cons, ↓g_move, ↓g_extract, hk, Nat.reduceLT, ev_tab, upd_eq, ext_0, ne_eq, Nat.reduceEqDiff, not_false_eq_true, upd_ne, ext_1, ↓g_assign, ↓ops_nil, ↓w_seq, ↓w_region, ↓g_unOp, u_not, Bool.not_true, Option.map_some, onS_some, yielded_tab, dstAt_s, dstAt_0, ybv_some, boolOf_b, ↓g_guard_t, reduceCtorEq, par0, ↓g_len, Try.underlying9, len_str, ↓g_binOp, ↓g_pick, ev_const, of_bool, pick_b, Bool.false_eq_true, if_false, b_neq, decide_true, Bool.not_false, ↓g_guard_f, if_true, ↓w_cond, ↓g_buildV, List.map_nil, bz58, ↓g_store, wr_def, tyOk58, cells58, List.getElem?_cons_zero, wr_c, Nat.zero_add, List.length_cons, List.length_nil, Nat.reduceAdd, Nat.le_refl, true_and, List.set_cons_zero, ↓w_ret, ret_ct, rd_def, agg58, onS_ite, cells_agg, List.all_cons, one_int, one_str, List.all_nil, Bool.and_self, and_self, ovr_m, ovr_n, rd_aggc, List.drop_zero, List.take_succ_cons, List.take_zero, ↓w_skip, ↓g_load, List.getElem?_cons_succ, onB_true]
      · refine call1 (by simp -implicitDefEqProofs only [List.map_cons, Nat.reduceLT, ev_tab, upd_eq, List.map_nil] <;> rfl) c5 ?_
        simp -implicitDefEqProofs only [↓ops_cons, ↓g_move, ↓g_extract, Nat.reduceLT, ev_tab, upd_eq, ext_0, ne_eq, Nat.reduceEqDiff, not_false_eq_true, upd_ne, ext_1, ↓g_assign, ↓ops_nil, ↓w_seq, ↓w_region, ↓g_unOp, u_not, Bool.not_true, Option.map_some, onS_some, yielded_tab, dstAt_s, dstAt_0, ybv_some, boolOf_b, ↓g_guard_t, reduceCtorEq, par0, ↓g_len, Try.underlying9, len_str, ↓g_binOp, ↓g_pick, ev_const, of_bool, pick_b, Bool.false_eq_true, if_false, b_neq, hk, decide_false, Bool.not_false, ↓g_guard_f, if_true, ↓w_cond, ↓g_buildV, List.map_nil, bz58, ↓g_store, wr_def, tyOk58, cells58, List.getElem?_cons_zero, wr_c, Nat.zero_add, List.length_cons, List.length_nil, Nat.reduceAdd, Nat.le_refl, true_and, List.set_cons_zero, ↓w_ret, ret_ct, rd_def, agg58, onS_ite, cells_agg, List.all_cons, one_int, one_str, List.all_nil, Bool.and_self, and_self, ovr_m, ovr_n, rd_aggc, List.drop_zero, List.take_succ_cons, List.take_zero, ↓w_skip, ↓g_load, List.getElem?_cons_succ, onB_true]
end
end Go.Proofs.Ytknmbiebnpojjaa.Sim
namespace Go.Proofs.Ytknmbiebnpojjaa.Sim
open Go
set_option maxRecDepth 100000
set_option maxHeartbeats 4000000
set_option linter.unusedSimpArgs false
set_option linter.unusedVariables false
structure Prt where
  i : Int
  t : Int
  f : Int
  z : ByteArray
def pcs (p : Prt) : List AV := [.sc (.int .i64 p.i), .sc (.int .i64 p.t), .sc (.int .i64 p.f), .sc (.string p.z)]
theorem pcsE : Enc pcs 4 := ⟨fun _ => rfl, fun _ => rfl, by decide⟩
theorem pcs_prt (p : Prt) : AV.agg (pcs p) = prt p.i p.t p.f p.z := rfl
/-- A slice of the whole of a region of parts, or none at all. -/
def IsPs (H : AHeap) (x : AV) (l : List Prt) : Prop := (x = .sc (.slice none 0 0) ∧ l = []) ∨ ∃ r own, x = .sl r 0 l.length 4 ∧ H[r]? = some ⟨rows pcs l, own, true⟩
theorem IsPs.nil (H : AHeap) : IsPs H (.sc (.slice none 0 0)) [] := .inl ⟨rfl, rfl⟩
theorem IsPs.at {H : AHeap} {r n : Nat} {own : Bool} {l : List Prt} (h : H[r]? = some ⟨rows pcs l, own, true⟩) (hn : l.length = n) : IsPs H (.sl r 0 n 4) l := .inr ⟨r, own, by rw [hn], h⟩
theorem IsPs.len {H : AHeap} {x : AV} {l : List Prt} (e : TypeId) (h : IsPs H x l) : lenV (some (.slice e)) x = some (.sc (.int .i64 l.length)) := by
  rcases h with ⟨rfl, rfl⟩ | ⟨r, own, rfl, _⟩ <;> rfl
theorem IsPs.get {H : AHeap} {x : AV} {l : List Prt} (h : IsPs H x l) {i : Nat} (hi : i < l.length) : ∃ r own, x = .sl r 0 l.length 4 ∧ H[r]? = some ⟨rows pcs l, own, true⟩ := by
  rcases h with ⟨rfl, rfl⟩ | h
  · simp at hi
  · exact h
theorem Ext.isPs {H Z : AHeap} (a : Ext H Z) {y : AV} {l : List Prt} (h : IsPs H y l) : IsPs Z y l := by
  rcases h with ⟨rfl, rfl⟩ | ⟨q, o, rfl, hq⟩
  · exact .nil _
  · exact .inr ⟨q, o, _root_.rfl, a.at hq⟩
/-- A mark's text. -/
def digs (n : Nat) : List Int := if n = 0 then [] else digs (n / 10) ++ [((48 + n % 10 : Nat) : Int)]
termination_by n
decreasing_by omega
theorem digs_0 : digs 0 = [] := by rw [digs, if_pos rfl]
theorem digs_s {n : Nat} (h : 0 < n) : digs n = digs (n / 10) ++ [((48 + n % 10 : Nat) : Int)] := by rw [digs, if_neg (by omega)]
theorem digs_len (k : Nat) : ∀ n, n < 10 ^ k → (digs n).length ≤ k := by
  induction k with
  | zero =>
    intro n h
    have : n = 0 := by simpa using h
    rw [this, digs_0]
    simp
  | succ k ih =>
    intro n h
    by_cases h0 : 0 < n
    · have h1 : n / 10 < 10 ^ k := by
        rw [Nat.div_lt_iff_lt_mul (by decide)]
        rwa [Nat.pow_succ] at h
      have := ih _ h1
      rw [digs_s h0, List.length_append, List.length_singleton]
      omega
    · have : n = 0 := by omega
      rw [this, digs_0]
      simp
def mkT (n : Nat) : ByteArray := strOfNums (109 :: digs n)
theorem mark_m (l : List Int) : (⟨#[109]⟩ : ByteArray) ++ strOfNums l = strOfNums (109 :: l) := by
  have : (⟨#[109]⟩ : ByteArray) = strOfNums [109] := rfl
  rw [this, son_append]
  rfl
def mkP (k : Nat) : Prt := ⟨(k : Int), ((k + 1 : Nat) : Int), ((k + 2 : Nat) : Int), mkT (k + 3)⟩
def mkPs (k : Nat) : Nat → List Prt
  | 0 => []
  | n + 1 => mkPs k n ++ [mkP (k + 4 * n)]
theorem mkPs_len (k : Nat) : ∀ n, (mkPs k n).length = n
  | 0 => rfl
  | n + 1 => by rw [mkPs, List.length_append, mkPs_len k n]; rfl
theorem mkPs_get (k : Nat) : ∀ n i, i < n → (mkPs k n)[i]? = some (mkP (k + 4 * i))
  | 0, i, h => by omega
  | n + 1, i, h => by
    rw [mkPs]
    by_cases hi : i < n
    · rw [List.getElem?_append_left (by rw [mkPs_len]; exact hi)]
      exact mkPs_get k n i hi
    · have : i = n := by omega
      subst this
      rw [List.getElem?_append_right (by rw [mkPs_len]; exact Nat.le_refl _), mkPs_len, Nat.sub_self]
      rfl
theorem neq_self (a : Int) : (a != a) = false := by simp
end Go.Proofs.Ytknmbiebnpojjaa.Sim
namespace Go.Proofs.Ytknmbiebnpojjaa.Sim
open Go
set_option maxRecDepth 100000
set_option maxHeartbeats 4000000
set_option linter.unusedSimpArgs false
set_option linter.unusedVariables false
def cutAt (i : Int) (z : ByteArray) (s j : Nat) : Prt := ⟨i, z.size, ((j * s : Nat) : Int), z.extract (j * s) (min (j * s + s) z.size)⟩
def cutP (i : Int) (z : ByteArray) (s : Nat) : Nat → List Prt
  | 0 => []
  | n + 1 => cutP i z s n ++ [cutAt i z s n]
theorem cutP_len (i : Int) (z : ByteArray) (s : Nat) : ∀ n, (cutP i z s n).length = n
  | 0 => rfl
  | n + 1 => by rw [cutP, List.length_append, cutP_len i z s n]; rfl
def cutN (z : ByteArray) (s : Nat) : Nat := max 1 ((z.size + s - 1) / s)
def okCut (i : Int) (z : ByteArray) (s : Int) : Prop := (0 ≤ i ∧ i ≤ 65535) ∧ (1 ≤ s ∧ s ≤ 1000) ∧ z.size ≤ 4000
theorem cutN_lt {z : ByteArray} {s j : Nat} (hs : 1 ≤ s) : j < cutN z s ↔ (j * s < z.size ∨ j = 0) := by
  unfold cutN
  have h1 : j < (z.size + s - 1) / s ↔ j * s < z.size := by
    rw [Nat.lt_iff_add_one_le, Nat.le_div_iff_mul_le (by omega), Nat.add_mul, Nat.one_mul]
    omega
  omega
theorem cutN_le {z : ByteArray} {s : Nat} (hs : 1 ≤ s) (hz : z.size ≤ 4000) : cutN z s ≤ 4001 := by
  unfold cutN
  have : (z.size + s - 1) / s ≤ 4000 := by
    apply Nat.div_le_of_le_mul
    have : 4000 * 1 ≤ 4000 * s := Nat.mul_le_mul_left _ hs
    rw [Nat.mul_comm s]
    obtain ⟨b, hb⟩ : ∃ b, s = b + 1 := ⟨s - 1, by omega⟩
    subst hb
    omega
  omega
theorem ap39 {H : AHeap} {B r len : Nat} {l k : List Prt} (h1 : len = l.length) (h2 : len ≤ 1000000) (h3 : k.length ≤ 10) (hB : B = 40) : apR 4 B H r len (some ⟨rows pcs l, true, true⟩) (some (rows pcs k)) = some (.sl H.length 0 (len + k.length) 4, killReg H r ++ [⟨rows pcs (l ++ k), true, true⟩]) := by
  rw [ap_rows pcsE, if_pos ⟨by omega, by rw [hB]; omega, by omega⟩, h1, List.take_length]
theorem min_i (k q : IntKind) (x y : Int) : minI [.sc (.int k x), .sc (.int q y)] = some (.int k (if y < x then y else x)) := rfl
theorem cutI (i : Int) (z : ByteArray) (s : Nat) (h : okCut i z s) (H : AHeap) : ∃ (q : Nat) (Z : AHeap), Sound Try.prog 37 [.sc (.int .i64 i), .sc (.string z), .sc (.int .i64 s)] H (.tup [.sl q 0 (cutN z s) 4, .sc (.bool true)]) Z ∧ Ext H Z ∧ H.length ≤ q ∧ Z[q]? = some ⟨rows pcs (cutP i z s (cutN z s)), true, true⟩ := by
  suffices hh : ∃ v Z, Sound Try.prog 37 [.sc (.int .i64 i), .sc (.string z), .sc (.int .i64 s)] H v Z ∧ ∃ q, v = .tup [.sl q 0 (cutN z s) 4, .sc (.bool true)] ∧ Ext H Z ∧ H.length ≤ q ∧ Z[q]? = some ⟨rows pcs (cutP i z s (cutN z s)), true, true⟩ by
    obtain ⟨v, Z, h1, q, rfl, h2⟩ := hh
    exact ⟨q, Z, h1, h2⟩
  refine Sound.runP (args := [.sc (.int .i64 i), .sc (.string z), .sc (.int .i64 s)]) 55 [.tmp 6, .tmp 7] Try.func37 rfl rfl rfl rfl (by simp) (fun v Z => ∃ q, v = .tup [.sl q 0 (cutN z s) 4, .sc (.bool true)] ∧ Ext H Z ∧ H.length ≤ q ∧ Z[q]? = some ⟨rows pcs (cutP i z s (cutN z s)), true, true⟩) ?_
  obtain ⟨h1, h2, h3⟩ := h
  have hs : 1 ≤ s := by omega
  have hNle := cutN_le hs h3
  have k3 : ¬ (4000 : Int) < z.size := by omega
  simp -implicitDefEqProofs only [↓w_seq, ↓w_region, ↓ops_cons, ↓g_assign, ↓ops_nil, ev_const, of_bool, ↓g_move, Nat.reduceLT, ev_tab, ne_eq, reduceCtorEq, not_false_eq_true, upd_ne, par0]
  refine call1 (by simp -implicitDefEqProofs only [List.map_cons, Nat.reduceLT, ev_tab, upd_eq, ev_const, of_int, List.map_nil] <;> rfl) (inI i 0 65535) ?_
  rw [decide_eq_true h1]
  simp -implicitDefEqProofs only [↓ops_cons, ↓g_unOp, Nat.reduceLT, ev_tab, upd_eq, u_not, Bool.not_true, Option.map_some, ↓g_move, onS_some, yielded_tab, dstAt_s, dstAt_0, ybv_some, boolOf_b, ↓g_guard_t, ne_eq, Nat.reduceEqDiff, not_false_eq_true, upd_ne, par2]
  refine call1 (by simp -implicitDefEqProofs only [List.map_cons, Nat.reduceLT, ev_tab, upd_eq, ev_const, of_int, List.map_nil] <;> rfl) (inI s 1 1000) ?_
  rw [decide_eq_true h2]
  simp -implicitDefEqProofs only [↓ops_cons, yielded_tab, dstAt_s, dstAt_0, Nat.reduceLT, ybv_some, ne_eq, Nat.reduceEqDiff, not_false_eq_true, upd_ne, upd_eq, boolOf_b, ↓g_guard_t, ↓g_unOp, ev_tab, u_not, Bool.not_true, Option.map_some, ↓g_pick, ev_const, of_bool, pick_b, reduceCtorEq, if_false, ↓g_move, onS_some, par1, ↓g_len, Try.underlying9, len_str, ↓g_binOp, of_int, ↓ops_nil, ↓w_cond, ↓w_seq, ↓w_region, ↓g_assign, ↓w_ret, retP_2, res_tmp, ↓w_skip, ↓g_buildSlice, Try.underlying49, List.map_nil, bs58_0, ↓w_block, alK_some, List.all_nil, true_and, b_gtr, k3, decide_false, onB_false]
  refine w_loop (ι := Nat) (fun j st => ∃ (T : Nat → AV) (Z : AHeap) (q : Nat), st = ⟨tab 55 T, Z⟩ ∧ j ≤ cutN z s ∧ Ext H Z ∧ H.length ≤ q ∧ Z[q]? = some ⟨rows pcs (cutP i z s j), true, true⟩ ∧ T 0 = .sc (.int .i64 i) ∧ T 1 = .sc (.string z) ∧ T 2 = .sc (.int .i64 s) ∧ T 8 = .sl q 0 j 4 ∧ T 9 = .sc (.int .i64 ((j * s : Nat) : Int))) (fun j => cutN z s - j) ?_ (i := 0) ?_
  · rintro j st ⟨T, Z, q, rfl, a0, a1, a2, a3, b0, b1, b2, b3, b4⟩
    by_cases hj : j < cutN z s
    · have hc := (cutN_lt hs).1 hj
      have hjs : j * s ≤ z.size := by
        rcases hc with hc | rfl
        · omega
        · omega
      have e1 : IntKind.i64.wrap (((j * s : Nat) : Int) + (s : Int)) = (((j + 1) * s : Nat) : Int) := by
        rw [Nat.add_mul, Nat.one_mul, w64 (by omega) (by omega)]
        omega
      have e2 : ((if (z.size : Int) < (((j + 1) * s : Nat) : Int) then (z.size : Int) else (((j + 1) * s : Nat) : Int))) = ((min (j * s + s) z.size : Nat) : Int) := by
        rw [Nat.add_mul, Nat.one_mul]
        split <;> omega
      have q1 : (0 : Int) ≤ ((j * s : Nat) : Int) := by omega
      have q2 : (0 : Int) ≤ ((min (j * s + s) z.size : Nat) : Int) := by omega
      have q3 : j * s ≤ min (j * s + s) z.size := by omega
      have q4 : min (j * s + s) z.size ≤ z.size := by omega
      have hrow : [AV.sc (.int .i64 i), .sc (.int .i64 z.size), .sc (.int .i64 ((j * s : Nat) : Int)), .sc (.string (z.extract (j * s) (min (j * s + s) z.size)))] = rows pcs [cutAt i z s j] := rfl
      have ha3 : ∀ g : Reg, (Z ++ [g])[q]? = some ⟨rows pcs (cutP i z s j), true, true⟩ := fun g => (at_more _ _ _ (at_lt a3)).trans a3
      have hap := fun (G : AHeap) r => ap39 (H := G) (B := 40) (r := r) (len := j) (l := cutP i z s j) (k := [cutAt i z s j]) (cutP_len i z s j).symm (by omega) (by simp) rfl
      have hat := fun o => at_rows pcsE [cutAt i z s j] o 1
      have hlen4 : (rows pcs [cutAt i z s j]).length = 4 := rfl
      have hall := rows_all pcsE [cutAt i z s j]
      have hcond : ((j * s : Nat) : Int) < z.size ∨ (¬ ((j * s : Nat) : Int) < z.size ∧ ((j * s : Nat) : Int) = 0) := by
        rcases hc with hc | rfl
        · exact .inl (by omega)
        · by_cases h0 : ((0 * s : Nat) : Int) < z.size
          · exact .inl h0
          · exact .inr ⟨h0, by omega⟩
      rcases hcond with c1 | ⟨c1, c2⟩
      · simp -implicitDefEqProofs only [↓w_seq, ↓w_region, ↓ops_cons, ↓g_move, ↓g_len, Try.underlying9, Nat.reduceLT, ev_tab, b4, ne_eq, Nat.reduceEqDiff, not_false_eq_true, upd_ne, b1, upd_eq, len_str, ↓g_binOp, onS_some, b_lss, c1, decide_true, yielded_tab, dstAt_s, dstAt_0, ybv_some, boolOf_b, Bool.not_false, ↓g_guard_f, ↓g_pick, ev_const, of_bool, pick_b, if_true, ↓ops_nil, ↓w_cond, ↓w_skip, ↓w_block, b2, b_add, e1, ↓g_min, List.map_cons, List.map_nil, ↓g_slice, Option.map_some, cut_str, bnd_int, q1, Int.toNat_natCast, ↓g_assign, b3, reduceCtorEq, b0, ↓g_buildV, cells_int, ↓g_buildSlice, Try.underlying49, ↓g_append, apS49, min_i, e2, q2, cutS_some, q3, q4, and_self, cells_str, bds58, hrow, hlen4, bs58_1, alK_some, hall, ha3, src_slR, at_end, Nat.reduceMul, hat, List.length_cons, List.length_nil, Nat.zero_add, Nat.le_refl, List.take_succ_cons, List.take_zero, hap, List.length_append, true_and, ↓w_exit, ↓w_ret, retP_2, res_tmp, onB_true]
        refine ⟨j + 1, by omega, _, _, Z.length + 1, rfl, by omega, ((a1.add _).kill a2).add _, ?_, ?_, ?_, ?_, ?_, ?_, ?_⟩
        · have := a1.1
          omega
        · have := at_end (killReg (Z ++ [⟨rows pcs [cutAt i z s j], true, true⟩]) q) ⟨rows pcs (cutP i z s j ++ [cutAt i z s j]), true, true⟩
          rwa [kill_len, List.length_append, List.length_singleton] at this
        all_goals (simp -implicitDefEqProofs only [ne_eq, reduceCtorEq, not_false_eq_true, upd_ne, b0, Nat.reduceEqDiff, b1, b2, upd_eq] <;> rfl)
      · have c2 := eq_true c2
        simp -implicitDefEqProofs only [↓w_seq, ↓w_region, ↓ops_cons, ↓g_move, ↓g_len, Try.underlying9, Nat.reduceLT, ev_tab, b4, ne_eq, Nat.reduceEqDiff, not_false_eq_true, upd_ne, b1, upd_eq, len_str, ↓g_binOp, onS_some, b_lss, c1, decide_false, yielded_tab, dstAt_s, dstAt_0, ybv_some, boolOf_b, ↓g_guard_t, ev_const, of_int, b_eql, c2, decide_true, ↓g_pick, of_bool, pick_b, reduceCtorEq, if_false, ↓ops_nil, ↓w_cond, ↓w_skip, ↓w_block, b2, b_add, e1, ↓g_min, List.map_cons, List.map_nil, ↓g_slice, Option.map_some, cut_str, bnd_int, q1, Int.toNat_natCast, if_true, ↓g_assign, b3, b0, ↓g_buildV, cells_int, ↓g_buildSlice, Try.underlying49, ↓g_append, apS49, min_i, e2, q2, cutS_some, q3, q4, and_self, cells_str, bds58, hrow, hlen4, bs58_1, alK_some, hall, ha3, src_slR, at_end, Nat.reduceMul, hat, List.length_cons, List.length_nil, Nat.zero_add, Nat.le_refl, List.take_succ_cons, List.take_zero, hap, List.length_append, true_and, ↓w_exit, ↓w_ret, retP_2, res_tmp, onB_true]
        refine ⟨j + 1, by omega, _, _, Z.length + 1, rfl, by omega, ((a1.add _).kill a2).add _, ?_, ?_, ?_, ?_, ?_, ?_, ?_⟩
        · have := a1.1
          omega
        · have := at_end (killReg (Z ++ [⟨rows pcs [cutAt i z s j], true, true⟩]) q) ⟨rows pcs (cutP i z s j ++ [cutAt i z s j]), true, true⟩
          rwa [kill_len, List.length_append, List.length_singleton] at this
        all_goals (simp -implicitDefEqProofs only [ne_eq, reduceCtorEq, not_false_eq_true, upd_ne, b0, Nat.reduceEqDiff, b1, b2, upd_eq] <;> rfl)
    · have hjn : j = cutN z s := by omega
      have hn : ¬ (j * s < z.size ∨ j = 0) := fun h => hj ((cutN_lt hs).2 h)
      have c1 : ¬ ((j * s : Nat) : Int) < z.size := fun h => hn (.inl (by omega))
      have hjs : j * s ≠ 0 := by
        have : j ≠ 0 := fun h => hn (.inr h)
        exact Nat.mul_ne_zero this (by omega)
      have c2 : ¬ ((j * s : Nat) : Int) = 0 := by omega
      subst hjn
      simp -implicitDefEqProofs only [↓w_seq, ↓w_region, ↓ops_cons, ↓g_move, ↓g_len, Try.underlying9, Nat.reduceLT, ev_tab, b4, ne_eq, Nat.reduceEqDiff, not_false_eq_true, upd_ne, b1, upd_eq, len_str, ↓g_binOp, onS_some, b_lss, c1, decide_false, yielded_tab, dstAt_s, dstAt_0, ybv_some, boolOf_b, ↓g_guard_t, ev_const, of_int, b_eql, c2, ↓g_pick, of_bool, pick_b, reduceCtorEq, if_false, ↓ops_nil, ↓w_cond, ↓w_skip, ↓w_block, b2, b_add, ↓w_exit, ↓g_assign, ↓w_ret, b3, retP_2, res_tmp, if_true, onB_false]
      exact ⟨q, rfl, a1, a2, a3⟩
  · refine ⟨_, _, H.length, rfl, by omega, Ext.more _ _, Nat.le_refl _, at_end _ _, ?_, ?_, ?_, ?_, ?_⟩
    all_goals (simp -implicitDefEqProofs only [ne_eq, reduceCtorEq, not_false_eq_true, upd_ne, par0, Nat.reduceEqDiff, par1, par2, upd_eq, Nat.zero_mul, Int.cast_ofNat_Int] <;> rfl)
theorem cutNoI (i : Int) (z : ByteArray) (s : Int) (h : ¬ okCut i z s) (hz : z.size ≤ 1000000000) : Fn Try.prog 37 [.sc (.int .i64 i), .sc (.string z), .sc (.int .i64 s)] (.tup [.sc (.slice none 0 0), .sc (.bool false)]) := by
  refine Fn.run 55 [.tmp 6, .tmp 7] Try.func37 rfl rfl rfl rfl (by simp) (flats_cons (.sc _) (flats_cons (.sc _) (flats_cons (.sc _) flats_nil))) (.tup (flats_cons (.sc _) (flats_cons (.sc _) flats_nil))) ?_
  simp -implicitDefEqProofs only [↓w_seq, ↓w_region, ↓ops_cons, ↓g_assign, ↓ops_nil, ev_const, of_bool, ↓g_move, Nat.reduceLT, ev_tab, ne_eq, reduceCtorEq, not_false_eq_true, upd_ne, par0]
  refine call1 (by simp -implicitDefEqProofs only [List.map_cons, Nat.reduceLT, ev_tab, upd_eq, ev_const, of_int, List.map_nil] <;> rfl) (inI i 0 65535) ?_
  by_cases h1 : 0 ≤ i ∧ i ≤ 65535
  · rw [decide_eq_true h1]
    simp -implicitDefEqProofs only [↓ops_cons, ↓g_unOp, Nat.reduceLT, ev_tab, upd_eq, u_not, Bool.not_true, Option.map_some, ↓g_move, onS_some, yielded_tab, dstAt_s, dstAt_0, ybv_some, boolOf_b, ↓g_guard_t, ne_eq, Nat.reduceEqDiff, not_false_eq_true, upd_ne, par2]
    refine call1 (by simp -implicitDefEqProofs only [List.map_cons, Nat.reduceLT, ev_tab, upd_eq, ev_const, of_int, List.map_nil] <;> rfl) (inI s 1 1000) ?_
    by_cases h2 : 1 ≤ s ∧ s ≤ 1000
    · rw [decide_eq_true h2]
      have h3 : (4000 : Int) < z.size := by
        have : ¬ z.size ≤ 4000 := fun h3 => h ⟨h1, h2, h3⟩
        omega
      simp -implicitDefEqProofs only [↓ops_cons, yielded_tab, dstAt_s, dstAt_0, Nat.reduceLT, ybv_some, ne_eq, Nat.reduceEqDiff, not_false_eq_true, upd_ne, upd_eq, boolOf_b, ↓g_guard_t, ↓g_unOp, ev_tab, u_not, Bool.not_true, Option.map_some, ↓g_pick, ev_const, of_bool, pick_b, reduceCtorEq, if_false, ↓g_move, onS_some, par1, ↓g_len, Try.underlying9, len_str, ↓g_binOp, of_int, ↓ops_nil, ↓w_cond, ↓w_seq, ↓w_region, ↓g_assign, ↓w_ret, ret_two, ↓w_skip, ↓g_buildSlice, Try.underlying49, List.map_nil, bs58_0, ↓w_block, alK_some, List.all_nil, List.length_nil, List.nil_append, true_and, b_gtr, h3, decide_true, onB_true]
      try rfl
    · rw [decide_eq_false h2]
      simp -implicitDefEqProofs only [↓ops_cons, yielded_tab, dstAt_s, dstAt_0, Nat.reduceLT, ybv_some, ne_eq, Nat.reduceEqDiff, not_false_eq_true, upd_ne, upd_eq, boolOf_b, ↓g_guard_t, ↓g_unOp, ev_tab, u_not, Bool.not_false, Option.map_some, ↓g_pick, ev_const, of_bool, pick_b, reduceCtorEq, if_false, ↓g_move, onS_some, ↓g_guard_f, if_true, ↓ops_nil, ↓w_cond, ↓w_seq, ↓w_region, ↓g_assign, ↓w_ret, ret_two, ↓w_skip, ↓g_buildSlice, Try.underlying49, List.map_nil, bs58_0, ↓w_block, of_int, alK_some, List.all_nil, List.length_nil, List.nil_append, true_and, onB_true]
      try rfl
  · rw [decide_eq_false h1]
    simp -implicitDefEqProofs only [↓ops_cons, ↓g_unOp, Nat.reduceLT, ev_tab, upd_eq, u_not, Bool.not_false, Option.map_some, ↓g_move, onS_some, yielded_tab, dstAt_s, dstAt_0, ybv_some, boolOf_b, ↓g_guard_f, ne_eq, Nat.reduceEqDiff, not_false_eq_true, upd_ne, ↓g_pick, ev_const, of_bool, pick_b, if_true, ↓ops_nil, ↓w_cond, ↓w_seq, ↓w_region, ↓g_assign, ↓w_ret, ret_two, ↓w_skip, ↓g_buildSlice, Try.underlying49, List.map_nil, bs58_0, ↓w_block, of_int, alK_some, List.all_nil, List.length_nil, List.nil_append, true_and, onB_true]
    try rfl
theorem cutNoS (i : Int) (z : ByteArray) (s : Int) (h : ¬ okCut i z s) (hz : z.size ≤ 1000000000) (H : AHeap) : Sound Try.prog 45 [.sc (.int .i64 i), .sc (.string z), .sc (.int .i64 s)] H (.tup [.sl H.length 0 0 4, .sc (.bool false)]) (H ++ [⟨[], true, true⟩]) := by
  refine Sound.run 60 [.tmp 6, .tmp 7] Try.func45 rfl rfl rfl rfl (by simp) ?_
  simp -implicitDefEqProofs only [↓w_seq, ↓w_region, ↓ops_cons, ↓g_assign, ↓ops_nil, ev_const, of_bool, ↓g_buildSlice, Try.underlying49, List.map_nil, bs58_0, Nat.reduceLT, ev_tab, upd_eq, ↓g_move, ne_eq, reduceCtorEq, not_false_eq_true, upd_ne, par0, alK_some, List.all_nil, true_and]
  refine call1 (by simp -implicitDefEqProofs only [List.map_cons, Nat.reduceLT, ev_tab, upd_eq, ev_const, of_int, List.map_nil] <;> rfl) (inS i 0 65535) ?_
  by_cases h1 : 0 ≤ i ∧ i ≤ 65535
  · rw [decide_eq_true h1]
    simp -implicitDefEqProofs only [↓ops_cons, ↓g_unOp, Nat.reduceLT, ev_tab, upd_eq, u_not, Bool.not_true, Option.map_some, ↓g_move, onS_some, yielded_tab, dstAt_s, dstAt_0, ybv_some, boolOf_b, ↓g_guard_t, ne_eq, Nat.reduceEqDiff, not_false_eq_true, upd_ne, par2]
    refine call1 (by simp -implicitDefEqProofs only [List.map_cons, Nat.reduceLT, ev_tab, upd_eq, ev_const, of_int, List.map_nil] <;> rfl) (inS s 1 1000) ?_
    by_cases h2 : 1 ≤ s ∧ s ≤ 1000
    · rw [decide_eq_true h2]
      have h3 : (4000 : Int) < z.size := by
        have : ¬ z.size ≤ 4000 := fun h3 => h ⟨h1, h2, h3⟩
        omega
      simp -implicitDefEqProofs only [↓ops_cons, yielded_tab, dstAt_s, dstAt_0, Nat.reduceLT, ybv_some, ne_eq, Nat.reduceEqDiff, not_false_eq_true, upd_ne, upd_eq, boolOf_b, ↓g_guard_t, ↓g_unOp, ev_tab, u_not, Bool.not_true, Option.map_some, ↓g_pick, ev_const, of_bool, pick_b, reduceCtorEq, if_false, ↓g_move, onS_some, par1, ↓g_len, Try.underlying9, len_str, ↓g_binOp, of_int, ↓ops_nil, ↓w_cond, ↓w_seq, ↓w_region, ↓g_assign, ↓w_ret, ret_two, and_self, ↓w_skip, ↓w_block, b_gtr, h3, decide_true, onB_true]
      try rfl
    · rw [decide_eq_false h2]
      simp -implicitDefEqProofs only [↓ops_cons, yielded_tab, dstAt_s, dstAt_0, Nat.reduceLT, ybv_some, ne_eq, Nat.reduceEqDiff, not_false_eq_true, upd_ne, upd_eq, boolOf_b, ↓g_guard_t, ↓g_unOp, ev_tab, u_not, Bool.not_false, Option.map_some, ↓g_pick, ev_const, of_bool, pick_b, reduceCtorEq, if_false, ↓g_move, onS_some, ↓g_guard_f, if_true, ↓ops_nil, ↓w_cond, ↓w_seq, ↓w_region, ↓g_assign, ↓w_ret, ret_two, and_self, ↓w_skip, ↓w_block, of_int, onB_true]
      try rfl
  · rw [decide_eq_false h1]
    simp -implicitDefEqProofs only [↓ops_cons, ↓g_unOp, Nat.reduceLT, ev_tab, upd_eq, u_not, Bool.not_false, Option.map_some, ↓g_move, onS_some, yielded_tab, dstAt_s, dstAt_0, ybv_some, boolOf_b, ↓g_guard_f, ne_eq, Nat.reduceEqDiff, not_false_eq_true, upd_ne, ↓g_pick, ev_const, of_bool, pick_b, if_true, ↓ops_nil, ↓w_cond, ↓w_seq, ↓w_region, ↓g_assign, ↓w_ret, ret_two, and_self, ↓w_skip, ↓w_block, of_int, onB_true]
    try rfl
end Go.Proofs.Ytknmbiebnpojjaa.Sim
namespace Go.Proofs.Ytknmbiebnpojjaa.Sim
open Go
set_option maxRecDepth 100000
set_option maxHeartbeats 4000000
set_option linter.unusedSimpArgs false
set_option linter.unusedVariables false
theorem cutPS (i : Int) (z : ByteArray) (s : Nat) (h : okCut i z s) (H : AHeap) : ∃ (q : Nat) (Z : AHeap), Sound Try.prog 45 [.sc (.int .i64 i), .sc (.string z), .sc (.int .i64 s)] H (.tup [.sl q 0 (cutN z s) 4, .sc (.bool true)]) Z ∧ Ext H Z ∧ H.length ≤ q ∧ Z[q]? = some ⟨rows pcs (cutP i z s (cutN z s)), true, true⟩ := by
  suffices hh : ∃ v Z, Sound Try.prog 45 [.sc (.int .i64 i), .sc (.string z), .sc (.int .i64 s)] H v Z ∧ ∃ q, v = .tup [.sl q 0 (cutN z s) 4, .sc (.bool true)] ∧ Ext H Z ∧ H.length ≤ q ∧ Z[q]? = some ⟨rows pcs (cutP i z s (cutN z s)), true, true⟩ by
    obtain ⟨v, Z, h1, q, rfl, h2⟩ := hh
    exact ⟨q, Z, h1, h2⟩
  refine Sound.runP (args := [.sc (.int .i64 i), .sc (.string z), .sc (.int .i64 s)]) 60 [.tmp 6, .tmp 7] Try.func45 rfl rfl rfl rfl (by simp) (fun v Z => ∃ q, v = .tup [.sl q 0 (cutN z s) 4, .sc (.bool true)] ∧ Ext H Z ∧ H.length ≤ q ∧ Z[q]? = some ⟨rows pcs (cutP i z s (cutN z s)), true, true⟩) ?_
  obtain ⟨h1, h2, h3⟩ := h
  have hs : 1 ≤ s := by omega
  have hNle := cutN_le hs h3
  have k3 : ¬ (4000 : Int) < z.size := by omega
  simp -implicitDefEqProofs only [↓w_seq, ↓w_region, ↓ops_cons, ↓g_assign, ↓ops_nil, ev_const, of_bool, ↓g_buildSlice, Try.underlying49, List.map_nil, bs58_0, Nat.reduceLT, ev_tab, upd_eq, ↓g_move, ne_eq, reduceCtorEq, not_false_eq_true, upd_ne, par0, alK_some, List.all_nil, true_and]
  refine call1 (by simp -implicitDefEqProofs only [List.map_cons, Nat.reduceLT, ev_tab, upd_eq, ev_const, of_int, List.map_nil] <;> rfl) (inS i 0 65535) ?_
  rw [decide_eq_true h1]
  simp -implicitDefEqProofs only [↓ops_cons, ↓g_unOp, Nat.reduceLT, ev_tab, upd_eq, u_not, Bool.not_true, Option.map_some, ↓g_move, onS_some, yielded_tab, dstAt_s, dstAt_0, ybv_some, boolOf_b, ↓g_guard_t, ne_eq, Nat.reduceEqDiff, not_false_eq_true, upd_ne, par2]
  refine call1 (by simp -implicitDefEqProofs only [List.map_cons, Nat.reduceLT, ev_tab, upd_eq, ev_const, of_int, List.map_nil] <;> rfl) (inS s 1 1000) ?_
  rw [decide_eq_true h2]
  simp -implicitDefEqProofs only [↓ops_cons, yielded_tab, dstAt_s, dstAt_0, Nat.reduceLT, ybv_some, ne_eq, Nat.reduceEqDiff, not_false_eq_true, upd_ne, upd_eq, boolOf_b, ↓g_guard_t, ↓g_unOp, ev_tab, u_not, Bool.not_true, Option.map_some, ↓g_pick, ev_const, of_bool, pick_b, reduceCtorEq, if_false, ↓g_move, onS_some, par1, ↓g_len, Try.underlying9, len_str, ↓g_binOp, of_int, ↓ops_nil, ↓w_cond, ↓w_seq, ↓w_region, ↓g_assign, ↓w_ret, retP_2, res_tmp, ↓w_skip, ↓w_block, b_gtr, k3, decide_false, onB_false]
  refine w_loop (ι := Nat) (fun j st => ∃ (T : Nat → AV) (Z : AHeap) (q : Nat), st = ⟨tab 60 T, Z⟩ ∧ j ≤ cutN z s ∧ Ext H Z ∧ H.length ≤ q ∧ Z[q]? = some ⟨rows pcs (cutP i z s j), true, true⟩ ∧ T 0 = .sc (.int .i64 i) ∧ T 1 = .sc (.string z) ∧ T 2 = .sc (.int .i64 s) ∧ T 8 = .sl q 0 j 4 ∧ T 9 = .sc (.int .i64 ((j * s : Nat) : Int))) (fun j => cutN z s - j) ?_ (i := 0) ?_
  · rintro j st ⟨T, Z, q, rfl, a0, a1, a2, a3, b0, b1, b2, b3, b4⟩
    by_cases hj : j < cutN z s
    · have hc := (cutN_lt hs).1 hj
      have hjs : j * s ≤ z.size := by
        rcases hc with hc | rfl
        · omega
        · omega
      have e1 : IntKind.i64.wrap (((j * s : Nat) : Int) + (s : Int)) = (((j + 1) * s : Nat) : Int) := by
        rw [Nat.add_mul, Nat.one_mul, w64 (by omega) (by omega)]
        omega
      have e0 : ((j + 1) * s) = j * s + s := by rw [Nat.add_mul, Nat.one_mul]
      have q1 : (0 : Int) ≤ ((j * s : Nat) : Int) := by omega
      have q2 : (0 : Int) ≤ ((min (j * s + s) z.size : Nat) : Int) := by omega
      have q3 : j * s ≤ min (j * s + s) z.size := by omega
      have q4 : min (j * s + s) z.size ≤ z.size := by omega
      have hrow : [AV.sc (.int .i64 i), .sc (.int .i64 z.size), .sc (.int .i64 ((j * s : Nat) : Int)), .sc (.string (z.extract (j * s) (min (j * s + s) z.size)))] = rows pcs [cutAt i z s j] := rfl
      have ha3 : ∀ g : Reg, (Z ++ [g])[q]? = some ⟨rows pcs (cutP i z s j), true, true⟩ := fun g => (at_more _ _ _ (at_lt a3)).trans a3
      have hap := fun (G : AHeap) r => ap39 (H := G) (B := 40) (r := r) (len := j) (l := cutP i z s j) (k := [cutAt i z s j]) (cutP_len i z s j).symm (by omega) (by simp) rfl
      have hat := fun o => at_rows pcsE [cutAt i z s j] o 1
      have hlen4 : (rows pcs [cutAt i z s j]).length = 4 := rfl
      have hall := rows_all pcsE [cutAt i z s j]
      have hcond : ((j * s : Nat) : Int) < z.size ∨ (¬ ((j * s : Nat) : Int) < z.size ∧ (((j : Nat) : Int) = 0) = True) := by
        by_cases h0 : ((j * s : Nat) : Int) < z.size
        · exact .inl h0
        · refine .inr ⟨h0, eq_true ?_⟩
          rcases hc with hc | rfl
          · exact absurd (by omega) h0
          · rfl
      have hend : (((j + 1) * s : Nat) : Int) ≤ z.size ∧ min (j * s + s) z.size = (j + 1) * s ∨ (z.size : Int) < (((j + 1) * s : Nat) : Int) ∧ min (j * s + s) z.size = z.size := by omega
      have q5 : (0 : Int) ≤ (z.size : Int) := by omega
      generalize hm : min (j * s + s) z.size = m at *
      rcases hend with ⟨w1, w2⟩ | ⟨w1, w2⟩
      · have w3 : ¬ (z.size : Int) < (((j + 1) * s : Nat) : Int) := by omega
        subst w2
        rcases hcond with c1 | ⟨c1, c2⟩
        · simp -implicitDefEqProofs only [↓w_seq, ↓w_region, ↓ops_cons, ↓g_move, ↓g_len, Try.underlying9, Nat.reduceLT, ev_tab, b4, ne_eq, Nat.reduceEqDiff, not_false_eq_true, upd_ne, b1, upd_eq, len_str, ↓g_binOp, onS_some, b_lss, c1, decide_true, yielded_tab, dstAt_s, dstAt_0, ybv_some, boolOf_b, Bool.not_false, ↓g_guard_f, ↓g_pick, ev_const, of_bool, pick_b, if_true, ↓ops_nil, ↓w_cond, ↓w_skip, ↓w_block, b2, b_add, e1, ↓g_assign, b3, reduceCtorEq, b0, ↓g_slice, Option.map_some, cut_str, bnd_int, q1, Int.toNat_natCast, ↓g_buildV, List.map_cons, List.map_nil, cells_int, ↓g_buildSlice, Try.underlying49, ↓g_append, apS49, b_gtr, w3, decide_false, q2, cutS_some, q3, q4, and_self, cells_str, bds58, hrow, hlen4, bs58_1, alK_some, hall, ha3, src_slR, at_end, Nat.reduceMul, hat, List.length_cons, List.length_nil, Nat.zero_add, Nat.le_refl, List.take_succ_cons, List.take_zero, hap, List.length_append, true_and, onB_false, ↓w_exit, ↓w_ret, retP_2, res_tmp, onB_true]
          refine ⟨j + 1, by omega, _, _, Z.length + 1, rfl, by omega, ((a1.add _).kill a2).add _, ?_, ?_, ?_, ?_, ?_, ?_, ?_⟩
          · have := a1.1
            omega
          · have := at_end (killReg (Z ++ [⟨rows pcs [cutAt i z s j], true, true⟩]) q) ⟨rows pcs (cutP i z s j ++ [cutAt i z s j]), true, true⟩
            rwa [kill_len, List.length_append, List.length_singleton] at this
          all_goals (simp -implicitDefEqProofs only [ne_eq, reduceCtorEq, not_false_eq_true, upd_ne, b0, Nat.reduceEqDiff, b1, b2, upd_eq] <;> rfl)
        · simp -implicitDefEqProofs only [↓w_seq, ↓w_region, ↓ops_cons, ↓g_move, ↓g_len, Try.underlying9, Nat.reduceLT, ev_tab, b4, ne_eq, Nat.reduceEqDiff, not_false_eq_true, upd_ne, b1, upd_eq, len_str, ↓g_binOp, onS_some, b_lss, c1, decide_false, yielded_tab, dstAt_s, dstAt_0, ybv_some, boolOf_b, ↓g_guard_t, b3, Try.underlying49, len_sl, ev_const, of_int, ↓g_pick, of_bool, pick_b, reduceCtorEq, if_false, ↓ops_nil, ↓w_cond, ↓w_skip, ↓w_block, b2, b_add, e1, ↓g_assign, b0, ↓g_slice, Option.map_some, cut_str, bnd_int, q1, Int.toNat_natCast, if_true, ↓g_buildV, List.map_cons, List.map_nil, cells_int, ↓g_buildSlice, ↓g_append, apS49, b_gtr, w3, q2, cutS_some, q3, q4, and_self, cells_str, bds58, hrow, hlen4, bs58_1, alK_some, hall, ha3, src_slR, at_end, Nat.reduceMul, hat, List.length_cons, List.length_nil, Nat.zero_add, Nat.le_refl, List.take_succ_cons, List.take_zero, hap, List.length_append, true_and, onB_false, ↓w_exit, ↓w_ret, retP_2, res_tmp, b_eql, c2, decide_true, onB_true]
          refine ⟨j + 1, by omega, _, _, Z.length + 1, rfl, by omega, ((a1.add _).kill a2).add _, ?_, ?_, ?_, ?_, ?_, ?_, ?_⟩
          · have := a1.1
            omega
          · have := at_end (killReg (Z ++ [⟨rows pcs [cutAt i z s j], true, true⟩]) q) ⟨rows pcs (cutP i z s j ++ [cutAt i z s j]), true, true⟩
            rwa [kill_len, List.length_append, List.length_singleton] at this
          all_goals (simp -implicitDefEqProofs only [ne_eq, reduceCtorEq, not_false_eq_true, upd_ne, b0, Nat.reduceEqDiff, b1, b2, upd_eq] <;> rfl)
      · subst w2
        rcases hcond with c1 | ⟨c1, c2⟩
        · simp -implicitDefEqProofs only [↓w_seq, ↓w_region, ↓ops_cons, ↓g_move, ↓g_len, Try.underlying9, Nat.reduceLT, ev_tab, b4, ne_eq, Nat.reduceEqDiff, not_false_eq_true, upd_ne, b1, upd_eq, len_str, ↓g_binOp, onS_some, b_lss, c1, decide_true, yielded_tab, dstAt_s, dstAt_0, ybv_some, boolOf_b, Bool.not_false, ↓g_guard_f, ↓g_pick, ev_const, of_bool, pick_b, if_true, ↓ops_nil, ↓w_cond, ↓w_skip, ↓w_block, b2, b_add, e1, ↓g_assign, b3, reduceCtorEq, b0, ↓g_slice, Option.map_some, cut_str, bnd_int, q1, Int.toNat_natCast, ↓g_buildV, List.map_cons, List.map_nil, cells_int, ↓g_buildSlice, Try.underlying49, ↓g_append, apS49, q2, cutS_some, q3, q4, and_self, cells_str, bds58, hrow, hlen4, bs58_1, alK_some, hall, ha3, src_slR, at_end, Nat.reduceMul, hat, List.length_cons, List.length_nil, Nat.zero_add, Nat.le_refl, List.take_succ_cons, List.take_zero, hap, List.length_append, true_and, b_gtr, w1, onB_true, ↓w_exit, ↓w_ret, retP_2, res_tmp]
          refine ⟨j + 1, by omega, _, _, Z.length + 1, rfl, by omega, ((a1.add _).kill a2).add _, ?_, ?_, ?_, ?_, ?_, ?_, ?_⟩
          · have := a1.1
            omega
          · have := at_end (killReg (Z ++ [⟨rows pcs [cutAt i z s j], true, true⟩]) q) ⟨rows pcs (cutP i z s j ++ [cutAt i z s j]), true, true⟩
            rwa [kill_len, List.length_append, List.length_singleton] at this
          all_goals (simp -implicitDefEqProofs only [ne_eq, reduceCtorEq, not_false_eq_true, upd_ne, b0, Nat.reduceEqDiff, b1, b2, upd_eq] <;> rfl)
        · simp -implicitDefEqProofs only [↓w_seq, ↓w_region, ↓ops_cons, ↓g_move, ↓g_len, Try.underlying9, Nat.reduceLT, ev_tab, b4, ne_eq, Nat.reduceEqDiff, not_false_eq_true, upd_ne, b1, upd_eq, len_str, ↓g_binOp, onS_some, b_lss, c1, decide_false, yielded_tab, dstAt_s, dstAt_0, ybv_some, boolOf_b, ↓g_guard_t, b3, Try.underlying49, len_sl, ev_const, of_int, ↓g_pick, of_bool, pick_b, reduceCtorEq, if_false, ↓ops_nil, ↓w_cond, ↓w_skip, ↓w_block, b2, b_add, e1, ↓g_assign, b0, ↓g_slice, Option.map_some, cut_str, bnd_int, q1, Int.toNat_natCast, if_true, ↓g_buildV, List.map_cons, List.map_nil, cells_int, ↓g_buildSlice, ↓g_append, apS49, q2, cutS_some, q3, q4, and_self, cells_str, bds58, hrow, hlen4, bs58_1, alK_some, hall, ha3, src_slR, at_end, Nat.reduceMul, hat, List.length_cons, List.length_nil, Nat.zero_add, Nat.le_refl, List.take_succ_cons, List.take_zero, hap, List.length_append, true_and, b_gtr, w1, decide_true, onB_true, ↓w_exit, ↓w_ret, retP_2, res_tmp, b_eql, c2]
          refine ⟨j + 1, by omega, _, _, Z.length + 1, rfl, by omega, ((a1.add _).kill a2).add _, ?_, ?_, ?_, ?_, ?_, ?_, ?_⟩
          · have := a1.1
            omega
          · have := at_end (killReg (Z ++ [⟨rows pcs [cutAt i z s j], true, true⟩]) q) ⟨rows pcs (cutP i z s j ++ [cutAt i z s j]), true, true⟩
            rwa [kill_len, List.length_append, List.length_singleton] at this
          all_goals (simp -implicitDefEqProofs only [ne_eq, reduceCtorEq, not_false_eq_true, upd_ne, b0, Nat.reduceEqDiff, b1, b2, upd_eq] <;> rfl)
    · have hjn : j = cutN z s := by omega
      have hn : ¬ (j * s < z.size ∨ j = 0) := fun h => hj ((cutN_lt hs).2 h)
      have c1 : ¬ ((j * s : Nat) : Int) < z.size := fun h => hn (.inl (by omega))
      have hjs : j * s ≠ 0 := by
        have : j ≠ 0 := fun h => hn (.inr h)
        exact Nat.mul_ne_zero this (by omega)
      have c2 : ¬ ((j : Nat) : Int) = 0 := by
        have : j ≠ 0 := fun h => hn (.inr h)
        omega
      subst hjn
      simp -implicitDefEqProofs only [↓w_seq, ↓w_region, ↓ops_cons, ↓g_move, ↓g_len, Try.underlying9, Nat.reduceLT, ev_tab, b4, ne_eq, Nat.reduceEqDiff, not_false_eq_true, upd_ne, b1, upd_eq, len_str, ↓g_binOp, onS_some, b_lss, c1, decide_false, yielded_tab, dstAt_s, dstAt_0, ybv_some, boolOf_b, ↓g_guard_t, b3, Try.underlying49, len_sl, ev_const, of_int, ↓g_pick, of_bool, pick_b, reduceCtorEq, if_false, ↓ops_nil, ↓w_cond, ↓w_skip, ↓w_block, b2, b_add, ↓g_assign, b0, ↓g_slice, Option.map_some, cut_str, bnd_int, ↓g_buildV, List.map_cons, List.map_nil, cells_int, ↓g_buildSlice, ↓g_append, apS49, b_gtr, onB_dec, ↓w_exit, ↓w_ret, retP_2, res_tmp, if_true, b_eql, c2, onB_false]
      exact ⟨q, rfl, a1, a2, a3⟩
  · refine ⟨_, _, H.length, rfl, by omega, Ext.more _ _, Nat.le_refl _, at_end _ _, ?_, ?_, ?_, ?_, ?_⟩
    all_goals (simp -implicitDefEqProofs only [ne_eq, reduceCtorEq, not_false_eq_true, upd_ne, par0, Nat.reduceEqDiff, par1, par2, upd_eq, Nat.zero_mul, Int.cast_ofNat_Int] <;> rfl)
end Go.Proofs.Ytknmbiebnpojjaa.Sim
namespace Go.Proofs.Ytknmbiebnpojjaa.Sim
open Go
set_option maxRecDepth 100000
set_option maxHeartbeats 4000000
set_option linter.unusedSimpArgs false
set_option linter.unusedVariables false
/-- A box. -/
def bx (i t : Int) (z : ByteArray) (x : AV) : AV := .agg [.sc (.int .i64 i), .sc (.int .i64 t), .sc (.string z), x]
theorem bcpy_set (l : List Bool) (i : Nat) (h : i < l.length) : (l.take i ++ List.replicate (l.length - i) false).set i (l.getD i false) = l.take (i + 1) ++ List.replicate (l.length - (i + 1)) false := by
  obtain ⟨m, hm⟩ : ∃ m, l.length - i = m + 1 := ⟨l.length - i - 1, by omega⟩
  rw [hm, show l.length - (i + 1) = m by omega, List.set_append_right _ _ (by rw [List.length_take]; omega), List.length_take, Nat.min_eq_left (by omega), Nat.sub_self, List.replicate_succ, List.set_cons_zero, List.take_add_one, List.getD_eq_getElem?_getD, List.getElem?_eq_getElem h, List.append_assoc]
  rfl
def okBx (i t : Int) (z : ByteArray) (n : Nat) : Prop := (0 ≤ i ∧ i ≤ 65535) ∧ (0 ≤ t ∧ t ≤ 4000) ∧ (z.size : Int) = t ∧ (n : Int) = t
theorem boxOkI {H : AHeap} {x : AV} {l : List Bool} (hx : IsB H x l) (i t : Int) (z : ByteArray) (b : Bool) (hb : b = true ↔ okBx i t z l.length) : ∃ Z : AHeap, Sound Try.prog 90 [bx i t z x] H (.sc (.bool b)) Z ∧ Ext H Z := by
  suffices h : ∃ v Z, Sound Try.prog 90 [bx i t z x] H v Z ∧ v = .sc (.bool b) ∧ Ext H Z by
    obtain ⟨v, Z, h1, rfl, h2⟩ := h
    exact ⟨Z, h1, h2⟩
  unfold bx
  refine Sound.runP (args := [.agg [.sc (.int .i64 i), .sc (.int .i64 t), .sc (.string z), x]]) 27 [.tmp 2] Try.func90 rfl rfl rfl rfl (by simp) (fun v Z => v = .sc (.bool b) ∧ Ext H Z) ?_
  have x1 := hx.one
  have lx := fun e => hx.len e
  by_cases h1 : 0 ≤ i ∧ i ≤ 65535
  · by_cases h2 : 0 ≤ t ∧ t ≤ 4000
    · by_cases h3 : (z.size : Int) = t
      · have hbe : b = decide ((l.length : Int) = t) := by
          by_cases h4 : (l.length : Int) = t
          · rw [decide_eq_true h4]
            exact hb.2 ⟨h1, h2, h3, h4⟩
          · rw [decide_eq_false h4]
            cases b with
            | false => rfl
            | true => exact absurd (hb.1 rfl).2.2.2 h4
        simp -implicitDefEqProofs only [↓w_seq, ↓w_region, ↓ops_cons, ↓g_box, Nat.reduceLT, ev_tab, par0, cells_agg, ↓g_assign, ↓ops_nil, ev_const, of_bool, ↓g_fieldAddrT, ne_eq, Nat.reduceEqDiff, not_false_eq_true, upd_ne, upd_eq, ↓g_load, alK_some, List.all_cons, one_int, one_str, x1, List.all_nil, Bool.and_self, fadr54_0, Nat.zero_add, onS_some, rd_def, tyOk3, agg3, cells3, hap_0, List.getElem?_cons_zero, rd_onec, true_and]
        refine call1 (by simp -implicitDefEqProofs only [List.map_cons, Nat.reduceLT, ev_tab, upd_eq, ev_const, of_int, List.map_nil] <;> rfl) (inI i 0 65535) ?_
        rw [decide_eq_true h1]
        simp -implicitDefEqProofs only [↓ops_cons, ↓g_move, Nat.reduceLT, ev_tab, upd_eq, yielded_tab, dstAt_s, dstAt_0, ybv_some, boolOf_b, ↓g_guard_t, ↓g_fieldAddrT, ne_eq, Nat.reduceEqDiff, not_false_eq_true, upd_ne, fadr54_1, Nat.zero_add, ↓g_load, onS_some, rd_def, tyOk3, agg3, cells3, hap_0, List.getElem?_cons_zero, rd_onec, List.getElem?_cons_succ]
        refine call1 (by simp -implicitDefEqProofs only [List.map_cons, Nat.reduceLT, ev_tab, upd_eq, ev_const, of_int, List.map_nil] <;> rfl) (inI t 0 4000) ?_
        rw [decide_eq_true h2]
        simp -implicitDefEqProofs only [↓ops_cons, ↓g_pick, Nat.reduceLT, ev_tab, ne_eq, Nat.reduceEqDiff, not_false_eq_true, upd_ne, upd_eq, ev_const, of_bool, pick_b, if_true, ↓g_move, onS_some, yielded_tab, dstAt_s, dstAt_0, ybv_some, boolOf_b, ↓g_guard_t, ↓g_fieldAddrT, fadr54_2, Nat.zero_add, ↓g_load, ↓g_len, Try.underlying9, fadr54_1, ↓g_binOp, rd_def, tyOk3, agg3, cells3, hap_0, List.getElem?_cons_zero, rd_onec, List.getElem?_cons_succ, tyOk9, agg9, cells9, len_str, h3, b_eql, decide_true, fadr54_3, Try.underlying52, ↓g_assign, ↓ops_nil, ↓w_ret, retP_1, res_tmp, tyOk52, agg52, cells52, lx]
        exact ⟨by rw [hbe], Ext.more _ _⟩
      · have hbf : b = false := by
          cases b with
          | false => rfl
          | true => exact absurd (hb.1 rfl).2.2.1 h3
        simp -implicitDefEqProofs only [↓w_seq, ↓w_region, ↓ops_cons, ↓g_box, Nat.reduceLT, ev_tab, par0, cells_agg, ↓g_assign, ↓ops_nil, ev_const, of_bool, ↓g_fieldAddrT, ne_eq, Nat.reduceEqDiff, not_false_eq_true, upd_ne, upd_eq, ↓g_load, alK_some, List.all_cons, one_int, one_str, x1, List.all_nil, Bool.and_self, fadr54_0, Nat.zero_add, onS_some, rd_def, tyOk3, agg3, cells3, hap_0, List.getElem?_cons_zero, rd_onec, true_and]
        refine call1 (by simp -implicitDefEqProofs only [List.map_cons, Nat.reduceLT, ev_tab, upd_eq, ev_const, of_int, List.map_nil] <;> rfl) (inI i 0 65535) ?_
        rw [decide_eq_true h1]
        simp -implicitDefEqProofs only [↓ops_cons, ↓g_move, Nat.reduceLT, ev_tab, upd_eq, yielded_tab, dstAt_s, dstAt_0, ybv_some, boolOf_b, ↓g_guard_t, ↓g_fieldAddrT, ne_eq, Nat.reduceEqDiff, not_false_eq_true, upd_ne, fadr54_1, Nat.zero_add, ↓g_load, onS_some, rd_def, tyOk3, agg3, cells3, hap_0, List.getElem?_cons_zero, rd_onec, List.getElem?_cons_succ]
        refine call1 (by simp -implicitDefEqProofs only [List.map_cons, Nat.reduceLT, ev_tab, upd_eq, ev_const, of_int, List.map_nil] <;> rfl) (inI t 0 4000) ?_
        rw [decide_eq_true h2]
        simp -implicitDefEqProofs only [↓ops_cons, ↓g_pick, Nat.reduceLT, ev_tab, ne_eq, Nat.reduceEqDiff, not_false_eq_true, upd_ne, upd_eq, ev_const, of_bool, pick_b, if_true, ↓g_move, onS_some, yielded_tab, dstAt_s, dstAt_0, ybv_some, boolOf_b, ↓g_guard_t, ↓g_fieldAddrT, fadr54_2, Nat.zero_add, ↓g_load, ↓g_len, Try.underlying9, fadr54_1, ↓g_binOp, rd_def, tyOk3, agg3, cells3, hap_0, List.getElem?_cons_zero, rd_onec, List.getElem?_cons_succ, tyOk9, agg9, cells9, len_str, b_eql, h3, decide_false, Bool.not_true, ↓g_guard_f, reduceCtorEq, if_false, ↓g_assign, ↓ops_nil, ↓w_ret, retP_1, res_tmp]
        exact ⟨by rw [hbf], Ext.more _ _⟩
    · have hbf : b = false := by
        cases b with
        | false => rfl
        | true => exact absurd (hb.1 rfl).2.1 h2
      simp -implicitDefEqProofs only [↓w_seq, ↓w_region, ↓ops_cons, ↓g_box, Nat.reduceLT, ev_tab, par0, cells_agg, ↓g_assign, ↓ops_nil, ev_const, of_bool, ↓g_fieldAddrT, ne_eq, Nat.reduceEqDiff, not_false_eq_true, upd_ne, upd_eq, ↓g_load, alK_some, List.all_cons, one_int, one_str, x1, List.all_nil, Bool.and_self, fadr54_0, Nat.zero_add, onS_some, rd_def, tyOk3, agg3, cells3, hap_0, List.getElem?_cons_zero, rd_onec, true_and]
      refine call1 (by simp -implicitDefEqProofs only [List.map_cons, Nat.reduceLT, ev_tab, upd_eq, ev_const, of_int, List.map_nil] <;> rfl) (inI i 0 65535) ?_
      rw [decide_eq_true h1]
      simp -implicitDefEqProofs only [↓ops_cons, ↓g_move, Nat.reduceLT, ev_tab, upd_eq, yielded_tab, dstAt_s, dstAt_0, ybv_some, boolOf_b, ↓g_guard_t, ↓g_fieldAddrT, ne_eq, Nat.reduceEqDiff, not_false_eq_true, upd_ne, fadr54_1, Nat.zero_add, ↓g_load, onS_some, rd_def, tyOk3, agg3, cells3, hap_0, List.getElem?_cons_zero, rd_onec, List.getElem?_cons_succ]
      refine call1 (by simp -implicitDefEqProofs only [List.map_cons, Nat.reduceLT, ev_tab, upd_eq, ev_const, of_int, List.map_nil] <;> rfl) (inI t 0 4000) ?_
      rw [decide_eq_false h2]
      simp -implicitDefEqProofs only [↓ops_cons, ↓g_pick, Nat.reduceLT, ev_tab, ne_eq, Nat.reduceEqDiff, not_false_eq_true, upd_ne, upd_eq, ev_const, of_bool, pick_b, if_true, ↓g_move, onS_some, yielded_tab, dstAt_s, dstAt_0, ybv_some, boolOf_b, Bool.not_true, ↓g_guard_f, reduceCtorEq, if_false, ↓g_assign, ↓ops_nil, ↓w_ret, retP_1, res_tmp]
      exact ⟨by rw [hbf], Ext.more _ _⟩
  · have hbf : b = false := by
      cases b with
      | false => rfl
      | true => exact absurd (hb.1 rfl).1 h1
    simp -implicitDefEqProofs only [↓w_seq, ↓w_region, ↓ops_cons, ↓g_box, Nat.reduceLT, ev_tab, par0, cells_agg, ↓g_assign, ↓ops_nil, ev_const, of_bool, ↓g_fieldAddrT, ne_eq, Nat.reduceEqDiff, not_false_eq_true, upd_ne, upd_eq, ↓g_load, alK_some, List.all_cons, one_int, one_str, x1, List.all_nil, Bool.and_self, fadr54_0, Nat.zero_add, onS_some, rd_def, tyOk3, agg3, cells3, hap_0, List.getElem?_cons_zero, rd_onec, true_and]
    refine call1 (by simp -implicitDefEqProofs only [List.map_cons, Nat.reduceLT, ev_tab, upd_eq, ev_const, of_int, List.map_nil] <;> rfl) (inI i 0 65535) ?_
    rw [decide_eq_false h1]
    simp -implicitDefEqProofs only [↓ops_cons, ↓g_move, Nat.reduceLT, ev_tab, upd_eq, yielded_tab, dstAt_s, dstAt_0, ybv_some, boolOf_b, Bool.not_true, ↓g_guard_f, ne_eq, Nat.reduceEqDiff, not_false_eq_true, upd_ne, ↓g_pick, ev_const, of_bool, pick_b, reduceCtorEq, if_false, onS_some, ↓g_assign, ↓ops_nil, ↓w_ret, retP_1, res_tmp]
    exact ⟨by rw [hbf], Ext.more _ _⟩
theorem boxOkS {H : AHeap} {x : AV} {l : List Bool} (hx : IsB H x l) (i t : Int) (z : ByteArray) (b : Bool) (hb : b = true ↔ okBx i t z l.length) : ∃ Z : AHeap, Sound Try.prog 100 [bx i t z x] H (.sc (.bool b)) Z ∧ Ext H Z := by
  suffices h : ∃ v Z, Sound Try.prog 100 [bx i t z x] H v Z ∧ v = .sc (.bool b) ∧ Ext H Z by
    obtain ⟨v, Z, h1, rfl, h2⟩ := h
    exact ⟨Z, h1, h2⟩
  unfold bx
  refine Sound.runP (args := [.agg [.sc (.int .i64 i), .sc (.int .i64 t), .sc (.string z), x]]) 27 [.tmp 2] Try.func100 rfl rfl rfl rfl (by simp) (fun v Z => v = .sc (.bool b) ∧ Ext H Z) ?_
  have x1 := hx.one
  have lx := fun e => hx.len e
  by_cases h1 : 0 ≤ i ∧ i ≤ 65535
  · by_cases h2 : 0 ≤ t ∧ t ≤ 4000
    · by_cases h3 : (z.size : Int) = t
      · have hbe : b = decide ((l.length : Int) = t) := by
          by_cases h4 : (l.length : Int) = t
          · rw [decide_eq_true h4]
            exact hb.2 ⟨h1, h2, h3, h4⟩
          · rw [decide_eq_false h4]
            cases b with
            | false => rfl
            | true => exact absurd (hb.1 rfl).2.2.2 h4
        simp -implicitDefEqProofs only [↓w_seq, ↓w_region, ↓ops_cons, ↓g_box, Nat.reduceLT, ev_tab, par0, cells_agg, ↓g_assign, ↓ops_nil, ev_const, of_bool, ↓g_fieldAddrT, ne_eq, Nat.reduceEqDiff, not_false_eq_true, upd_ne, upd_eq, ↓g_load, alK_some, List.all_cons, one_int, one_str, x1, List.all_nil, Bool.and_self, fadr54_0, Nat.zero_add, onS_some, rd_def, tyOk3, agg3, cells3, hap_0, List.getElem?_cons_zero, rd_onec, true_and]
        refine call1 (by simp -implicitDefEqProofs only [List.map_cons, Nat.reduceLT, ev_tab, upd_eq, ev_const, of_int, List.map_nil] <;> rfl) (inS i 0 65535) ?_
        rw [decide_eq_true h1]
        simp -implicitDefEqProofs only [↓ops_cons, ↓g_move, Nat.reduceLT, ev_tab, upd_eq, yielded_tab, dstAt_s, dstAt_0, ybv_some, boolOf_b, ↓g_guard_t, ↓g_fieldAddrT, ne_eq, Nat.reduceEqDiff, not_false_eq_true, upd_ne, fadr54_1, Nat.zero_add, ↓g_load, onS_some, rd_def, tyOk3, agg3, cells3, hap_0, List.getElem?_cons_zero, rd_onec, List.getElem?_cons_succ]
        refine call1 (by simp -implicitDefEqProofs only [List.map_cons, Nat.reduceLT, ev_tab, upd_eq, ev_const, of_int, List.map_nil] <;> rfl) (inS t 0 4000) ?_
        rw [decide_eq_true h2]
        simp -implicitDefEqProofs only [↓ops_cons, ↓g_pick, Nat.reduceLT, ev_tab, ne_eq, Nat.reduceEqDiff, not_false_eq_true, upd_ne, upd_eq, ev_const, of_bool, pick_b, if_true, ↓g_move, onS_some, yielded_tab, dstAt_s, dstAt_0, ybv_some, boolOf_b, ↓g_guard_t, ↓g_fieldAddrT, fadr54_2, Nat.zero_add, ↓g_load, ↓g_len, Try.underlying9, fadr54_1, ↓g_binOp, rd_def, tyOk3, agg3, cells3, hap_0, List.getElem?_cons_zero, rd_onec, List.getElem?_cons_succ, tyOk9, agg9, cells9, len_str, h3, b_eql, decide_true, fadr54_3, Try.underlying52, ↓g_assign, ↓ops_nil, ↓w_ret, retP_1, res_tmp, tyOk52, agg52, cells52, lx]
        exact ⟨by rw [hbe], Ext.more _ _⟩
      · have hbf : b = false := by
          cases b with
          | false => rfl
          | true => exact absurd (hb.1 rfl).2.2.1 h3
        simp -implicitDefEqProofs only [↓w_seq, ↓w_region, ↓ops_cons, ↓g_box, Nat.reduceLT, ev_tab, par0, cells_agg, ↓g_assign, ↓ops_nil, ev_const, of_bool, ↓g_fieldAddrT, ne_eq, Nat.reduceEqDiff, not_false_eq_true, upd_ne, upd_eq, ↓g_load, alK_some, List.all_cons, one_int, one_str, x1, List.all_nil, Bool.and_self, fadr54_0, Nat.zero_add, onS_some, rd_def, tyOk3, agg3, cells3, hap_0, List.getElem?_cons_zero, rd_onec, true_and]
        refine call1 (by simp -implicitDefEqProofs only [List.map_cons, Nat.reduceLT, ev_tab, upd_eq, ev_const, of_int, List.map_nil] <;> rfl) (inS i 0 65535) ?_
        rw [decide_eq_true h1]
        simp -implicitDefEqProofs only [↓ops_cons, ↓g_move, Nat.reduceLT, ev_tab, upd_eq, yielded_tab, dstAt_s, dstAt_0, ybv_some, boolOf_b, ↓g_guard_t, ↓g_fieldAddrT, ne_eq, Nat.reduceEqDiff, not_false_eq_true, upd_ne, fadr54_1, Nat.zero_add, ↓g_load, onS_some, rd_def, tyOk3, agg3, cells3, hap_0, List.getElem?_cons_zero, rd_onec, List.getElem?_cons_succ]
        refine call1 (by simp -implicitDefEqProofs only [List.map_cons, Nat.reduceLT, ev_tab, upd_eq, ev_const, of_int, List.map_nil] <;> rfl) (inS t 0 4000) ?_
        rw [decide_eq_true h2]
        simp -implicitDefEqProofs only [↓ops_cons, ↓g_pick, Nat.reduceLT, ev_tab, ne_eq, Nat.reduceEqDiff, not_false_eq_true, upd_ne, upd_eq, ev_const, of_bool, pick_b, if_true, ↓g_move, onS_some, yielded_tab, dstAt_s, dstAt_0, ybv_some, boolOf_b, ↓g_guard_t, ↓g_fieldAddrT, fadr54_2, Nat.zero_add, ↓g_load, ↓g_len, Try.underlying9, fadr54_1, ↓g_binOp, rd_def, tyOk3, agg3, cells3, hap_0, List.getElem?_cons_zero, rd_onec, List.getElem?_cons_succ, tyOk9, agg9, cells9, len_str, b_eql, h3, decide_false, Bool.not_true, ↓g_guard_f, reduceCtorEq, if_false, ↓g_assign, ↓ops_nil, ↓w_ret, retP_1, res_tmp]
        exact ⟨by rw [hbf], Ext.more _ _⟩
    · have hbf : b = false := by
        cases b with
        | false => rfl
        | true => exact absurd (hb.1 rfl).2.1 h2
      simp -implicitDefEqProofs only [↓w_seq, ↓w_region, ↓ops_cons, ↓g_box, Nat.reduceLT, ev_tab, par0, cells_agg, ↓g_assign, ↓ops_nil, ev_const, of_bool, ↓g_fieldAddrT, ne_eq, Nat.reduceEqDiff, not_false_eq_true, upd_ne, upd_eq, ↓g_load, alK_some, List.all_cons, one_int, one_str, x1, List.all_nil, Bool.and_self, fadr54_0, Nat.zero_add, onS_some, rd_def, tyOk3, agg3, cells3, hap_0, List.getElem?_cons_zero, rd_onec, true_and]
      refine call1 (by simp -implicitDefEqProofs only [List.map_cons, Nat.reduceLT, ev_tab, upd_eq, ev_const, of_int, List.map_nil] <;> rfl) (inS i 0 65535) ?_
      rw [decide_eq_true h1]
      simp -implicitDefEqProofs only [↓ops_cons, ↓g_move, Nat.reduceLT, ev_tab, upd_eq, yielded_tab, dstAt_s, dstAt_0, ybv_some, boolOf_b, ↓g_guard_t, ↓g_fieldAddrT, ne_eq, Nat.reduceEqDiff, not_false_eq_true, upd_ne, fadr54_1, Nat.zero_add, ↓g_load, onS_some, rd_def, tyOk3, agg3, cells3, hap_0, List.getElem?_cons_zero, rd_onec, List.getElem?_cons_succ]
      refine call1 (by simp -implicitDefEqProofs only [List.map_cons, Nat.reduceLT, ev_tab, upd_eq, ev_const, of_int, List.map_nil] <;> rfl) (inS t 0 4000) ?_
      rw [decide_eq_false h2]
      simp -implicitDefEqProofs only [↓ops_cons, ↓g_pick, Nat.reduceLT, ev_tab, ne_eq, Nat.reduceEqDiff, not_false_eq_true, upd_ne, upd_eq, ev_const, of_bool, pick_b, if_true, ↓g_move, onS_some, yielded_tab, dstAt_s, dstAt_0, ybv_some, boolOf_b, Bool.not_true, ↓g_guard_f, reduceCtorEq, if_false, ↓g_assign, ↓ops_nil, ↓w_ret, retP_1, res_tmp]
      exact ⟨by rw [hbf], Ext.more _ _⟩
  · have hbf : b = false := by
      cases b with
      | false => rfl
      | true => exact absurd (hb.1 rfl).1 h1
    simp -implicitDefEqProofs only [↓w_seq, ↓w_region, ↓ops_cons, ↓g_box, Nat.reduceLT, ev_tab, par0, cells_agg, ↓g_assign, ↓ops_nil, ev_const, of_bool, ↓g_fieldAddrT, ne_eq, Nat.reduceEqDiff, not_false_eq_true, upd_ne, upd_eq, ↓g_load, alK_some, List.all_cons, one_int, one_str, x1, List.all_nil, Bool.and_self, fadr54_0, Nat.zero_add, onS_some, rd_def, tyOk3, agg3, cells3, hap_0, List.getElem?_cons_zero, rd_onec, true_and]
    refine call1 (by simp -implicitDefEqProofs only [List.map_cons, Nat.reduceLT, ev_tab, upd_eq, ev_const, of_int, List.map_nil] <;> rfl) (inS i 0 65535) ?_
    rw [decide_eq_false h1]
    simp -implicitDefEqProofs only [↓ops_cons, ↓g_move, Nat.reduceLT, ev_tab, upd_eq, yielded_tab, dstAt_s, dstAt_0, ybv_some, boolOf_b, Bool.not_true, ↓g_guard_f, ne_eq, Nat.reduceEqDiff, not_false_eq_true, upd_ne, ↓g_pick, ev_const, of_bool, pick_b, reduceCtorEq, if_false, onS_some, ↓g_assign, ↓ops_nil, ↓w_ret, retP_1, res_tmp]
    exact ⟨by rw [hbf], Ext.more _ _⟩
end Go.Proofs.Ytknmbiebnpojjaa.Sim
namespace Go.Proofs.Ytknmbiebnpojjaa.Sim
open Go
set_option maxRecDepth 100000
set_option maxHeartbeats 40000000
set_option linter.unusedSimpArgs false
set_option linter.unusedVariables false
theorem copyBoxI {H : AHeap} {x : AV} {l : List Bool} (hx : IsB H x l) (hl : l.length ≤ 1000000000) (i t : Int) (z : ByteArray) : ∃ (q : Nat) (Z : AHeap), Sound Try.prog 91 [bx i t z x] H (bx i t z (.sl q 0 l.length 1)) Z ∧ Ext H Z ∧ H.length ≤ q ∧ Z[q]? = some ⟨bools l, true, true⟩ := by
  suffices h : ∃ v Z, Sound Try.prog 91 [bx i t z x] H v Z ∧ ∃ q, v = bx i t z (.sl q 0 l.length 1) ∧ Ext H Z ∧ H.length ≤ q ∧ Z[q]? = some ⟨bools l, true, true⟩ by
    obtain ⟨v, Z, h1, q, rfl, h2⟩ := h
    exact ⟨q, Z, h1, h2⟩
  unfold bx
  refine Sound.runP (args := [.agg [.sc (.int .i64 i), .sc (.int .i64 t), .sc (.string z), x]]) 9 [.cell 2 54] Try.func91 rfl rfl rfl rfl (by simp) (fun v Z => ∃ q, v = .agg [.sc (.int .i64 i), .sc (.int .i64 t), .sc (.string z), .sl q 0 l.length 1] ∧ Ext H Z ∧ H.length ≤ q ∧ Z[q]? = some ⟨bools l, true, true⟩) ?_
  have x1 := hx.one
  have hsrc := fun Y => ((Ext.more H Y).isB hx).src
  have k1 : l.length * 1 ≤ 140737488355328 := by omega
  have k2 : l.length ≤ 140737488355328 := by omega
  simp -implicitDefEqProofs only [↓w_seq, ↓w_region, ↓ops_cons, ↓g_box, Nat.reduceLT, ev_tab, par0, cells_agg, ↓g_alloc, zero54, Option.map_some, ↓ops_nil, ↓g_buildSlice, Try.underlying52, List.map_nil, bs4_0, ↓g_fieldAddrT, ne_eq, Nat.reduceEqDiff, not_false_eq_true, upd_ne, upd_eq, ↓g_load, ↓g_append, ↓g_store, ↓w_ret, retP_1, res_cell, alK_some, bools_one, apS52, hap_0, List.getElem?_cons_zero, true_and, List.all_cons, one_int, one_str, one_nil, List.all_nil, Bool.and_self, List.append_assoc, List.cons_append, List.nil_append, List.length_append, List.length_cons, List.length_nil, Nat.zero_add, wr_def, tyOk54, cells54, rd_def, agg54, x1, fadr54_3, Nat.add_assoc, Nat.reduceAdd, onS_some, tyOk52, cells52, agg52, rd_onec, List.getElem?_cons_succ, hsrc, ap_bools, Nat.le_refl, Nat.mul_one, k2, and_self, hkill_k, kill_s, kill_0, List.take_zero, if_true, wr_c, cells_sl, one_sl, over_s, ovr_m, ovr_n, hset_0, List.set_cons_zero, rd_aggc, List.drop_zero, List.take_succ_cons, hap_k, hset_k, List.set_cons_succ, onS_ite]
  exact ⟨_, rfl, Ext.more _ _, by omega, hap_k _ _ 3⟩
theorem copyBoxS {H : AHeap} {x : AV} {l : List Bool} (hx : IsB H x l) (hl : l.length ≤ 1000000000) (i t : Int) (z : ByteArray) : ∃ (q : Nat) (Z : AHeap), Sound Try.prog 99 [bx i t z x] H (bx i t z (.sl q 0 l.length 1)) Z ∧ Ext H Z ∧ H.length ≤ q ∧ Z[q]? = some ⟨bools l, true, true⟩ := by
  suffices h : ∃ v Z, Sound Try.prog 99 [bx i t z x] H v Z ∧ ∃ q, v = bx i t z (.sl q 0 l.length 1) ∧ Ext H Z ∧ H.length ≤ q ∧ Z[q]? = some ⟨bools l, true, true⟩ by
    obtain ⟨v, Z, h1, q, rfl, h2⟩ := h
    exact ⟨q, Z, h1, h2⟩
  unfold bx
  refine Sound.runP (args := [.agg [.sc (.int .i64 i), .sc (.int .i64 t), .sc (.string z), x]]) 11 [.cell 2 54] Try.func99 rfl rfl rfl rfl (by simp) (fun v Z => ∃ q, v = .agg [.sc (.int .i64 i), .sc (.int .i64 t), .sc (.string z), .sl q 0 l.length 1] ∧ Ext H Z ∧ H.length ≤ q ∧ Z[q]? = some ⟨bools l, true, true⟩) ?_
  have x1 := hx.one
  have hsrc := fun Y => ((Ext.more H Y).isB hx).src
  have k1 : l.length * 1 ≤ 140737488355328 := by omega
  have k2 : l.length ≤ 140737488355328 := by omega
  simp -implicitDefEqProofs only [↓w_seq, ↓w_region, ↓ops_cons, ↓g_box, Nat.reduceLT, ev_tab, par0, cells_agg, ↓g_alloc, zero54, Option.map_some, ↓ops_nil, ↓g_load, ne_eq, Nat.reduceEqDiff, not_false_eq_true, upd_ne, upd_eq, ↓g_store, ↓g_buildSlice, Try.underlying52, List.map_nil, bs4_0, ↓g_fieldAddrT, ↓g_append, ↓w_ret, retP_1, res_cell, alK_some, bools_one, apS52, hap_0, List.getElem?_cons_zero, true_and, List.all_cons, one_int, one_str, one_nil, List.all_nil, Bool.and_self, wr_def, tyOk54, cells54, wr_c, Nat.zero_add, List.length_cons, List.length_nil, Nat.reduceAdd, Nat.le_refl, hset_0, List.set_cons_zero, fadr54_3, rd_def, agg54, onS_some, tyOk52, cells52, onS_ite, List.append_assoc, List.cons_append, List.nil_append, List.length_append, Nat.add_assoc, x1, rd_aggc, List.drop_zero, List.take_succ_cons, List.take_zero, if_true, agg52, rd_onec, List.getElem?_cons_succ, hsrc, ap_bools, Nat.mul_one, k2, and_self, hkill_k, kill_s, kill_0, hap_k, ovr_m, ovr_n, cells_sl, one_sl, over_s, hset_k, List.set_cons_succ]
  exact ⟨_, rfl, Ext.more _ _, by omega, hap_k _ _ 4⟩
/-- Places filled one after the other. -/
def fillK (l : List Bool) (f : Nat) : Nat → List Bool
  | 0 => l
  | k + 1 => (fillK l f k).set (f + k) true
theorem fillK_len (l : List Bool) (f : Nat) : ∀ k, (fillK l f k).length = l.length
  | 0 => rfl
  | k + 1 => by rw [fillK, List.length_set, fillK_len l f k]
def putT (z : ByteArray) (f : Nat) (y : ByteArray) : ByteArray := z.extract 0 f ++ y ++ z.extract (f + y.size) z.size
theorem filledI {H : AHeap} {x : AV} {l : List Bool} (hx : IsB H x l) (i t : Int) (z : ByteArray) (pi pt : Int) (f : Nat) (y : ByteArray) (hl : l.length = z.size) (hz : z.size ≤ 4000) (hf : f + y.size ≤ z.size) : ∃ (q : Nat) (Z : AHeap), Sound Try.prog 85 [bx i t z x, prt pi pt f y] H (bx i t (putT z f y) (.sl q 0 l.length 1)) Z ∧ Ext H Z ∧ H.length ≤ q ∧ Z[q]? = some ⟨bools (fillK l f y.size), true, true⟩ := by
  suffices h : ∃ v Z, Sound Try.prog 85 [bx i t z x, prt pi pt f y] H v Z ∧ ∃ q, v = bx i t (putT z f y) (.sl q 0 l.length 1) ∧ Ext H Z ∧ H.length ≤ q ∧ Z[q]? = some ⟨bools (fillK l f y.size), true, true⟩ by
    obtain ⟨v, Z, h1, q, rfl, h2⟩ := h
    exact ⟨q, Z, h1, h2⟩
  unfold bx prt putT
  refine Sound.runP (args := [.agg [.sc (.int .i64 i), .sc (.int .i64 t), .sc (.string z), x], .agg [.sc (.int .i64 pi), .sc (.int .i64 pt), .sc (.int .i64 f), .sc (.string y)]]) 48 [.cell 4 54] Try.func85 rfl rfl rfl rfl (by simp) (fun v Z => ∃ q, v = .agg [.sc (.int .i64 i), .sc (.int .i64 t), .sc (.string (z.extract 0 f ++ y ++ z.extract (f + y.size) z.size)), .sl q 0 l.length 1] ∧ Ext H Z ∧ H.length ≤ q ∧ Z[q]? = some ⟨bools (fillK l f y.size), true, true⟩) ?_
  have x1 := hx.one
  have hsrc := fun Y => ((Ext.more H Y).isB hx).src
  have k1 : l.length * 1 ≤ 140737488355328 := by omega
  have k2 : l.length ≤ 140737488355328 := by omega
  have e0 : IntKind.i64.wrap ((f : Int) + y.size) = ((f + y.size : Nat) : Int) := by rw [w64 (by omega) (by omega)]; omega
  simp -implicitDefEqProofs only [↓w_seq, ↓w_region, ↓ops_cons, ↓g_box, Nat.reduceLT, ev_tab, par0, cells_agg, ne_eq, Nat.reduceEqDiff, not_false_eq_true, upd_ne, par1, ↓g_alloc, zero54, Option.map_some, ↓ops_nil, ↓g_buildSlice, Try.underlying52, List.map_nil, bs4_0, ↓g_fieldAddrT, upd_eq, ↓g_load, ↓g_append, ↓g_assign, ↓w_block, alK_some, bools_one, apS52, hap_0, List.getElem?_cons_zero, true_and, List.all_cons, one_int, one_str, one_nil, List.all_nil, Bool.and_self, List.append_assoc, List.cons_append, List.nil_append, List.length_append, List.length_cons, List.length_nil, Nat.zero_add, Nat.add_assoc, Nat.reduceAdd, fadr58_2, onS_some, rd_def, tyOk3, agg3, cells3, x1, fadr54_3, tyOk52, agg52, cells52, rd_onec, List.getElem?_cons_succ, hsrc, ap_bools, Nat.le_refl, Nat.mul_one, k2, and_self, hkill_k, kill_s, kill_0, List.take_zero, if_true, hap_k]
  generalize hA : (⟨[.sc (.int .i64 i), .sc (.int .i64 t), .sc (.string z), x], true, true⟩ : Reg) = A
  generalize hB : (⟨[.sc (.int .i64 pi), .sc (.int .i64 pt), .sc (.int .i64 f), .sc (.string y)], true, true⟩ : Reg) = B
  generalize hC : (⟨[.sc (.int .i64 0), .sc (.int .i64 0), .sc (.string ByteArray.empty), .sc (.slice none 0 0)], true, true⟩ : Reg) = C
  refine w_loop (ι := Nat) (fun k s => ∃ (T : Nat → AV) (D : Reg), s = ⟨tab 48 T, H ++ [A, B, C, D, ⟨bools (fillK l f k), true, true⟩]⟩ ∧ k ≤ y.size ∧ T 2 = .ptr H.length 0 ∧ T 3 = .ptr (H.length + 1) 0 ∧ T 4 = .ptr (H.length + 2) 0 ∧ T 5 = .sl (H.length + 4) 0 l.length 1 ∧ T 6 = .sc (.int .i64 ((f + k : Nat) : Int))) (fun k => y.size - k) ?_ (i := 0) ?_
  · rintro k s ⟨T, D, rfl, a1, a2, a3, a4, a5, a6⟩
    by_cases hk : k < y.size
    · have q1 : ((f + k : Nat) : Int) < ((f + y.size : Nat) : Int) := by omega
      have q2 : (0 : Int) ≤ ((f + k : Nat) : Int) := by omega
      have q3 : ((f + k : Nat) : Int) < (l.length : Int) := by omega
      have q4 : f + k < (fillK l f k).length := by rw [fillK_len]; omega
      have e1 : IntKind.i64.wrap (((f + k : Nat) : Int) + 1) = ((f + (k + 1) : Nat) : Int) := by rw [w64 (by omega) (by omega)]; omega
      subst hB
      simp -implicitDefEqProofs only [↓w_seq, ↓w_region, ↓ops_cons, ↓g_move, ↓g_fieldAddrT, Nat.reduceLT, ev_tab, a6, ne_eq, Nat.reduceEqDiff, not_false_eq_true, upd_ne, a3, fadr58_2, Nat.zero_add, ↓g_load, upd_eq, fadr58_3, ↓g_len, Try.underlying9, ↓g_binOp, ↓ops_nil, ↓w_cond, ↓w_skip, ↓w_block, ↓g_indexAddr, Try.underlying52, a5, adr_sl, q2, q3, cells4, tyOk4, and_self, Int.toNat_natCast, Nat.mul_one, if_true, ↓g_store, ev_const, of_bool, of_int, b_add, e1, ↓g_assign, onS_some, wr_def, hap_k, List.getElem?_cons_succ, List.getElem?_cons_zero, wr_bools, q4, hset_k, List.set_cons_succ, List.set_cons_zero, ↓w_exit, rd_def, tyOk9, agg9, cells9, rd_onec, len_str, tyOk3, agg3, cells3, e0, b_lss, q1, decide_true, onB_true]
      refine ⟨k + 1, by omega, _, D, rfl, by omega, ?_, ?_, ?_, ?_, ?_⟩ <;> simp -implicitDefEqProofs only [ne_eq, Nat.reduceEqDiff, not_false_eq_true, upd_ne, a2, a3, a4, a5, upd_eq] <;> rfl
    · have hkk : k = y.size := by omega
      subst hkk
      have q1 : ¬ ((f + y.size : Nat) : Int) < ((f + y.size : Nat) : Int) := by omega
      have q2 : (0 : Int) ≤ (f : Int) := by omega
      have q3 : (0 : Int) ≤ ((f + y.size : Nat) : Int) := by omega
      have q4 : f ≤ z.size := by omega
      have s1 : (z.extract 0 f).size = f := by rw [ByteArray.size_extract]; omega
      have s2 : (z.extract 0 f ++ y).size = f + y.size := by rw [ByteArray.size_append, s1]
      have s3 : (z.extract (f + y.size) z.size).size = z.size - (f + y.size) := by rw [ByteArray.size_extract]; omega
      have s4 : f + y.size ≤ 9223372036854775807 := by omega
      have s5 : f + (y.size + (z.size - (f + y.size))) ≤ 9223372036854775807 := by omega
      subst hB hA hC
      simp -implicitDefEqProofs only [↓w_seq, ↓w_region, ↓ops_cons, ↓g_move, ↓g_fieldAddrT, Nat.reduceLT, ev_tab, a6, ne_eq, Nat.reduceEqDiff, not_false_eq_true, upd_ne, a3, fadr58_2, Nat.zero_add, ↓g_load, upd_eq, fadr58_3, ↓g_len, Try.underlying9, ↓g_binOp, ↓ops_nil, ↓w_cond, ↓w_skip, ↓w_block, ↓g_indexAddr, Try.underlying52, a5, adr_sl, cells4, tyOk4, and_self, and_true, Nat.mul_one, ↓g_store, ev_const, of_bool, of_int, b_add, ↓g_assign, onS_some, onS_ite, wr_def, hap_k, List.getElem?_cons_succ, List.getElem?_cons_zero, wr_bools, hset_k, List.set_cons_succ, List.set_cons_zero, ↓w_exit, if_true, rd_def, tyOk9, agg9, cells9, rd_onec, len_str, tyOk3, agg3, cells3, e0, b_lss, q1, decide_false, onB_false]
      refine drawn [(1, 0), (3, 0), (6, 0), (9, 0), (11, 0), (13, 0)] follows (by kernel_rfl) (by kernel_rfl) ?_
      simp -implicitDefEqProofs only [↓dops_cons, ↓g_fieldAddrT, Nat.reduceLT, ev_tab, ne_eq, Nat.reduceEqDiff, not_false_eq_true, upd_ne, a2, fadr54_2, Nat.zero_add, ↓g_load, upd_eq, a3, fadr58_2, ↓g_slice, Try.underlying9, Option.map_none, Option.map_some, fadr58_3, ↓g_binOp, ↓g_len, ↓g_store, ↓dops_p, ↓w_seq, ↓w_region, ↓ops_cons, ↓g_move, a5, fadr54_3, ↓ops_nil, rd_def, tyOk54, agg54, cells54, a4, wr_def, ↓w_ret, retP_1, res_cell, onS_some, tyOk52, cells52, tyOk9, cells9, hap_0, List.getElem?_cons_zero, wr_c, Nat.reduceAdd, List.length_cons, List.length_nil, Nat.reduceLeDiff, true_and, over_s, hset_0, List.set_cons_zero, onS_ite, cells_sl, Nat.add_assoc, List.all_cons, one_sl, List.all_nil, Bool.and_self, and_true, rd_aggc, List.drop_zero, List.take_succ_cons, hap_k, List.getElem?_cons_succ, Nat.le_refl, hset_k, List.set_cons_succ, cells_agg, one_int, ovr_m, agg9, rd_onec, len_str, tyOk3, agg3, cells3, b_add, e0, cut_str, bnd_int, q3, Int.toNat_natCast, if_true, bnd_none, cutS_some, hf, and_self, q2, Nat.zero_le, q4, t_add, s1, s4, s2, s3, s5, cells_str, one_str, ovr_n, List.take_zero]
      refine ⟨pairs_cons (same_H rfl) (pairs_cons (same_H rfl) (pairs_cons (same_H rfl) (pairs_cons (same_H rfl) (pairs_cons (same_H rfl) (pairs_cons (same_H rfl) (pairs_nil)))))), ?_⟩
      try simp -implicitDefEqProofs only [↓w_seq, ↓w_skip, ↓w_ret, ↓w_exit, ↓w_block, ↓w_cond, ↓w_region, ↓ops_nil, ↓ops_cons, ↓dops_0, ↓dops_p, ↓dops_cons, ↓g_move, ↓g_assign, ↓g_binOp, ↓g_unOp, ↓g_pick, ↓g_len, ↓g_index, ↓g_indexAddr, ↓g_slice, ↓g_convert, ↓g_load, ↓g_store, ↓g_extract, ↓g_nilCheck, ↓g_fieldT, ↓g_fieldAddrT, of_agg, rd_aggc, rd_onec, wr_c, cells_int, cells_str, cells_bool, cells_nil, cells_sl, cells_ptr, cells_agg, one_int, one_str, one_bool, one_nil, one_sl, one_ptr, over_0, over_s, List.all_cons, List.all_nil, Bool.and_true, Bool.and_self, List.getElem?_nil, List.drop_succ_cons, List.drop_nil, ↓g_guard_t, ↓g_guard_f, ↓g_alloc, ↓g_box, ↓g_buildSlice, ↓g_makeSlice, ↓g_buildV, rdA, wrA, ints_one, List.length_replicate, bools_one, strs_one, rd_bools, rd_strs, wr_bools, wr_strs, at_bools, at_strs, ap_bools, ap_boolsN, ap_strs, ap_strsN, ↓g_append, src_sl, src_nil, src_str, ap_ints, ap_intsN, kill_len, kill_0, kill_s, bnd_none, bnd_int, cut_str, cutS_some, cut_sl, cutL_some, bits_i64, bits_u32, bits_u8, List.getD_cons_zero, List.getD_cons_succ, at_end, at_a, at_b, yielded_tab, dstAt_0, dstAt_s, ybv_some, boolOf_b, ext_0, ext_1, ext_2, ext_3, alK_some, ev_tab, ev_const, upd_eq, upd_ne, par0, par1, par2, par3, par4, par5, of_int, of_str, of_bool, len_str, len_arr, len_sl, idx_str, adr_sl, adr_arr, c_int, c_str, c_bytes, c_text, pick_b, onS_some, onS_ite, onS_not, b_add, b_sub, b_mul, b_and, b_or, b_xor, b_eql, b_neq, b_lss, b_leq, b_gtr, b_geq, b_shl, b_shr, b_quo, b_rem, t_add, t_eql, t_neq, v_eql, v_neq, b_andNot, u_not, onB_true, onB_false, onB_dec, onB_not, ret_cell, ret_ct, retP_0, retP_1, retP_2, retP_3, res_tmp, res_cell, ret_one, ret_two, ret_three, ret_none, List.set_set, if_true, if_false, ite_true, ite_false, List.map_cons, List.map_nil, Option.map_some, Option.map_none, List.toList_toArray, rd_def, rd_ints, wr_def, wr_ints, at_def, at_ints, bytes_ints, bytesA_ints, ints_set, nums_len, List.length_nil, List.length_cons, List.length_set, List.length_append, List.nil_append, List.cons_append, List.getElem?_cons_zero, List.getElem?_cons_succ, List.set_cons_zero, List.set_cons_succ, List.drop_zero, List.take_succ_cons, List.take_zero, List.take_length, Option.bind_some, true_and, and_true, Nat.zero_add, Nat.mul_one, Int.toNat_zero, Int.reduceToNat, Int.reduceAdd, Int.reduceSub, Int.reduceMul, Int.reduceNeg, Nat.reduceAdd, Nat.reduceSub, Nat.reduceMul, Nat.reducePow, Nat.min_eq_left, Int.reducePow, Nat.le_refl, Int.cast_ofNat_Int, Nat.reduceLT, Nat.reduceLeDiff, Nat.reduceEqDiff, Int.reduceLE, Int.reduceLT, Int.reduceEq, ne_eq, not_false_eq_true, not_true_eq_false, reduceCtorEq, decide_true, decide_false, and_self, and_false, false_and, Bool.not_true, Bool.not_false, Try.underlying0, Try.underlying1, Try.underlying2, Try.underlying3, Try.underlying4, Try.underlying5, Try.underlying6, Try.underlying7, Try.underlying8, Try.underlying9, Try.underlying10, Try.underlying11, Try.underlying12, Try.underlying13, Try.underlying14, Try.underlying15, Try.underlying16, Try.underlying17, Try.underlying18, Try.underlying19, Try.underlying20, Try.underlying21, Try.underlying22, Try.underlying23, Try.underlying24, Try.underlying25, Try.underlying26, Try.underlying27, Try.underlying28, Try.underlying29, Try.underlying30, Try.underlying31, Try.underlying32, Try.underlying33, Try.underlying34, Try.underlying35, Try.underlying36, Try.underlying37, Try.underlying38, Try.underlying39, Try.underlying40, Try.underlying41, Try.underlying42, Try.underlying43, Try.underlying44, Try.underlying45, Try.underlying46, Try.underlying47, Try.underlying48, Try.underlying49, Try.underlying50, Try.underlying51, Try.underlying52, Try.underlying53, Try.underlying54, Try.underlying55, Try.underlying56, Try.underlying57, Try.underlying58, Try.underlying59, Try.underlying60, Try.underlying61, Try.underlying62, Try.underlying63, Try.underlying64, Try.underlying65, Try.underlying66, Try.underlying67, Try.underlying68, Try.underlying69, Try.underlying70, Try.underlying71, Try.underlying72, Try.underlying73, Try.underlying74, Try.underlying75, Try.underlying76, Try.underlying77, Try.underlying78, Try.underlying79, Try.underlying80, Try.underlying81, Try.underlying82, Try.underlying83, Try.underlying84, Try.underlying85, Try.underlying86, Try.underlying87, Try.underlying88, Try.underlying89, Try.underlying90, Try.underlying91, Try.underlying92, Try.underlying93, Try.underlying94, Try.underlying95, Try.underlying96, Try.underlying97, Try.underlying98, Try.underlying99, Try.underlying100, Try.underlying101, Try.underlying102, Try.underlying103, Try.underlying104, Try.underlying105, Try.underlying106, Try.underlying107, Try.underlying108, Try.underlying109, Try.underlying110, Try.underlying111, Try.underlying112, Try.underlying113, Try.underlying114, Try.underlying115, Try.underlying116, Try.underlying117, Try.underlying118, Try.underlying119, Try.underlying120, Try.underlying121, Try.underlying122, Try.underlying123, Try.underlying124, Try.underlying125, Try.underlying126, Try.underlying127, Try.underlying128, Try.underlying129, Try.underlying130, Try.underlying131, Try.underlying132, Try.underlying133, Try.underlying134, Try.underlying135, Try.underlying136, Try.underlying137, Try.underlying138, Try.underlying139, Try.underlying140, Try.underlying141, Try.underlying142, Try.underlying143, Try.underlying144, Try.underlying145, Try.underlying146, Try.underlying147, tyOk0, agg0, cells0, tyOk1, agg1, cells1, tyOk2, agg2, cells2, zero2, info2, mk2, bs2_0, bs2_1, bs2_2, bs2_3, bs2_4, bs2_5, bs2_6, bs2_7, bs2_8, bs2_10, bs2_11, bs2_12, bs2_13, tyOk3, agg3, cells3, zero3, apS26, apN26, info3, mk3, bs3_0, bs3_1, bs3_2, bs3_3, bs3_4, bs3_5, bs3_6, bs3_7, bs3_8, bs3_10, bs3_11, bs3_12, bs3_13, tyOk4, agg4, cells4, zero4, info4, mk4, bs4_0, bs4_1, bs4_2, apS52, apN52, tyOk5, agg5, cells5, isU5, zero5, apS22, apN22, apStr22, info5, mk5, bs5_0, bs5_1, bs5_2, bs5_3, bs5_4, bs5_5, bs5_6, bs5_7, bs5_8, bs5_10, bs5_11, bs5_12, bs5_13, tyOk6, agg6, cells6, isU6, zero6, info6, mk6, bs6_0, bs6_1, bs6_2, bs6_3, bs6_4, bs6_5, bs6_6, bs6_7, bs6_8, bs6_10, bs6_11, bs6_12, bs6_13, tyOk7, agg7, cells7, zero7, fadr7_0, fld7_0, fadr7_1, fld7_1, fadr7_2, fld7_2, fadr7_3, fld7_3, bz7, bds7, tyOk8, agg8, cells8, zero8, fadr8_0, fld8_0, fadr8_1, fld8_1, fadr8_2, fld8_2, fadr8_3, fld8_3, bz8, bds8, tyOk9, agg9, cells9, zero9, info9, bs9_0, bs9_1, bs9_2, bs9_3, bs9_4, bs9_5, bs9_6, bs9_8, bs9_9, bs9_10, apS125, apN125, tyOk10, agg10, cells10, zero10, info10, bs10_0, bs10_1, bs10_2, bs10_3, bs10_4, bs10_5, bs10_6, bs10_8, bs10_9, bs10_10, tyOk11, agg11, cells11, zero11, info11, bs11_0, bs11_1, bs11_2, bs11_3, bs11_4, bs11_5, bs11_6, bs11_8, bs11_9, bs11_10, tyOk12, agg12, cells12, zero12, info12, mk12, bs12_0, bs12_1, bs12_2, bs12_3, bs12_4, bs12_5, bs12_6, bs12_7, bs12_8, bs12_10, bs12_11, bs12_12, bs12_13, tyOk13, agg13, cells13, zero13, fadr13_0, fld13_0, fadr13_1, fld13_1, bz13, bds13, tyOk14, agg14, cells14, zero14, fadr14_0, fld14_0, fadr14_1, fld14_1, bz14, bds14, tyOk15, agg15, cells15, zero15, tyOk16, agg16, cells16, zero16, tyOk17, agg17, cells17, zero17, tyOk18, agg18, cells18, zero18, fadr18_0, fld18_0, bz18, bds18, tyOk19, agg19, cells19, zero19, fadr19_0, fld19_0, bz19, bds19, tyOk20, agg20, cells20, tyOk21, agg21, cells21, zero21, info21, mk21, bs21_0, bs21_1, bs21_2, bs21_3, bs21_4, bs21_5, bs21_6, bs21_7, bs21_8, bs21_10, bs21_11, bs21_12, bs21_13, tyOk22, agg22, cells22, zero22, tyOk23, agg23, cells23, tyOk24, agg24, cells24, tyOk25, agg25, cells25, tyOk26, agg26, cells26, zero26, tyOk27, agg27, cells27, tyOk28, agg28, cells28, tyOk29, agg29, cells29, zero29, info29, mk29, bs29_0, bs29_1, bs29_2, bs29_3, bs29_4, bs29_5, bs29_6, bs29_7, bs29_8, bs29_10, bs29_11, bs29_12, bs29_13, tyOk30, agg30, cells30, tyOk31, agg31, cells31, tyOk32, agg32, cells32, tyOk33, agg33, cells33, tyOk34, agg34, cells34, tyOk35, agg35, cells35, tyOk36, agg36, cells36, tyOk37, agg37, cells37, tyOk38, agg38, cells38, tyOk39, agg39, cells39, tyOk40, agg40, cells40, tyOk41, agg41, cells41, tyOk42, agg42, cells42, tyOk43, agg43, cells43, tyOk44, agg44, cells44, tyOk45, agg45, cells45, tyOk46, agg46, cells46, tyOk47, agg47, cells47, tyOk48, agg48, cells48, tyOk49, agg49, cells49, zero49, tyOk50, agg50, cells50, tyOk51, agg51, cells51, tyOk52, agg52, cells52, zero52, tyOk53, agg53, cells53, zero53, fadr53_0, fld53_0, fadr53_1, fld53_1, fadr53_2, fld53_2, fadr53_3, fld53_3, bz53, bds53, tyOk54, agg54, cells54, zero54, fadr54_0, fld54_0, fadr54_1, fld54_1, fadr54_2, fld54_2, fadr54_3, fld54_3, bz54, bds54, tyOk55, agg55, cells55, tyOk56, agg56, cells56, tyOk57, agg57, cells57, zero57, fadr57_0, fld57_0, fadr57_1, fld57_1, fadr57_2, fld57_2, fadr57_3, fld57_3, bz57, bds57, tyOk58, agg58, cells58, zero58, info58, apS49, apN49, bs58_1, bs58_0, fadr58_0, fld58_0, fadr58_1, fld58_1, fadr58_2, fld58_2, fadr58_3, fld58_3, bz58, bds58, tyOk59, agg59, cells59, tyOk60, agg60, cells60, tyOk61, agg61, cells61, tyOk62, agg62, cells62, tyOk63, agg63, cells63, tyOk64, agg64, cells64, tyOk65, agg65, cells65, tyOk66, agg66, cells66, tyOk67, agg67, cells67, tyOk68, agg68, cells68, tyOk69, agg69, cells69, tyOk70, agg70, cells70, tyOk71, agg71, cells71, tyOk72, agg72, cells72, tyOk73, agg73, cells73, tyOk74, agg74, cells74, zero74, tyOk75, agg75, cells75, tyOk76, agg76, cells76, tyOk77, agg77, cells77, tyOk78, agg78, cells78, zero78, ix78, bz78, tyOk79, agg79, cells79, tyOk80, agg80, cells80, tyOk81, agg81, cells81, tyOk82, agg82, cells82, tyOk83, agg83, cells83, tyOk84, agg84, cells84, tyOk85, agg85, cells85, zero85, info85, mk85, bs85_0, bs85_1, bs85_2, bs85_3, bs85_4, bs85_5, bs85_6, bs85_7, bs85_8, bs85_10, bs85_11, bs85_12, bs85_13, tyOk86, agg86, cells86, zero86, ix86, bz86, bd86, tyOk87, agg87, cells87, tyOk88, agg88, cells88, zero88, ix88, bz88, tyOk89, agg89, cells89, tyOk90, agg90, cells90, tyOk91, agg91, cells91, tyOk92, agg92, cells92, tyOk93, agg93, cells93, tyOk94, agg94, cells94, tyOk95, agg95, cells95, tyOk96, agg96, cells96, tyOk97, agg97, cells97, tyOk98, agg98, cells98, tyOk99, agg99, cells99, tyOk100, agg100, cells100, tyOk101, agg101, cells101, tyOk102, agg102, cells102, tyOk103, agg103, cells103, tyOk104, agg104, cells104, tyOk105, agg105, cells105, tyOk106, agg106, cells106, tyOk107, agg107, cells107, tyOk108, agg108, cells108, tyOk109, agg109, cells109, zero109, fadr109_0, fld109_0, fadr109_1, fld109_1, fadr109_2, fld109_2, bz109, bds109, tyOk110, agg110, cells110, zero110, fadr110_0, fld110_0, fadr110_1, fld110_1, fadr110_2, fld110_2, bz110, bds110, tyOk111, agg111, cells111, tyOk112, agg112, cells112, tyOk113, agg113, cells113, zero113, tyOk114, agg114, cells114, zero114, fadr114_0, fld114_0, fadr114_1, fld114_1, bz114, bds114, tyOk115, agg115, cells115, zero115, fadr115_0, fld115_0, fadr115_1, fld115_1, bz115, bds115, tyOk116, agg116, cells116, tyOk117, agg117, cells117, tyOk118, agg118, cells118, tyOk119, agg119, cells119, tyOk120, agg120, cells120, tyOk121, agg121, cells121, tyOk122, agg122, cells122, tyOk123, agg123, cells123, tyOk124, agg124, cells124, tyOk125, agg125, cells125, zero125, tyOk126, agg126, cells126, tyOk127, agg127, cells127, tyOk128, agg128, cells128, tyOk129, agg129, cells129, zero129, info129, mk129, bs129_0, bs129_1, bs129_2, bs129_3, bs129_4, bs129_5, bs129_6, bs129_7, bs129_8, bs129_10, bs129_11, bs129_12, bs129_13, tyOk130, agg130, cells130, tyOk131, agg131, cells131, tyOk132, agg132, cells132, zero132, tyOk133, agg133, cells133, zero133, tyOk134, agg134, cells134, tyOk135, agg135, cells135, tyOk136, agg136, cells136, zero136, fadr136_0, fld136_0, fadr136_1, fld136_1, fadr136_2, fld136_2, fadr136_3, fld136_3, bz136, bds136, tyOk137, agg137, cells137, zero137, fadr137_0, fld137_0, fadr137_1, fld137_1, fadr137_2, fld137_2, fadr137_3, fld137_3, bz137, bds137, tyOk138, agg138, cells138, zero138, tyOk139, agg139, cells139, zero139, tyOk140, agg140, cells140, zero140, tyOk141, agg141, cells141, isU141, zero141, info141, mk141, bs141_0, bs141_1, bs141_2, bs141_3, bs141_4, bs141_5, bs141_6, bs141_7, bs141_8, bs141_10, bs141_11, bs141_12, bs141_13, tyOk142, agg142, cells142, isU142, zero142, info142, mk142, bs142_0, bs142_1, bs142_2, bs142_3, bs142_4, bs142_5, bs142_6, bs142_7, bs142_8, bs142_10, bs142_11, bs142_12, bs142_13, tyOk143, agg143, cells143, tyOk144, agg144, cells144, zero144, info144, mk144, bs144_0, bs144_1, bs144_2, bs144_3, bs144_4, bs144_5, bs144_6, bs144_7, bs144_8, bs144_10, bs144_11, bs144_12, bs144_13, tyOk145, agg145, cells145, zero145, info145, mk145, bs145_0, bs145_1, bs145_2, bs145_3, bs145_4, bs145_5, bs145_6, bs145_7, bs145_8, bs145_10, bs145_11, bs145_12, bs145_13, tyOk146, agg146, cells146, fadr146_0, fld146_0, fadr146_1, fld146_1, fadr146_2, fld146_2, fadr146_3, fld146_3, fadr146_4, fld146_4, fadr146_5, fld146_5, fadr146_6, fld146_6, fadr146_7, fld146_7, fadr146_8, fld146_8, fadr146_9, fld146_9, fadr146_10, fld146_10, tyOk147, agg147, cells147, fadr147_0, fld147_0, fadr147_1, fld147_1, fadr147_2, fld147_2, fadr147_3, fld147_3, fadr147_4, fld147_4, fadr147_5, fld147_5, fadr147_6, fld147_6, fadr147_7, fld147_7, fadr147_8, fld147_8, fadr147_9, fld147_9, fadr147_10, fld147_10, a2, a3, a4, a5, a6, List.append_assoc, hap_0, hap_k, hset_0, hset_k, hkill_0, hkill_k, Nat.add_assoc, x1, ovr_m, ovr_n]
      exact ⟨_, rfl, Ext.more _ _, by omega, hap_k _ _ 4⟩
  · refine ⟨_, _, rfl, by omega, ?_, ?_, ?_, ?_, ?_⟩ <;> simp -implicitDefEqProofs only [ne_eq, Nat.reduceEqDiff, not_false_eq_true, upd_ne, upd_eq] <;> rfl
end Go.Proofs.Ytknmbiebnpojjaa.Sim
