/- Texts of this proof, put together. -/
import Derived.Test.YtknmbiebnpojjaaMFnPieces1
import Derived.Test.YtknmbiebnpojjaaTy
import Derived.Test.YtknmbiebnpojjaaChecked
import Derived.Test.YtknmbiebnpojjaaShelf
import Derived.ChangeSlices
import Derived.ChangeShapes
import Derived.WideShapes
namespace Go.Proofs.Ytknmbiebnpojjaa.Sim
open Go
set_option maxRecDepth 100000
set_option maxHeartbeats 40000000
set_option linter.unusedSimpArgs false
set_option linter.unusedVariables false
def putK (l ys : List Int) (f : Nat) : Nat → List Int
  | 0 => l
  | k + 1 => (putK l ys f k).set (f + k) (ys.getD k 0)
theorem putK_len (l ys : List Int) (f : Nat) : ∀ k, (putK l ys f k).length = l.length
  | 0 => rfl
  | k + 1 => by rw [putK, List.length_set, putK_len l ys f k]
theorem putK_get (l ys : List Int) (f j : Nat) : ∀ k, f + k ≤ j → (putK l ys f k).getD j 0 = l.getD j 0
  | 0, _ => rfl
  | k + 1, h => by
    rw [putK, List.getD_eq_getElem?_getD, List.getElem?_set_ne (by omega), ← List.getD_eq_getElem?_getD]
    exact putK_get l ys f j k (by omega)
theorem putK_eq (l ys : List Int) (f : Nat) : ∀ k, f + k ≤ l.length → k ≤ ys.length → putK l ys f k = l.take f ++ (ys.take k ++ l.drop (f + k))
  | 0, h, _ => by simp [putK]
  | k + 1, h, h2 => by
    rw [putK, putK_eq l ys f k (by omega) (by omega), List.set_append_right _ _ (by rw [List.length_take]; omega), List.length_take, Nat.min_eq_left (by omega), Nat.add_sub_cancel_left, List.set_append_right _ _ (by rw [List.length_take]; omega), List.length_take, Nat.min_eq_left (by omega), Nat.sub_self]
    have hd : l.drop (f + k) = l[f + k] :: l.drop (f + k + 1) := List.drop_eq_getElem_cons (by omega)
    rw [hd, List.set_cons_zero, List.take_add_one, List.getD_eq_getElem?_getD, List.getElem?_eq_getElem (show k < ys.length by omega), List.append_assoc]
    rfl
theorem putK_T (z y : ByteArray) (f : Nat) (h : f + y.size ≤ z.size) : strOfNums (putK (nums z) (nums y) f y.size) = putT z f y := by
  have hr : ∀ v ∈ putK (nums z) (nums y) f y.size, 0 ≤ v ∧ v < 256 := by
    rw [putK_eq _ _ _ _ (by rw [nums_len]; exact h) (by rw [nums_len]; exact Nat.le_refl _)]
    intro v hv
    rcases List.mem_append.1 hv with hv | hv
    · exact nums_range z v (List.mem_of_mem_take hv)
    · rcases List.mem_append.1 hv with hv | hv
      · exact nums_range y v (List.mem_of_mem_take hv)
      · exact nums_range z v (List.mem_of_mem_drop hv)
  apply nums_inj
  rw [nums_son hr, putK_eq _ _ _ _ (by rw [nums_len]; exact h) (by rw [nums_len]; exact Nat.le_refl _), putT, nums_append, nums_append, nums_extract, nums_extract, List.drop_zero, List.take_of_length_le (l := nums y) (by rw [nums_len]; exact Nat.le_refl _), List.take_of_length_le (l := nums z) (i := z.size) (by rw [nums_len]; exact Nat.le_refl _), List.append_assoc]
theorem boxPutS {H : AHeap} {x : AV} {l : List Bool} (hx : IsB H x l) (hl : l.length ≤ 1000000000) (i t : Int) (z : ByteArray) (hz : z.size ≤ 1000000000) (pi pt pf : Int) (y : ByteArray) (hy : y.size ≤ 1000000000) :
    ∃ (q : Nat) (Z : AHeap), Sound Try.prog 51 [bx i t z x, prt pi pt pf y] H (bpR i t q (bpV i t z l pi pt pf y)) Z ∧ Ext H Z ∧ H.length ≤ q ∧ Z[q]? = some ⟨bools (bpV i t z l pi pt pf y).2.1, true, true⟩ := by
  suffices h : ∃ v Z, Sound Try.prog 51 [bx i t z x, prt pi pt pf y] H v Z ∧ ∃ q, v = bpR i t q (bpV i t z l pi pt pf y) ∧ Ext H Z ∧ H.length ≤ q ∧ Z[q]? = some ⟨bools (bpV i t z l pi pt pf y).2.1, true, true⟩ by
    obtain ⟨v, Z, h1, q, rfl, h2⟩ := h
    exact ⟨q, Z, h1, h2⟩
  refine Sound.runP (args := [bx i t z x, prt pi pt pf y]) 88 [.cell 4 54, .tmp 5] Try.func51 rfl rfl rfl rfl (by simp) (fun v Z => ∃ q, v = bpR i t q (bpV i t z l pi pt pf y) ∧ Ext H Z ∧ H.length ≤ q ∧ Z[q]? = some ⟨bools (bpV i t z l pi pt pf y).2.1, true, true⟩) ?_
  have x1 := hx.one
  obtain ⟨A, hA⟩ : ∃ A : Reg, A = ⟨[.sc (.int .i64 i), .sc (.int .i64 t), .sc (.string z), x], true, true⟩ := ⟨_, rfl⟩
  obtain ⟨B, hB⟩ : ∃ B : Reg, B = ⟨[.sc (.int .i64 pi), .sc (.int .i64 pt), .sc (.int .i64 pf), .sc (.string y)], true, true⟩ := ⟨_, rfl⟩
  obtain ⟨C, hC⟩ : ∃ C : Reg, C = ⟨[.sc (.int .i64 0), .sc (.int .i64 0), .sc (.string ByteArray.empty), .sc (.slice none 0 0)], true, true⟩ := ⟨_, rfl⟩
  have e0 := Ext.more H [A, B, C]
  obtain ⟨q1, Z1, a1, a2, a3, a4⟩ := copyBoxS (e0.isB hx) hl i t z
  have a3' : H.length + 3 ≤ q1 := by
    rw [List.length_append] at a3
    exact a3
  have q1l : q1 < Z1.length := at_lt a4
  obtain ⟨D, hD⟩ : ∃ D : Reg, D = ⟨[.sc (.int .i64 i), .sc (.int .i64 t), .sc (.string z), .sl q1 0 l.length 1], true, true⟩ := ⟨_, rfl⟩
  have e1 := (e0.trans a2).add [D]
  have E1 := a2.add [D]
  have s0 : (Z1 ++ [D])[H.length]? = some A := E1.at (hap_k H [A, B, C] 0)
  have s1 : (Z1 ++ [D])[H.length + 1]? = some B := E1.at (hap_k H [A, B, C] 1)
  have s2 : (Z1 ++ [D])[H.length + 2]? = some C := E1.at (hap_k H [A, B, C] 2)
  have s3 : (Z1 ++ [D])[Z1.length]? = some D := at_end _ _
  have s4 : (Z1 ++ [D])[q1]? = some ⟨bools l, true, true⟩ := (Ext.more Z1 [D]).at a4
  have t0 : Z1[H.length]? = some A := a2.at (hap_k H [A, B, C] 0)
  have wl : H.length + 2 < Z1.length := by omega
  have dup : ∀ W : AHeap, Ext (Z1 ++ [D]) W → Ext H (W.set (H.length + 2) D) ∧ H.length ≤ q1 ∧ (W.set (H.length + 2) D)[q1]? = some ⟨bools l, true, true⟩ := fun W w => ⟨(e1.trans w).set (by omega) _, by omega, (List.getElem?_set_ne (by omega)).trans (w.at s4)⟩
  by_cases h1 : okPc pi pt pf y ∧ okBx i t z l.length
  · have p1 := pieceS pi pt pf y true (by simp [h1.1]) hy
    obtain ⟨Z2, b1, b2⟩ := boxOkS (e1.isB hx) i t z true (by simp [h1.2])
    have e2 := e1.trans b2
    have r0 := b2.at s0
    have r1 := b2.at s1
    have r2 := b2.at s2
    have r3 := b2.at s3
    have r4 := b2.at s4
    have d2 := dup Z2 b2
    by_cases h2 : i ≠ pi ∨ t ≠ pt
    · rw [bp_2 h1 h2]
      subst hA hB hC hD
      unfold bx at a1 b1
      unfold prt at p1
      unfold bx prt bpR
      by_cases h3 : i = pi
      · have h4 : ¬ pt = t := by
          rcases h2 with h2 | h2
          · exact absurd h3 h2
          · exact fun h => h2 h.symm
        have h3' := eq_true h3.symm
        simp -implicitDefEqProofs only [↓w_seq, ↓w_region, ↓ops_cons, ↓g_box, Nat.reduceLT, ev_tab, par0, cells_agg, ne_eq, Nat.reduceEqDiff, not_false_eq_true, upd_ne, par1, ↓g_alloc, zero54, Option.map_some, ↓g_assign, ↓ops_nil, ev_const, of_int, ↓g_load, upd_eq, alK_some, List.all_cons, one_int, one_str, one_nil, List.all_nil, Bool.and_self, true_and, List.append_assoc, List.cons_append, List.nil_append, List.length_append, List.length_cons, List.length_nil, Nat.zero_add, x1, rd_def, tyOk54, agg54, cells54, hap_0, List.getElem?_cons_zero, rd_aggc, Nat.reduceAdd, Nat.le_refl, List.drop_zero, List.take_succ_cons, List.take_zero, if_true, Nat.add_assoc, onS_some]
        refine call1S (by simp -implicitDefEqProofs only [List.map_cons, Nat.reduceLT, ev_tab, upd_eq, List.map_nil] <;> rfl) a1 ?_
        simp -implicitDefEqProofs only [↓ops_cons, ↓g_alloc, zero54, Option.map_some, ↓g_store, Nat.reduceLT, ev_tab, upd_eq, ne_eq, Nat.reduceEqDiff, not_false_eq_true, upd_ne, ↓ops_nil, ↓w_seq, ↓w_region, ↓g_load, rd_def, tyOk58, agg58, cells58, alK_some, List.all_cons, one_int, one_str, one_nil, List.all_nil, Bool.and_self, wr_def, tyOk54, cells54, hap_0, List.getElem?_cons_zero, wr_c, cells_agg, List.length_cons, List.length_nil, Nat.zero_add, Nat.reduceAdd, Nat.le_refl, one_sl, and_self, ovr_m, ovr_n, hset_0, List.set_cons_zero, if_true, onS_some, s1, rd_aggc, List.drop_zero, List.take_succ_cons, List.take_zero, true_and]
        refine call1 (by simp -implicitDefEqProofs only [List.map_cons, Nat.reduceLT, ev_tab, upd_eq, List.map_nil] <;> rfl) p1 ?_
        simp -implicitDefEqProofs only [↓ops_cons, ↓g_unOp, Nat.reduceLT, ev_tab, upd_eq, u_not, Bool.not_true, Option.map_some, ↓g_move, onS_some, yielded_tab, dstAt_s, dstAt_0, ybv_some, boolOf_b, ↓g_guard_t, ↓g_load, ne_eq, Nat.reduceEqDiff, not_false_eq_true, upd_ne, rd_def, tyOk54, agg54, cells54, s0, rd_aggc, Nat.zero_add, List.length_cons, List.length_nil, Nat.reduceAdd, Nat.le_refl, List.drop_zero, List.take_succ_cons, List.take_zero, if_true]
        refine call1S (by simp -implicitDefEqProofs only [List.map_cons, Nat.reduceLT, ev_tab, upd_eq, List.map_nil] <;> rfl) b1 ?_
        simp -implicitDefEqProofs only [↓ops_cons, yielded_tab, dstAt_s, dstAt_0, Nat.reduceLT, ybv_some, ne_eq, Nat.reduceEqDiff, not_false_eq_true, upd_ne, upd_eq, boolOf_b, ↓g_guard_t, ↓g_unOp, ev_tab, u_not, Bool.not_true, Option.map_some, ↓g_pick, ev_const, of_bool, pick_b, reduceCtorEq, if_false, ↓ops_nil, ↓w_cond, ↓w_seq, ↓w_region, ↓g_load, rd_def, tyOk54, agg54, cells54, r3, rd_aggc, Nat.zero_add, List.length_cons, List.length_nil, Nat.reduceAdd, Nat.le_refl, List.drop_zero, List.take_succ_cons, List.take_zero, if_true, ↓g_store, wr_def, r2, wr_c, true_and, ↓g_assign, ↓w_ret, of_int, retP_2, res_cell, res_tmp, onS_some, onS_ite, at_set (at_lt r2), cells_agg, List.all_cons, one_int, one_str, one_sl, List.all_nil, Bool.and_self, and_self, ovr_m, ovr_n, ↓w_skip, ↓g_fieldAddrT, fadr58_0, fadr54_0, ↓g_binOp, ↓g_move, tyOk3, agg3, cells3, r0, rd_onec, List.getElem?_cons_zero, r1, b_neq, h3', decide_true, fadr58_1, fadr54_1, fadr54_2, ↓g_convert, Try.underlying9, Try.underlying22, ↓w_block, tyOk9, agg9, cells9, List.getElem?_cons_succ, c_bytes, isU5, cells5, bytes_ints, h4, decide_false, Bool.not_false, onB_true, onB_false]
        exact ⟨q1, rfl, d2⟩
      · have h3' : ¬ pi = i := fun h => h3 h.symm
        simp -implicitDefEqProofs only [↓w_seq, ↓w_region, ↓ops_cons, ↓g_box, Nat.reduceLT, ev_tab, par0, cells_agg, ne_eq, Nat.reduceEqDiff, not_false_eq_true, upd_ne, par1, ↓g_alloc, zero54, Option.map_some, ↓g_assign, ↓ops_nil, ev_const, of_int, ↓g_load, upd_eq, alK_some, List.all_cons, one_int, one_str, one_nil, List.all_nil, Bool.and_self, true_and, List.append_assoc, List.cons_append, List.nil_append, List.length_append, List.length_cons, List.length_nil, Nat.zero_add, x1, rd_def, tyOk54, agg54, cells54, hap_0, List.getElem?_cons_zero, rd_aggc, Nat.reduceAdd, Nat.le_refl, List.drop_zero, List.take_succ_cons, List.take_zero, if_true, Nat.add_assoc, onS_some]
        refine call1S (by simp -implicitDefEqProofs only [List.map_cons, Nat.reduceLT, ev_tab, upd_eq, List.map_nil] <;> rfl) a1 ?_
        simp -implicitDefEqProofs only [↓ops_cons, ↓g_alloc, zero54, Option.map_some, ↓g_store, Nat.reduceLT, ev_tab, upd_eq, ne_eq, Nat.reduceEqDiff, not_false_eq_true, upd_ne, ↓ops_nil, ↓w_seq, ↓w_region, ↓g_load, rd_def, tyOk58, agg58, cells58, alK_some, List.all_cons, one_int, one_str, one_nil, List.all_nil, Bool.and_self, wr_def, tyOk54, cells54, hap_0, List.getElem?_cons_zero, wr_c, cells_agg, List.length_cons, List.length_nil, Nat.zero_add, Nat.reduceAdd, Nat.le_refl, one_sl, and_self, ovr_m, ovr_n, hset_0, List.set_cons_zero, if_true, onS_some, s1, rd_aggc, List.drop_zero, List.take_succ_cons, List.take_zero, true_and]
        refine call1 (by simp -implicitDefEqProofs only [List.map_cons, Nat.reduceLT, ev_tab, upd_eq, List.map_nil] <;> rfl) p1 ?_
        simp -implicitDefEqProofs only [↓ops_cons, ↓g_unOp, Nat.reduceLT, ev_tab, upd_eq, u_not, Bool.not_true, Option.map_some, ↓g_move, onS_some, yielded_tab, dstAt_s, dstAt_0, ybv_some, boolOf_b, ↓g_guard_t, ↓g_load, ne_eq, Nat.reduceEqDiff, not_false_eq_true, upd_ne, rd_def, tyOk54, agg54, cells54, s0, rd_aggc, Nat.zero_add, List.length_cons, List.length_nil, Nat.reduceAdd, Nat.le_refl, List.drop_zero, List.take_succ_cons, List.take_zero, if_true]
        refine call1S (by simp -implicitDefEqProofs only [List.map_cons, Nat.reduceLT, ev_tab, upd_eq, List.map_nil] <;> rfl) b1 ?_
        simp -implicitDefEqProofs only [↓ops_cons, yielded_tab, dstAt_s, dstAt_0, Nat.reduceLT, ybv_some, ne_eq, Nat.reduceEqDiff, not_false_eq_true, upd_ne, upd_eq, boolOf_b, ↓g_guard_t, ↓g_unOp, ev_tab, u_not, Bool.not_true, Option.map_some, ↓g_pick, ev_const, of_bool, pick_b, reduceCtorEq, if_false, ↓ops_nil, ↓w_cond, ↓w_seq, ↓w_region, ↓g_load, rd_def, tyOk54, agg54, cells54, r3, rd_aggc, Nat.zero_add, List.length_cons, List.length_nil, Nat.reduceAdd, Nat.le_refl, List.drop_zero, List.take_succ_cons, List.take_zero, if_true, ↓g_store, wr_def, r2, wr_c, true_and, ↓g_assign, ↓w_ret, of_int, retP_2, res_cell, res_tmp, onS_some, onS_ite, at_set (at_lt r2), cells_agg, List.all_cons, one_int, one_str, one_sl, List.all_nil, Bool.and_self, and_self, ovr_m, ovr_n, ↓w_skip, ↓g_fieldAddrT, fadr58_0, fadr54_0, ↓g_binOp, ↓g_move, tyOk3, agg3, cells3, r0, rd_onec, List.getElem?_cons_zero, r1, b_neq, h3', decide_false, Bool.not_false, ↓g_guard_f, fadr54_2, ↓g_convert, Try.underlying9, Try.underlying22, ↓w_block, tyOk9, agg9, cells9, List.getElem?_cons_succ, c_bytes, isU5, cells5, bytes_ints, onB_true, onB_false]
        exact ⟨q1, rfl, d2⟩
    · have h3 : i = pi := Decidable.byContradiction fun h => h2 (.inl h)
      have h4 : t = pt := Decidable.byContradiction fun h => h2 (.inr h)
      subst h3 h4
      obtain ⟨⟨o1, o2⟩, ⟨o3, o4⟩, o5, o6⟩ := h1.1
      obtain ⟨o7, o8, o9, o10⟩ := h1.2
      obtain ⟨f, rfl⟩ := Int.eq_ofNat_of_zero_le o5
      have hzf : f + y.size ≤ z.size := by omega
      have hlz : l.length = z.size := by omega
      have g7 : Z1.length < Z2.length := at_lt r3
      have e3 := Ext.more Z2 [⟨ints .u8 (nums z), true, true⟩]
      have u0 := e3.at r0
      have u1 := e3.at r1
      have u2 := e3.at r2
      have u3 := e3.at r3
      have u4 := e3.at r4
      have u5 := at_end Z2 ⟨ints .u8 (nums z), true, true⟩
      have e4 := e2.trans e3
      subst hA hB hC hD
      unfold bx at a1 b1
      unfold prt at p1
      unfold bx prt
      simp -implicitDefEqProofs only [↓w_seq, ↓w_region, ↓ops_cons, ↓g_box, Nat.reduceLT, ev_tab, par0, cells_agg, ne_eq, Nat.reduceEqDiff, not_false_eq_true, upd_ne, par1, ↓g_alloc, zero54, Option.map_some, ↓g_assign, ↓ops_nil, ev_const, of_int, ↓g_load, upd_eq, alK_some, List.all_cons, one_int, one_str, one_nil, List.all_nil, Bool.and_self, true_and, List.append_assoc, List.cons_append, List.nil_append, List.length_append, List.length_cons, List.length_nil, Nat.zero_add, x1, rd_def, tyOk54, agg54, cells54, hap_0, List.getElem?_cons_zero, rd_aggc, Nat.reduceAdd, Nat.le_refl, List.drop_zero, List.take_succ_cons, List.take_zero, if_true, Nat.add_assoc, onS_some]
      refine call1S (by simp -implicitDefEqProofs only [List.map_cons, Nat.reduceLT, ev_tab, upd_eq, List.map_nil] <;> rfl) a1 ?_
      simp -implicitDefEqProofs only [↓ops_cons, ↓g_alloc, zero54, Option.map_some, ↓g_store, Nat.reduceLT, ev_tab, upd_eq, ne_eq, Nat.reduceEqDiff, not_false_eq_true, upd_ne, ↓ops_nil, ↓w_seq, ↓w_region, ↓g_load, rd_def, tyOk58, agg58, cells58, alK_some, List.all_cons, one_int, one_str, one_nil, List.all_nil, Bool.and_self, wr_def, tyOk54, cells54, hap_0, List.getElem?_cons_zero, wr_c, cells_agg, List.length_cons, List.length_nil, Nat.zero_add, Nat.reduceAdd, Nat.le_refl, one_sl, and_self, ovr_m, ovr_n, hset_0, List.set_cons_zero, if_true, onS_some, s1, rd_aggc, List.drop_zero, List.take_succ_cons, List.take_zero, true_and]
      refine call1 (by simp -implicitDefEqProofs only [List.map_cons, Nat.reduceLT, ev_tab, upd_eq, List.map_nil] <;> rfl) p1 ?_
      simp -implicitDefEqProofs only [↓ops_cons, ↓g_unOp, Nat.reduceLT, ev_tab, upd_eq, u_not, Bool.not_true, Option.map_some, ↓g_move, onS_some, yielded_tab, dstAt_s, dstAt_0, ybv_some, boolOf_b, ↓g_guard_t, ↓g_load, ne_eq, Nat.reduceEqDiff, not_false_eq_true, upd_ne, rd_def, tyOk54, agg54, cells54, s0, rd_aggc, Nat.zero_add, List.length_cons, List.length_nil, Nat.reduceAdd, Nat.le_refl, List.drop_zero, List.take_succ_cons, List.take_zero, if_true]
      refine call1S (by simp -implicitDefEqProofs only [List.map_cons, Nat.reduceLT, ev_tab, upd_eq, List.map_nil] <;> rfl) b1 ?_
      simp -implicitDefEqProofs only [↓ops_cons, yielded_tab, dstAt_s, dstAt_0, Nat.reduceLT, ybv_some, ne_eq, Nat.reduceEqDiff, not_false_eq_true, upd_ne, upd_eq, boolOf_b, ↓g_guard_t, ↓g_unOp, ev_tab, u_not, Bool.not_true, Option.map_some, ↓g_pick, ev_const, of_bool, pick_b, reduceCtorEq, if_false, ↓ops_nil, ↓w_cond, ↓w_seq, ↓w_region, ↓g_load, rd_def, tyOk54, agg54, cells54, r3, rd_aggc, Nat.zero_add, List.length_cons, List.length_nil, Nat.reduceAdd, Nat.le_refl, List.drop_zero, List.take_succ_cons, List.take_zero, if_true, ↓g_store, wr_def, r2, wr_c, true_and, ↓g_assign, ↓w_ret, of_int, retP_2, res_cell, res_tmp, onS_some, onS_ite, cells_agg, List.all_cons, one_int, one_str, one_sl, List.all_nil, Bool.and_self, and_self, ↓w_skip, ↓g_fieldAddrT, fadr58_0, fadr54_0, ↓g_binOp, ↓g_move, tyOk3, agg3, cells3, r0, rd_onec, List.getElem?_cons_zero, r1, b_neq, decide_true, fadr58_1, fadr54_1, fadr54_2, ↓g_convert, Try.underlying9, Try.underlying22, ↓w_block, tyOk9, agg9, cells9, List.getElem?_cons_succ, c_bytes, isU5, cells5, bytes_ints, onB_false]
      refine w_loop (ι := Nat) (fun k s => ∃ (T : Nat → AV) (Y : AHeap), s = ⟨tab 88 T, Y⟩ ∧ k ≤ y.size ∧ (∀ j, j < k → ¬ conf l z f y j) ∧ Ext H Y ∧ Y.length = Z2.length + 1 ∧ Y[H.length]? = some ⟨[.sc (.int .i64 i), .sc (.int .i64 t), .sc (.string z), x], true, true⟩ ∧ Y[H.length + 1]? = some ⟨[.sc (.int .i64 i), .sc (.int .i64 t), .sc (.int .i64 f), .sc (.string y)], true, true⟩ ∧ Y[H.length + 2]? = some ⟨[.sc (.int .i64 0), .sc (.int .i64 0), .sc (.string ByteArray.empty), .sc (.slice none 0 0)], true, true⟩ ∧ Y[Z1.length]? = some ⟨[.sc (.int .i64 i), .sc (.int .i64 t), .sc (.string z), .sl q1 0 l.length 1], true, true⟩ ∧ Y[q1]? = some ⟨bools (fillK l f k), true, true⟩ ∧ Y[Z2.length]? = some ⟨ints .u8 (putK (nums z) (nums y) f k), true, true⟩ ∧ T 2 = .ptr H.length 0 ∧ T 3 = .ptr (H.length + 1) 0 ∧ T 4 = .ptr (H.length + 2) 0 ∧ T 6 = .ptr Z1.length 0 ∧ T 7 = .sl Z2.length 0 z.size 1 ∧ T 8 = .sc (.int .i64 k)) (fun k => y.size - k) ?_ (i := 0) ?_
      · rintro k s ⟨T, Y, rfl, lp1, lp2, ey, ly, v0, v1, v2, v3, v4, v5, c2, c3, c4, c6, c7, c8⟩
        by_cases hk : k < y.size
        · have k1 : (k : Int) < y.size := by omega
          have k2 : (0 : Int) ≤ (k : Int) := by omega
          have e2 : IntKind.i64.wrap ((f : Int) + k) = ((f + k : Nat) : Int) := by rw [w64 (by omega) (by omega)]; omega
          have e3 : IntKind.i64.wrap ((k : Int) + 1) = k + 1 := w64 (by omega) (by omega)
          have k3 : (0 : Int) ≤ ((f + k : Nat) : Int) := by omega
          have k4 : ((f + k : Nat) : Int) < l.length := by omega
          have k4' : ((f + k : Nat) : Int) < z.size := by omega
          have k5 : f + k < l.length := by omega
          have k6 : f + k < (putK (nums z) (nums y) f k).length := by rw [putK_len, nums_len]; omega
          have k7 : f + k < (fillK l f k).length := by rw [fillK_len]; omega
          have hg : (putK (nums z) (nums y) f k).getD (f + k) 0 = byteAt z (f + k) := by rw [putK_get _ _ _ _ _ (Nat.le_refl _), byteAt_nums]
          obtain ⟨r, o, rfl, hr⟩ := (ey.isB hx).get k5
          have more : ¬ conf l z f y k → ∀ j, j < k + 1 → ¬ conf l z f y j := fun hu j hj => by
            rcases Nat.lt_or_ge j k with q | q
            · exact lp2 j q
            · obtain rfl : j = k := by omega
              exact hu
          have hq1 : q1 < Y.length := by omega
          have n1 : ∀ g : Reg, (Y.set q1 g)[H.length + 1]? = some ⟨[.sc (.int .i64 i), .sc (.int .i64 t), .sc (.int .i64 f), .sc (.string y)], true, true⟩ := fun g => (List.getElem?_set_ne (by omega)).trans v1
          have n2 : ∀ g : Reg, (Y.set q1 g)[Z2.length]? = some ⟨ints .u8 (putK (nums z) (nums y) f k), true, true⟩ := fun g => (List.getElem?_set_ne (by omega)).trans v5
          have hby : ∀ v, (putK (nums z) (nums y) f k).set (f + k) v = (putK (nums z) (nums y) f k).set (f + k) v := fun _ => rfl
          have step : ∀ T2 : Nat → AV, T2 2 = .ptr H.length 0 → T2 3 = .ptr (H.length + 1) 0 → T2 4 = .ptr (H.length + 2) 0 → T2 6 = .ptr Z1.length 0 → T2 7 = .sl Z2.length 0 z.size 1 → T2 8 = .sc (.int .i64 ((k : Int) + 1)) → ¬ conf l z f y k → ∃ i', y.size - i' < y.size - k ∧ ∃ (T : Nat → AV) (W : AHeap), (⟨tab 88 T2, (Y.set q1 ⟨bools ((fillK l f k).set (f + k) true), true, true⟩).set Z2.length ⟨ints .u8 ((putK (nums z) (nums y) f k).set (f + k) (byteAt y k)), true, true⟩⟩ : St) = ⟨tab 88 T, W⟩ ∧ i' ≤ y.size ∧ (∀ j, j < i' → ¬ conf l z f y j) ∧ Ext H W ∧ W.length = Z2.length + 1 ∧ W[H.length]? = some ⟨[.sc (.int .i64 i), .sc (.int .i64 t), .sc (.string z), .sl r 0 l.length 1], true, true⟩ ∧ W[H.length + 1]? = some ⟨[.sc (.int .i64 i), .sc (.int .i64 t), .sc (.int .i64 f), .sc (.string y)], true, true⟩ ∧ W[H.length + 2]? = some ⟨[.sc (.int .i64 0), .sc (.int .i64 0), .sc (.string ByteArray.empty), .sc (.slice none 0 0)], true, true⟩ ∧ W[Z1.length]? = some ⟨[.sc (.int .i64 i), .sc (.int .i64 t), .sc (.string z), .sl q1 0 l.length 1], true, true⟩ ∧ W[q1]? = some ⟨bools (fillK l f i'), true, true⟩ ∧ W[Z2.length]? = some ⟨ints .u8 (putK (nums z) (nums y) f i'), true, true⟩ ∧ T 2 = .ptr H.length 0 ∧ T 3 = .ptr (H.length + 1) 0 ∧ T 4 = .ptr (H.length + 2) 0 ∧ T 6 = .ptr Z1.length 0 ∧ T 7 = .sl Z2.length 0 z.size 1 ∧ T 8 = .sc (.int .i64 i') := fun T2 m2 m3 m4 m6 m7 m8 hn => by
            refine ⟨k + 1, by omega, T2, _, rfl, by omega, more hn, (ey.set (by omega) _).set (by omega) _, by rw [List.length_set, List.length_set, ly], ?_, ?_, ?_, ?_, ?_, ?_, m2, m3, m4, m6, m7, m8⟩
            · exact (List.getElem?_set_ne (by omega)).trans ((List.getElem?_set_ne (by omega)).trans v0)
            · exact (List.getElem?_set_ne (by omega)).trans ((List.getElem?_set_ne (by omega)).trans v1)
            · exact (List.getElem?_set_ne (by omega)).trans ((List.getElem?_set_ne (by omega)).trans v2)
            · exact (List.getElem?_set_ne (by omega)).trans ((List.getElem?_set_ne (by omega)).trans v3)
            · exact (List.getElem?_set_ne (by omega)).trans (List.getElem?_set_self hq1)
            · rw [List.getElem?_set_self (by rw [List.length_set]; omega), putK, byteAt_nums]
          simp -implicitDefEqProofs only [↓w_seq, ↓w_region, ↓ops_cons, ↓g_move, ↓g_fieldAddrT, Nat.reduceLT, ev_tab, c8, ne_eq, Nat.reduceEqDiff, not_false_eq_true, upd_ne, c3, fadr58_3, Nat.zero_add, ↓g_load, upd_eq, ↓g_len, Try.underlying9, ↓g_binOp, ↓ops_nil, ↓w_cond, ↓w_skip, ↓w_block, ↓w_exit, ↓g_convert, Try.underlying22, c7, c6, fadr54_2, ↓g_store, rd_def, tyOk54, agg54, cells54, c4, wr_def, ↓g_assign, ↓w_ret, ev_const, of_int, retP_2, res_cell, res_tmp, onS_some, tyOk9, cells9, c_text, isU5, and_self, at_def, if_true, agg9, v1, rd_onec, List.getElem?_cons_succ, List.getElem?_cons_zero, len_str, b_lss, k1, decide_true, onB_true]
          refine drawn [(1, 0), (3, 0), (7, 0), (11, 0), (15, 0), (17, 0)] follows (by kernel_rfl) (by kernel_rfl) ?_
          by_cases hb : l.getD (f + k) false = true
          · by_cases hc : byteAt z (f + k) = byteAt y k
            · have hnc : ¬ conf l z f y k := fun h => h.2 hc
              simp -implicitDefEqProofs only [↓dops_cons, ↓g_fieldAddrT, Nat.reduceLT, ev_tab, ne_eq, Nat.reduceEqDiff, not_false_eq_true, upd_ne, c2, fadr54_3, Nat.zero_add, ↓g_load, upd_eq, c3, fadr58_2, ↓g_move, ↓g_binOp, c8, ↓g_indexAddr, Try.underlying52, onS_some, rd_def, tyOk3, agg3, cells3, v1, rd_onec, List.getElem?_cons_succ, List.getElem?_cons_zero, b_add, e2, tyOk52, agg52, cells52, v0, adr_sl, k3, k4, cells4, tyOk4, and_self, Int.toNat_natCast, Nat.mul_one, if_true, agg4, hr, rd_bools, k5, hb, yielded_tab, dstAt_s, dstAt_0, ybv_some, boolOf_b, ↓g_guard_t, c7, Try.underlying22, fadr58_3, ↓g_index, Try.underlying9, ↓g_pick, ev_const, of_bool, pick_b, ↓dops_p, ↓w_cond, ↓w_seq, ↓w_region, ↓ops_cons, tyOk54, agg54, cells54, rd_aggc, List.length_cons, List.length_nil, Nat.reduceAdd, Nat.le_refl, List.drop_zero, List.take_succ_cons, List.take_zero, ↓w_skip, c6, ↓g_store, ↓ops_nil, tyOk9, agg9, cells9, idx_str, k2, hk, k4', cells5, tyOk5, agg5, v5, rd_ints, k6, hg, hc, b_neq, decide_true, Bool.not_true, onB_false]
              refine ⟨pairs_cons (same_H rfl) (pairs_cons (same_H rfl) (pairs_cons (same_H rfl) (pairs_cons (same_H rfl) (pairs_cons (same_H rfl) (pairs_cons (same_H rfl) (pairs_nil)))))), ?_⟩
              try simp -implicitDefEqProofs only [v3, rd_onec, List.getElem?_cons_succ, List.getElem?_cons_zero, onS_some, adr_sl, k3, k4, cells4, tyOk4, and_self, Int.toNat_natCast, Nat.mul_one, Nat.zero_add, if_true, wr_def, v4, wr_bools, k7]
              refine drawn [(2, 0), (6, 0)] follows (by kernel_rfl) (by kernel_rfl) ?_
              simp -implicitDefEqProofs only [↓dops_cons, ↓g_move, ↓g_fieldAddrT, Nat.reduceLT, ev_tab, ne_eq, Nat.reduceEqDiff, not_false_eq_true, upd_ne, c7, c3, fadr58_2, Nat.zero_add, ↓g_load, upd_eq, ↓g_binOp, c8, fadr58_3, ↓g_index, Try.underlying9, ↓g_indexAddr, Try.underlying22, ↓g_store, ↓dops_p, ↓w_region, ↓ops_cons, ev_const, of_int, b_add, e3, ↓g_assign, ↓ops_nil, onS_some, rd_def, tyOk9, agg9, cells9, n1, rd_onec, List.getElem?_cons_succ, List.getElem?_cons_zero, idx_str, k2, Int.toNat_natCast, hk, and_self, if_true, tyOk3, agg3, cells3, e2, adr_sl, k3, k4', cells5, tyOk5, Nat.mul_one, wr_def, n2, wr_ints, k6]
              refine ⟨pairs_cons (same_H rfl) (pairs_cons (same_H rfl) (pairs_nil)), ?_⟩
              try simp -implicitDefEqProofs only [↓w_seq, ↓w_skip, ↓w_ret, ↓w_exit, ↓w_block, ↓w_cond, ↓w_region, ↓ops_nil, ↓ops_cons, ↓dops_0, ↓dops_p, ↓dops_cons, ↓g_move, ↓g_assign, ↓g_binOp, ↓g_unOp, ↓g_pick, ↓g_len, ↓g_index, ↓g_indexAddr, ↓g_slice, ↓g_convert, ↓g_load, ↓g_store, ↓g_extract, ↓g_nilCheck, ↓g_fieldT, ↓g_fieldAddrT, of_agg, rd_aggc, rd_onec, wr_c, cells_int, cells_str, cells_bool, cells_nil, cells_sl, cells_ptr, cells_agg, one_int, one_str, one_bool, one_nil, one_sl, one_ptr, over_0, over_s, List.all_cons, List.all_nil, Bool.and_true, Bool.and_self, List.getElem?_nil, List.drop_succ_cons, List.drop_nil, ↓g_guard_t, ↓g_guard_f, ↓g_alloc, ↓g_box, ↓g_buildSlice, ↓g_makeSlice, ↓g_buildV, rdA, wrA, ints_one, List.length_replicate, bools_one, strs_one, rd_bools, rd_strs, wr_bools, wr_strs, at_bools, at_strs, ap_bools, ap_boolsN, ap_strs, ap_strsN, ↓g_append, src_sl, src_nil, src_str, ap_ints, ap_intsN, kill_len, kill_0, kill_s, bnd_none, bnd_int, cut_str, cutS_some, cut_sl, cutL_some, bits_i64, bits_u32, bits_u8, List.getD_cons_zero, List.getD_cons_succ, at_end, at_a, at_b, yielded_tab, dstAt_0, dstAt_s, ybv_some, boolOf_b, ext_0, ext_1, ext_2, ext_3, alK_some, ev_tab, ev_const, upd_eq, upd_ne, par0, par1, par2, par3, par4, par5, of_int, of_str, of_bool, len_str, len_arr, len_sl, idx_str, adr_sl, adr_arr, c_int, c_str, c_bytes, c_text, pick_b, onS_some, onS_ite, onS_not, b_add, b_sub, b_mul, b_and, b_or, b_xor, b_eql, b_neq, b_lss, b_leq, b_gtr, b_geq, b_shl, b_shr, b_quo, b_rem, t_add, t_eql, t_neq, v_eql, v_neq, b_andNot, u_not, onB_true, onB_false, onB_dec, onB_not, ret_cell, ret_ct, retP_0, retP_1, retP_2, retP_3, res_tmp, res_cell, ret_one, ret_two, ret_three, ret_none, List.set_set, if_true, if_false, ite_true, ite_false, List.map_cons, List.map_nil, Option.map_some, Option.map_none, List.toList_toArray, rd_def, rd_ints, wr_def, wr_ints, at_def, at_ints, bytes_ints, bytesA_ints, ints_set, nums_len, List.length_nil, List.length_cons, List.length_set, List.length_append, List.nil_append, List.cons_append, List.getElem?_cons_zero, List.getElem?_cons_succ, List.set_cons_zero, List.set_cons_succ, List.drop_zero, List.take_succ_cons, List.take_zero, List.take_length, Option.bind_some, true_and, and_true, Nat.zero_add, Nat.mul_one, Int.toNat_zero, Int.reduceToNat, Int.reduceAdd, Int.reduceSub, Int.reduceMul, Int.reduceNeg, Nat.reduceAdd, Nat.reduceSub, Nat.reduceMul, Nat.reducePow, Nat.min_eq_left, Int.reducePow, Nat.le_refl, Int.cast_ofNat_Int, Nat.reduceLT, Nat.reduceLeDiff, Nat.reduceEqDiff, Int.reduceLE, Int.reduceLT, Int.reduceEq, ne_eq, not_false_eq_true, not_true_eq_false, reduceCtorEq, decide_true, decide_false, and_self, and_false, false_and, Bool.not_true, Bool.not_false, Try.underlying0, Try.underlying1, Try.underlying2, Try.underlying3, Try.underlying4, Try.underlying5, Try.underlying6, Try.underlying7, Try.underlying8, Try.underlying9, Try.underlying10, Try.underlying11, Try.underlying12, Try.underlying13, Try.underlying14, Try.underlying15, Try.underlying16, Try.underlying17, Try.underlying18, Try.underlying19, Try.underlying20, Try.underlying21, Try.underlying22, Try.underlying23, Try.underlying24, Try.underlying25, Try.underlying26, Try.underlying27, Try.underlying28, Try.underlying29, Try.underlying30, Try.underlying31, Try.underlying32, Try.underlying33, Try.underlying34, Try.underlying35, Try.underlying36, Try.underlying37, Try.underlying38, Try.underlying39, Try.underlying40, Try.underlying41, Try.underlying42, Try.underlying43, Try.underlying44, Try.underlying45, Try.underlying46, Try.underlying47, Try.underlying48, Try.underlying49, Try.underlying50, Try.underlying51, Try.underlying52, Try.underlying53, Try.underlying54, Try.underlying55, Try.underlying56, Try.underlying57, Try.underlying58, Try.underlying59, Try.underlying60, Try.underlying61, Try.underlying62, Try.underlying63, Try.underlying64, Try.underlying65, Try.underlying66, Try.underlying67, Try.underlying68, Try.underlying69, Try.underlying70, Try.underlying71, Try.underlying72, Try.underlying73, Try.underlying74, Try.underlying75, Try.underlying76, Try.underlying77, Try.underlying78, Try.underlying79, Try.underlying80, Try.underlying81, Try.underlying82, Try.underlying83, Try.underlying84, Try.underlying85, Try.underlying86, Try.underlying87, Try.underlying88, Try.underlying89, Try.underlying90, Try.underlying91, Try.underlying92, Try.underlying93, Try.underlying94, Try.underlying95, Try.underlying96, Try.underlying97, Try.underlying98, Try.underlying99, Try.underlying100, Try.underlying101, Try.underlying102, Try.underlying103, Try.underlying104, Try.underlying105, Try.underlying106, Try.underlying107, Try.underlying108, Try.underlying109, Try.underlying110, Try.underlying111, Try.underlying112, Try.underlying113, Try.underlying114, Try.underlying115, Try.underlying116, Try.underlying117, Try.underlying118, Try.underlying119, Try.underlying120, Try.underlying121, Try.underlying122, Try.underlying123, Try.underlying124, Try.underlying125, Try.underlying126, Try.underlying127, Try.underlying128, Try.underlying129, Try.underlying130, Try.underlying131, Try.underlying132, Try.underlying133, Try.underlying134, Try.underlying135, Try.underlying136, Try.underlying137, Try.underlying138, Try.underlying139, Try.underlying140, Try.underlying141, Try.underlying142, Try.underlying143, Try.underlying144, Try.underlying145, Try.underlying146, Try.underlying147, tyOk0, agg0, cells0, tyOk1, agg1, cells1, tyOk2, agg2, cells2, zero2, info2, mk2, bs2_0, bs2_1, bs2_2, bs2_3, bs2_4, bs2_5, bs2_6, bs2_7, bs2_8, bs2_10, bs2_11, bs2_12, bs2_13, tyOk3, agg3, cells3, zero3, apS26, apN26, info3, mk3, bs3_0, bs3_1, bs3_2, bs3_3, bs3_4, bs3_5, bs3_6, bs3_7, bs3_8, bs3_10, bs3_11, bs3_12, bs3_13, tyOk4, agg4, cells4, zero4, info4, mk4, bs4_0, bs4_1, bs4_2, apS52, apN52, tyOk5, agg5, cells5, isU5, zero5, apS22, apN22, apStr22, info5, mk5, bs5_0, bs5_1, bs5_2, bs5_3, bs5_4, bs5_5, bs5_6, bs5_7, bs5_8, bs5_10, bs5_11, bs5_12, bs5_13, tyOk6, agg6, cells6, isU6, zero6, info6, mk6, bs6_0, bs6_1, bs6_2, bs6_3, bs6_4, bs6_5, bs6_6, bs6_7, bs6_8, bs6_10, bs6_11, bs6_12, bs6_13, tyOk7, agg7, cells7, zero7, fadr7_0, fld7_0, fadr7_1, fld7_1, fadr7_2, fld7_2, fadr7_3, fld7_3, bz7, bds7, tyOk8, agg8, cells8, zero8, fadr8_0, fld8_0, fadr8_1, fld8_1, fadr8_2, fld8_2, fadr8_3, fld8_3, bz8, bds8, tyOk9, agg9, cells9, zero9, info9, bs9_0, bs9_1, bs9_2, bs9_3, bs9_4, bs9_5, bs9_6, bs9_8, bs9_9, bs9_10, apS125, apN125, tyOk10, agg10, cells10, zero10, info10, bs10_0, bs10_1, bs10_2, bs10_3, bs10_4, bs10_5, bs10_6, bs10_8, bs10_9, bs10_10, tyOk11, agg11, cells11, zero11, info11, bs11_0, bs11_1, bs11_2, bs11_3, bs11_4, bs11_5, bs11_6, bs11_8, bs11_9, bs11_10, tyOk12, agg12, cells12, zero12, info12, mk12, bs12_0, bs12_1, bs12_2, bs12_3, bs12_4, bs12_5, bs12_6, bs12_7, bs12_8, bs12_10, bs12_11, bs12_12, bs12_13, tyOk13, agg13, cells13, zero13, fadr13_0, fld13_0, fadr13_1, fld13_1, bz13, bds13, tyOk14, agg14, cells14, zero14, fadr14_0, fld14_0, fadr14_1, fld14_1, bz14, bds14, tyOk15, agg15, cells15, zero15, tyOk16, agg16, cells16, zero16, tyOk17, agg17, cells17, zero17, tyOk18, agg18, cells18, zero18, fadr18_0, fld18_0, bz18, bds18, tyOk19, agg19, cells19, zero19, fadr19_0, fld19_0, bz19, bds19, tyOk20, agg20, cells20, tyOk21, agg21, cells21, zero21, info21, mk21, bs21_0, bs21_1, bs21_2, bs21_3, bs21_4, bs21_5, bs21_6, bs21_7, bs21_8, bs21_10, bs21_11, bs21_12, bs21_13, tyOk22, agg22, cells22, zero22, tyOk23, agg23, cells23, tyOk24, agg24, cells24, tyOk25, agg25, cells25, tyOk26, agg26, cells26, zero26, tyOk27, agg27, cells27, tyOk28, agg28, cells28, tyOk29, agg29, cells29, zero29, info29, mk29, bs29_0, bs29_1, bs29_2, bs29_3, bs29_4, bs29_5, bs29_6, bs29_7, bs29_8, bs29_10, bs29_11, bs29_12, bs29_13, tyOk30, agg30, cells30, tyOk31, agg31, cells31, tyOk32, agg32, cells32, tyOk33, agg33, cells33, tyOk34, agg34, cells34, tyOk35, agg35, cells35, tyOk36, agg36, cells36, tyOk37, agg37, cells37, tyOk38, agg38, cells38, tyOk39, agg39, cells39, tyOk40, agg40, cells40, tyOk41, agg41, cells41, tyOk42, agg42, cells42, tyOk43, agg43, cells43, tyOk44, agg44, cells44, tyOk45, agg45, cells45, tyOk46, agg46, cells46, tyOk47, agg47, cells47, tyOk48, agg48, cells48, tyOk49, agg49, cells49, zero49, tyOk50, agg50, cells50, tyOk51, agg51, cells51, tyOk52, agg52, cells52, zero52, tyOk53, agg53, cells53, zero53, fadr53_0, fld53_0, fadr53_1, fld53_1, fadr53_2, fld53_2, fadr53_3, fld53_3, bz53, bds53, tyOk54, agg54, cells54, zero54, fadr54_0, fld54_0, fadr54_1, fld54_1, fadr54_2, fld54_2, fadr54_3, fld54_3, bz54, bds54, tyOk55, agg55, cells55, tyOk56, agg56, cells56, tyOk57, agg57, cells57, zero57, fadr57_0, fld57_0, fadr57_1, fld57_1, fadr57_2, fld57_2, fadr57_3, fld57_3, bz57, bds57, tyOk58, agg58, cells58, zero58, info58, apS49, apN49, bs58_1, bs58_0, fadr58_0, fld58_0, fadr58_1, fld58_1, fadr58_2, fld58_2, fadr58_3, fld58_3, bz58, bds58, tyOk59, agg59, cells59, tyOk60, agg60, cells60, tyOk61, agg61, cells61, tyOk62, agg62, cells62, tyOk63, agg63, cells63, tyOk64, agg64, cells64, tyOk65, agg65, cells65, tyOk66, agg66, cells66, tyOk67, agg67, cells67, tyOk68, agg68, cells68, tyOk69, agg69, cells69, tyOk70, agg70, cells70, tyOk71, agg71, cells71, tyOk72, agg72, cells72, tyOk73, agg73, cells73, tyOk74, agg74, cells74, zero74, tyOk75, agg75, cells75, tyOk76, agg76, cells76, tyOk77, agg77, cells77, tyOk78, agg78, cells78, zero78, ix78, bz78, tyOk79, agg79, cells79, tyOk80, agg80, cells80, tyOk81, agg81, cells81, tyOk82, agg82, cells82, tyOk83, agg83, cells83, tyOk84, agg84, cells84, tyOk85, agg85, cells85, zero85, info85, mk85, bs85_0, bs85_1, bs85_2, bs85_3, bs85_4, bs85_5, bs85_6, bs85_7, bs85_8, bs85_10, bs85_11, bs85_12, bs85_13, tyOk86, agg86, cells86, zero86, ix86, bz86, bd86, tyOk87, agg87, cells87, tyOk88, agg88, cells88, zero88, ix88, bz88, tyOk89, agg89, cells89, tyOk90, agg90, cells90, tyOk91, agg91, cells91, tyOk92, agg92, cells92, tyOk93, agg93, cells93, tyOk94, agg94, cells94, tyOk95, agg95, cells95, tyOk96, agg96, cells96, tyOk97, agg97, cells97, tyOk98, agg98, cells98, tyOk99, agg99, cells99, tyOk100, agg100, cells100, tyOk101, agg101, cells101, tyOk102, agg102, cells102, tyOk103, agg103, cells103, tyOk104, agg104, cells104, tyOk105, agg105, cells105, tyOk106, agg106, cells106, tyOk107, agg107, cells107, tyOk108, agg108, cells108, tyOk109, agg109, cells109, zero109, fadr109_0, fld109_0, fadr109_1, fld109_1, fadr109_2, fld109_2, bz109, bds109, tyOk110, agg110, cells110, zero110, fadr110_0, fld110_0, fadr110_1, fld110_1, fadr110_2, fld110_2, bz110, bds110, tyOk111, agg111, cells111, tyOk112, agg112, cells112, tyOk113, agg113, cells113, zero113, tyOk114, agg114, cells114, zero114, fadr114_0, fld114_0, fadr114_1, fld114_1, bz114, bds114, tyOk115, agg115, cells115, zero115, fadr115_0, fld115_0, fadr115_1, fld115_1, bz115, bds115, tyOk116, agg116, cells116, tyOk117, agg117, cells117, tyOk118, agg118, cells118, tyOk119, agg119, cells119, tyOk120, agg120, cells120, tyOk121, agg121, cells121, tyOk122, agg122, cells122, tyOk123, agg123, cells123, tyOk124, agg124, cells124, tyOk125, agg125, cells125, zero125, tyOk126, agg126, cells126, tyOk127, agg127, cells127, tyOk128, agg128, cells128, tyOk129, agg129, cells129, zero129, info129, mk129, bs129_0, bs129_1, bs129_2, bs129_3, bs129_4, bs129_5, bs129_6, bs129_7, bs129_8, bs129_10, bs129_11, bs129_12, bs129_13, tyOk130, agg130, cells130, tyOk131, agg131, cells131, tyOk132, agg132, cells132, zero132, tyOk133, agg133, cells133, zero133, tyOk134, agg134, cells134, tyOk135, agg135, cells135, tyOk136, agg136, cells136, zero136, fadr136_0, fld136_0, fadr136_1, fld136_1, fadr136_2, fld136_2, fadr136_3, fld136_3, bz136, bds136, tyOk137, agg137, cells137, zero137, fadr137_0, fld137_0, fadr137_1, fld137_1, fadr137_2, fld137_2, fadr137_3, fld137_3, bz137, bds137, tyOk138, agg138, cells138, zero138, tyOk139, agg139, cells139, zero139, tyOk140, agg140, cells140, zero140, tyOk141, agg141, cells141, isU141, zero141, info141, mk141, bs141_0, bs141_1, bs141_2, bs141_3, bs141_4, bs141_5, bs141_6, bs141_7, bs141_8, bs141_10, bs141_11, bs141_12, bs141_13, tyOk142, agg142, cells142, isU142, zero142, info142, mk142, bs142_0, bs142_1, bs142_2, bs142_3, bs142_4, bs142_5, bs142_6, bs142_7, bs142_8, bs142_10, bs142_11, bs142_12, bs142_13, tyOk143, agg143, cells143, tyOk144, agg144, cells144, zero144, info144, mk144, bs144_0, bs144_1, bs144_2, bs144_3, bs144_4, bs144_5, bs144_6, bs144_7, bs144_8, bs144_10, bs144_11, bs144_12, bs144_13, tyOk145, agg145, cells145, zero145, info145, mk145, bs145_0, bs145_1, bs145_2, bs145_3, bs145_4, bs145_5, bs145_6, bs145_7, bs145_8, bs145_10, bs145_11, bs145_12, bs145_13, tyOk146, agg146, cells146, fadr146_0, fld146_0, fadr146_1, fld146_1, fadr146_2, fld146_2, fadr146_3, fld146_3, fadr146_4, fld146_4, fadr146_5, fld146_5, fadr146_6, fld146_6, fadr146_7, fld146_7, fadr146_8, fld146_8, fadr146_9, fld146_9, fadr146_10, fld146_10, tyOk147, agg147, cells147, fadr147_0, fld147_0, fadr147_1, fld147_1, fadr147_2, fld147_2, fadr147_3, fld147_3, fadr147_4, fld147_4, fadr147_5, fld147_5, fadr147_6, fld147_6, fadr147_7, fld147_7, fadr147_8, fld147_8, fadr147_9, fld147_9, fadr147_10, fld147_10, c2, c3, c4, c6, c7, c8, e3]
              refine step _ ?_ ?_ ?_ ?_ ?_ ?_ hnc <;> simp -implicitDefEqProofs only [ne_eq, Nat.reduceEqDiff, not_false_eq_true, upd_ne, c2, c3, c4, c6, c7, upd_eq] <;> rfl
            · obtain ⟨q, Z3, w1, w2, w3, w4⟩ := copyBoxS (ey.isB hx) hl i t z
              have r5 := w2.at v2
              rw [bp_3 h1 h2 ⟨k, hk, hb, hc⟩]
              unfold bx at w1
              unfold bpR bx
              simp -implicitDefEqProofs only [↓dops_cons, ↓g_fieldAddrT, Nat.reduceLT, ev_tab, ne_eq, Nat.reduceEqDiff, not_false_eq_true, upd_ne, c2, fadr54_3, Nat.zero_add, ↓g_load, upd_eq, c3, fadr58_2, ↓g_move, ↓g_binOp, c8, ↓g_indexAddr, Try.underlying52, onS_some, rd_def, tyOk3, agg3, cells3, v1, rd_onec, List.getElem?_cons_succ, List.getElem?_cons_zero, b_add, e2, tyOk52, agg52, cells52, v0, adr_sl, k3, k4, cells4, tyOk4, and_self, Int.toNat_natCast, Nat.mul_one, if_true, agg4, hr, rd_bools, k5, hb, yielded_tab, dstAt_s, dstAt_0, ybv_some, boolOf_b, ↓g_guard_t, c7, Try.underlying22, fadr58_3, ↓g_index, Try.underlying9, ↓g_pick, ev_const, of_bool, pick_b, ↓dops_p, ↓w_cond, ↓w_seq, ↓w_region, ↓ops_cons, tyOk54, agg54, cells54, rd_aggc, List.length_cons, List.length_nil, Nat.reduceAdd, Nat.le_refl, List.drop_zero, List.take_succ_cons, List.take_zero, ↓w_skip, c6, ↓g_store, ↓ops_nil, tyOk9, agg9, cells9, idx_str, k2, hk, k4', cells5, tyOk5, agg5, v5, rd_ints, k6, hg, b_neq, hc, decide_false, Bool.not_false, onB_true]
              refine ⟨pairs_cons (same_H rfl) (pairs_cons (same_H rfl) (pairs_cons (same_H rfl) (pairs_cons (same_H rfl) (pairs_cons (same_H rfl) (pairs_cons (same_H rfl) (pairs_nil)))))), ?_⟩
              try simp -implicitDefEqProofs only [↓w_seq, ↓w_skip, ↓w_ret, ↓w_exit, ↓w_block, ↓w_cond, ↓w_region, ↓ops_nil, ↓ops_cons, ↓dops_0, ↓dops_p, ↓dops_cons, ↓g_move, ↓g_assign, ↓g_binOp, ↓g_unOp, ↓g_pick, ↓g_len, ↓g_index, ↓g_indexAddr, ↓g_slice, ↓g_convert, ↓g_load, ↓g_store, ↓g_extract, ↓g_nilCheck, ↓g_fieldT, ↓g_fieldAddrT, of_agg, rd_aggc, rd_onec, wr_c, cells_int, cells_str, cells_bool, cells_nil, cells_sl, cells_ptr, cells_agg, one_int, one_str, one_bool, one_nil, one_sl, one_ptr, over_0, over_s, List.all_cons, List.all_nil, Bool.and_true, Bool.and_self, List.getElem?_nil, List.drop_succ_cons, List.drop_nil, ↓g_guard_t, ↓g_guard_f, ↓g_alloc, ↓g_box, ↓g_buildSlice, ↓g_makeSlice, ↓g_buildV, rdA, wrA, ints_one, List.length_replicate, bools_one, strs_one, rd_bools, rd_strs, wr_bools, wr_strs, at_bools, at_strs, ap_bools, ap_boolsN, ap_strs, ap_strsN, ↓g_append, src_sl, src_nil, src_str, ap_ints, ap_intsN, kill_len, kill_0, kill_s, bnd_none, bnd_int, cut_str, cutS_some, cut_sl, cutL_some, bits_i64, bits_u32, bits_u8, List.getD_cons_zero, List.getD_cons_succ, at_end, at_a, at_b, yielded_tab, dstAt_0, dstAt_s, ybv_some, boolOf_b, ext_0, ext_1, ext_2, ext_3, alK_some, ev_tab, ev_const, upd_eq, upd_ne, par0, par1, par2, par3, par4, par5, of_int, of_str, of_bool, len_str, len_arr, len_sl, idx_str, adr_sl, adr_arr, c_int, c_str, c_bytes, c_text, pick_b, onS_some, onS_ite, onS_not, b_add, b_sub, b_mul, b_and, b_or, b_xor, b_eql, b_neq, b_lss, b_leq, b_gtr, b_geq, b_shl, b_shr, b_quo, b_rem, t_add, t_eql, t_neq, v_eql, v_neq, b_andNot, u_not, onB_true, onB_false, onB_dec, onB_not, ret_cell, ret_ct, retP_0, retP_1, retP_2, retP_3, res_tmp, res_cell, ret_one, ret_two, ret_three, ret_none, List.set_set, if_true, if_false, ite_true, ite_false, List.map_cons, List.map_nil, Option.map_some, Option.map_none, List.toList_toArray, rd_def, rd_ints, wr_def, wr_ints, at_def, at_ints, bytes_ints, bytesA_ints, ints_set, nums_len, List.length_nil, List.length_cons, List.length_set, List.length_append, List.nil_append, List.cons_append, List.getElem?_cons_zero, List.getElem?_cons_succ, List.set_cons_zero, List.set_cons_succ, List.drop_zero, List.take_succ_cons, List.take_zero, List.take_length, Option.bind_some, true_and, and_true, Nat.zero_add, Nat.mul_one, Int.toNat_zero, Int.reduceToNat, Int.reduceAdd, Int.reduceSub, Int.reduceMul, Int.reduceNeg, Nat.reduceAdd, Nat.reduceSub, Nat.reduceMul, Nat.reducePow, Nat.min_eq_left, Int.reducePow, Nat.le_refl, Int.cast_ofNat_Int, Nat.reduceLT, Nat.reduceLeDiff, Nat.reduceEqDiff, Int.reduceLE, Int.reduceLT, Int.reduceEq, ne_eq, not_false_eq_true, not_true_eq_false, reduceCtorEq, decide_true, decide_false, and_self, and_false, false_and, Bool.not_true, Bool.not_false, Try.underlying0, Try.underlying1, Try.underlying2, Try.underlying3, Try.underlying4, Try.underlying5, Try.underlying6, Try.underlying7, Try.underlying8, Try.underlying9, Try.underlying10, Try.underlying11, Try.underlying12, Try.underlying13, Try.underlying14, Try.underlying15, Try.underlying16, Try.underlying17, Try.underlying18, Try.underlying19, Try.underlying20, Try.underlying21, Try.underlying22, Try.underlying23, Try.underlying24, Try.underlying25, Try.underlying26, Try.underlying27, Try.underlying28, Try.underlying29, Try.underlying30, Try.underlying31, Try.underlying32, Try.underlying33, Try.underlying34, Try.underlying35, Try.underlying36, Try.underlying37, Try.underlying38, Try.underlying39, Try.underlying40, Try.underlying41, Try.underlying42, Try.underlying43, Try.underlying44, Try.underlying45, Try.underlying46, Try.underlying47, Try.underlying48, Try.underlying49, Try.underlying50, Try.underlying51, Try.underlying52, Try.underlying53, Try.underlying54, Try.underlying55, Try.underlying56, Try.underlying57, Try.underlying58, Try.underlying59, Try.underlying60, Try.underlying61, Try.underlying62, Try.underlying63, Try.underlying64, Try.underlying65, Try.underlying66, Try.underlying67, Try.underlying68, Try.underlying69, Try.underlying70, Try.underlying71, Try.underlying72, Try.underlying73, Try.underlying74, Try.underlying75, Try.underlying76, Try.underlying77, Try.underlying78, Try.underlying79, Try.underlying80, Try.underlying81, Try.underlying82, Try.underlying83, Try.underlying84, Try.underlying85, Try.underlying86, Try.underlying87, Try.underlying88, Try.underlying89, Try.underlying90, Try.underlying91, Try.underlying92, Try.underlying93, Try.underlying94, Try.underlying95, Try.underlying96, Try.underlying97, Try.underlying98, Try.underlying99, Try.underlying100, Try.underlying101, Try.underlying102, Try.underlying103, Try.underlying104, Try.underlying105, Try.underlying106, Try.underlying107, Try.underlying108, Try.underlying109, Try.underlying110, Try.underlying111, Try.underlying112, Try.underlying113, Try.underlying114, Try.underlying115, Try.underlying116, Try.underlying117, Try.underlying118, Try.underlying119, Try.underlying120, Try.underlying121, Try.underlying122, Try.underlying123, Try.underlying124, Try.underlying125, Try.underlying126, Try.underlying127, Try.underlying128, Try.underlying129, Try.underlying130, Try.underlying131, Try.underlying132, Try.underlying133, Try.underlying134, Try.underlying135, Try.underlying136, Try.underlying137, Try.underlying138, Try.underlying139, Try.underlying140, Try.underlying141, Try.underlying142, Try.underlying143, Try.underlying144, Try.underlying145, Try.underlying146, Try.underlying147, tyOk0, agg0, cells0, tyOk1, agg1, cells1, tyOk2, agg2, cells2, zero2, info2, mk2, bs2_0, bs2_1, bs2_2, bs2_3, bs2_4, bs2_5, bs2_6, bs2_7, bs2_8, bs2_10, bs2_11, bs2_12, bs2_13, tyOk3, agg3, cells3, zero3, apS26, apN26, info3, mk3, bs3_0, bs3_1, bs3_2, bs3_3, bs3_4, bs3_5, bs3_6, bs3_7, bs3_8, bs3_10, bs3_11, bs3_12, bs3_13, tyOk4, agg4, cells4, zero4, info4, mk4, bs4_0, bs4_1, bs4_2, apS52, apN52, tyOk5, agg5, cells5, isU5, zero5, apS22, apN22, apStr22, info5, mk5, bs5_0, bs5_1, bs5_2, bs5_3, bs5_4, bs5_5, bs5_6, bs5_7, bs5_8, bs5_10, bs5_11, bs5_12, bs5_13, tyOk6, agg6, cells6, isU6, zero6, info6, mk6, bs6_0, bs6_1, bs6_2, bs6_3, bs6_4, bs6_5, bs6_6, bs6_7, bs6_8, bs6_10, bs6_11, bs6_12, bs6_13, tyOk7, agg7, cells7, zero7, fadr7_0, fld7_0, fadr7_1, fld7_1, fadr7_2, fld7_2, fadr7_3, fld7_3, bz7, bds7, tyOk8, agg8, cells8, zero8, fadr8_0, fld8_0, fadr8_1, fld8_1, fadr8_2, fld8_2, fadr8_3, fld8_3, bz8, bds8, tyOk9, agg9, cells9, zero9, info9, bs9_0, bs9_1, bs9_2, bs9_3, bs9_4, bs9_5, bs9_6, bs9_8, bs9_9, bs9_10, apS125, apN125, tyOk10, agg10, cells10, zero10, info10, bs10_0, bs10_1, bs10_2, bs10_3, bs10_4, bs10_5, bs10_6, bs10_8, bs10_9, bs10_10, tyOk11, agg11, cells11, zero11, info11, bs11_0, bs11_1, bs11_2, bs11_3, bs11_4, bs11_5, bs11_6, bs11_8, bs11_9, bs11_10, tyOk12, agg12, cells12, zero12, info12, mk12, bs12_0, bs12_1, bs12_2, bs12_3, bs12_4, bs12_5, bs12_6, bs12_7, bs12_8, bs12_10, bs12_11, bs12_12, bs12_13, tyOk13, agg13, cells13, zero13, fadr13_0, fld13_0, fadr13_1, fld13_1, bz13, bds13, tyOk14, agg14, cells14, zero14, fadr14_0, fld14_0, fadr14_1, fld14_1, bz14, bds14, tyOk15, agg15, cells15, zero15, tyOk16, agg16, cells16, zero16, tyOk17, agg17, cells17, zero17, tyOk18, agg18, cells18, zero18, fadr18_0, fld18_0, bz18, bds18, tyOk19, agg19, cells19, zero19, fadr19_0, fld19_0, bz19, bds19, tyOk20, agg20, cells20, tyOk21, agg21, cells21, zero21, info21, mk21, bs21_0, bs21_1, bs21_2, bs21_3, bs21_4, bs21_5, bs21_6, bs21_7, bs21_8, bs21_10, bs21_11, bs21_12, bs21_13, tyOk22, agg22, cells22, zero22, tyOk23, agg23, cells23, tyOk24, agg24, cells24, tyOk25, agg25, cells25, tyOk26, agg26, cells26, zero26, tyOk27, agg27, cells27, tyOk28, agg28, cells28, tyOk29, agg29, cells29, zero29, info29, mk29, bs29_0, bs29_1, bs29_2, bs29_3, bs29_4, bs29_5, bs29_6, bs29_7, bs29_8, bs29_10, bs29_11, bs29_12, bs29_13, tyOk30, agg30, cells30, tyOk31, agg31, cells31, tyOk32, agg32, cells32, tyOk33, agg33, cells33, tyOk34, agg34, cells34, tyOk35, agg35, cells35, tyOk36, agg36, cells36, tyOk37, agg37, cells37, tyOk38, agg38, cells38, tyOk39, agg39, cells39, tyOk40, agg40, cells40, tyOk41, agg41, cells41, tyOk42, agg42, cells42, tyOk43, agg43, cells43, tyOk44, agg44, cells44, tyOk45, agg45, cells45, tyOk46, agg46, cells46, tyOk47, agg47, cells47, tyOk48, agg48, cells48, tyOk49, agg49, cells49, zero49, tyOk50, agg50, cells50, tyOk51, agg51, cells51, tyOk52, agg52, cells52, zero52, tyOk53, agg53, cells53, zero53, fadr53_0, fld53_0, fadr53_1, fld53_1, fadr53_2, fld53_2, fadr53_3, fld53_3, bz53, bds53, tyOk54, agg54, cells54, zero54, fadr54_0, fld54_0, fadr54_1, fld54_1, fadr54_2, fld54_2, fadr54_3, fld54_3, bz54, bds54, tyOk55, agg55, cells55, tyOk56, agg56, cells56, tyOk57, agg57, cells57, zero57, fadr57_0, fld57_0, fadr57_1, fld57_1, fadr57_2, fld57_2, fadr57_3, fld57_3, bz57, bds57, tyOk58, agg58, cells58, zero58, info58, apS49, apN49, bs58_1, bs58_0, fadr58_0, fld58_0, fadr58_1, fld58_1, fadr58_2, fld58_2, fadr58_3, fld58_3, bz58, bds58, tyOk59, agg59, cells59, tyOk60, agg60, cells60, tyOk61, agg61, cells61, tyOk62, agg62, cells62, tyOk63, agg63, cells63, tyOk64, agg64, cells64, tyOk65, agg65, cells65, tyOk66, agg66, cells66, tyOk67, agg67, cells67, tyOk68, agg68, cells68, tyOk69, agg69, cells69, tyOk70, agg70, cells70, tyOk71, agg71, cells71, tyOk72, agg72, cells72, tyOk73, agg73, cells73, tyOk74, agg74, cells74, zero74, tyOk75, agg75, cells75, tyOk76, agg76, cells76, tyOk77, agg77, cells77, tyOk78, agg78, cells78, zero78, ix78, bz78, tyOk79, agg79, cells79, tyOk80, agg80, cells80, tyOk81, agg81, cells81, tyOk82, agg82, cells82, tyOk83, agg83, cells83, tyOk84, agg84, cells84, tyOk85, agg85, cells85, zero85, info85, mk85, bs85_0, bs85_1, bs85_2, bs85_3, bs85_4, bs85_5, bs85_6, bs85_7, bs85_8, bs85_10, bs85_11, bs85_12, bs85_13, tyOk86, agg86, cells86, zero86, ix86, bz86, bd86, tyOk87, agg87, cells87, tyOk88, agg88, cells88, zero88, ix88, bz88, tyOk89, agg89, cells89, tyOk90, agg90, cells90, tyOk91, agg91, cells91, tyOk92, agg92, cells92, tyOk93, agg93, cells93, tyOk94, agg94, cells94, tyOk95, agg95, cells95, tyOk96, agg96, cells96, tyOk97, agg97, cells97, tyOk98, agg98, cells98, tyOk99, agg99, cells99, tyOk100, agg100, cells100, tyOk101, agg101, cells101, tyOk102, agg102, cells102, tyOk103, agg103, cells103, tyOk104, agg104, cells104, tyOk105, agg105, cells105, tyOk106, agg106, cells106, tyOk107, agg107, cells107, tyOk108, agg108, cells108, tyOk109, agg109, cells109, zero109, fadr109_0, fld109_0, fadr109_1, fld109_1, fadr109_2, fld109_2, bz109, bds109, tyOk110, agg110, cells110, zero110, fadr110_0, fld110_0, fadr110_1, fld110_1, fadr110_2, fld110_2, bz110, bds110, tyOk111, agg111, cells111, tyOk112, agg112, cells112, tyOk113, agg113, cells113, zero113, tyOk114, agg114, cells114, zero114, fadr114_0, fld114_0, fadr114_1, fld114_1, bz114, bds114, tyOk115, agg115, cells115, zero115, fadr115_0, fld115_0, fadr115_1, fld115_1, bz115, bds115, tyOk116, agg116, cells116, tyOk117, agg117, cells117, tyOk118, agg118, cells118, tyOk119, agg119, cells119, tyOk120, agg120, cells120, tyOk121, agg121, cells121, tyOk122, agg122, cells122, tyOk123, agg123, cells123, tyOk124, agg124, cells124, tyOk125, agg125, cells125, zero125, tyOk126, agg126, cells126, tyOk127, agg127, cells127, tyOk128, agg128, cells128, tyOk129, agg129, cells129, zero129, info129, mk129, bs129_0, bs129_1, bs129_2, bs129_3, bs129_4, bs129_5, bs129_6, bs129_7, bs129_8, bs129_10, bs129_11, bs129_12, bs129_13, tyOk130, agg130, cells130, tyOk131, agg131, cells131, tyOk132, agg132, cells132, zero132, tyOk133, agg133, cells133, zero133, tyOk134, agg134, cells134, tyOk135, agg135, cells135, tyOk136, agg136, cells136, zero136, fadr136_0, fld136_0, fadr136_1, fld136_1, fadr136_2, fld136_2, fadr136_3, fld136_3, bz136, bds136, tyOk137, agg137, cells137, zero137, fadr137_0, fld137_0, fadr137_1, fld137_1, fadr137_2, fld137_2, fadr137_3, fld137_3, bz137, bds137, tyOk138, agg138, cells138, zero138, tyOk139, agg139, cells139, zero139, tyOk140, agg140, cells140, zero140, tyOk141, agg141, cells141, isU141, zero141, info141, mk141, bs141_0, bs141_1, bs141_2, bs141_3, bs141_4, bs141_5, bs141_6, bs141_7, bs141_8, bs141_10, bs141_11, bs141_12, bs141_13, tyOk142, agg142, cells142, isU142, zero142, info142, mk142, bs142_0, bs142_1, bs142_2, bs142_3, bs142_4, bs142_5, bs142_6, bs142_7, bs142_8, bs142_10, bs142_11, bs142_12, bs142_13, tyOk143, agg143, cells143, tyOk144, agg144, cells144, zero144, info144, mk144, bs144_0, bs144_1, bs144_2, bs144_3, bs144_4, bs144_5, bs144_6, bs144_7, bs144_8, bs144_10, bs144_11, bs144_12, bs144_13, tyOk145, agg145, cells145, zero145, info145, mk145, bs145_0, bs145_1, bs145_2, bs145_3, bs145_4, bs145_5, bs145_6, bs145_7, bs145_8, bs145_10, bs145_11, bs145_12, bs145_13, tyOk146, agg146, cells146, fadr146_0, fld146_0, fadr146_1, fld146_1, fadr146_2, fld146_2, fadr146_3, fld146_3, fadr146_4, fld146_4, fadr146_5, fld146_5, fadr146_6, fld146_6, fadr146_7, fld146_7, fadr146_8, fld146_8, fadr146_9, fld146_9, fadr146_10, fld146_10, tyOk147, agg147, cells147, fadr147_0, fld147_0, fadr147_1, fld147_1, fadr147_2, fld147_2, fadr147_3, fld147_3, fadr147_4, fld147_4, fadr147_5, fld147_5, fadr147_6, fld147_6, fadr147_7, fld147_7, fadr147_8, fld147_8, fadr147_9, fld147_9, fadr147_10, fld147_10, c2, c3, c4, c6, c7, c8, v0]
              refine call1S (by simp -implicitDefEqProofs only [List.map_cons, Nat.reduceLT, ev_tab, upd_eq, List.map_nil] <;> rfl) w1 ?_
              simp -implicitDefEqProofs only [↓ops_cons, ↓g_store, Nat.reduceLT, ev_tab, ne_eq, Nat.reduceEqDiff, not_false_eq_true, upd_ne, c4, upd_eq, wr_def, tyOk54, cells54, r5, wr_c, cells_agg, List.length_cons, List.length_nil, Nat.zero_add, Nat.reduceAdd, Nat.le_refl, List.all_cons, one_int, one_str, one_sl, List.all_nil, Bool.and_self, and_self, ovr_m, ovr_n, if_true, ↓g_assign, ↓ops_nil, ↓w_ret, ev_const, of_int, retP_2, res_cell, rd_def, agg54, res_tmp, onS_some, at_set (at_lt r5), rd_aggc, List.drop_zero, List.take_succ_cons, List.take_zero]
              exact ⟨_, rfl, (ey.trans w2).set (by omega) _, by have := ey.1; omega, (List.getElem?_set_ne (by omega)).trans w4⟩
          · have hb2 : l.getD (f + k) false = false := by simpa using hb
            have hnc : ¬ conf l z f y k := fun h => hb h.1
            simp -implicitDefEqProofs only [↓dops_cons, ↓g_fieldAddrT, Nat.reduceLT, ev_tab, ne_eq, Nat.reduceEqDiff, not_false_eq_true, upd_ne, c2, fadr54_3, Nat.zero_add, ↓g_load, upd_eq, c3, fadr58_2, ↓g_move, ↓g_binOp, c8, ↓g_indexAddr, Try.underlying52, onS_some, rd_def, tyOk3, agg3, cells3, v1, rd_onec, List.getElem?_cons_succ, List.getElem?_cons_zero, b_add, e2, tyOk52, agg52, cells52, v0, adr_sl, k3, k4, cells4, tyOk4, and_self, Int.toNat_natCast, Nat.mul_one, if_true, agg4, hr, rd_bools, k5, hb2, yielded_tab, dstAt_s, dstAt_0, ybv_some, boolOf_b, Bool.not_true, ↓g_guard_f, ↓g_pick, ev_const, of_bool, pick_b, Bool.false_eq_true, if_false, ↓dops_p, ↓w_cond, ↓w_seq, ↓w_region, ↓ops_cons, tyOk54, agg54, cells54, rd_aggc, List.length_cons, List.length_nil, Nat.reduceAdd, Nat.le_refl, List.drop_zero, List.take_succ_cons, List.take_zero, ↓w_skip, c6, ↓g_store, ↓ops_nil, onB_false]
            refine ⟨pairs_cons (same_H rfl) (pairs_cons (same_H rfl) (pairs_cons (same_H rfl) (pairs_cons (same_H rfl) (pairs_cons (same_H rfl) (pairs_cons (same_H rfl) (pairs_nil)))))), ?_⟩
            try simp -implicitDefEqProofs only [v3, rd_onec, List.getElem?_cons_succ, List.getElem?_cons_zero, onS_some, adr_sl, k3, k4, cells4, tyOk4, and_self, Int.toNat_natCast, Nat.mul_one, Nat.zero_add, if_true, wr_def, v4, wr_bools, k7]
            refine drawn [(2, 0), (6, 0)] follows (by kernel_rfl) (by kernel_rfl) ?_
            simp -implicitDefEqProofs only [↓dops_cons, ↓g_move, ↓g_fieldAddrT, Nat.reduceLT, ev_tab, ne_eq, Nat.reduceEqDiff, not_false_eq_true, upd_ne, c7, c3, fadr58_2, Nat.zero_add, ↓g_load, upd_eq, ↓g_binOp, c8, fadr58_3, ↓g_index, Try.underlying9, ↓g_indexAddr, Try.underlying22, ↓g_store, ↓dops_p, ↓w_region, ↓ops_cons, ev_const, of_int, b_add, e3, ↓g_assign, ↓ops_nil, onS_some, rd_def, tyOk9, agg9, cells9, n1, rd_onec, List.getElem?_cons_succ, List.getElem?_cons_zero, idx_str, k2, Int.toNat_natCast, hk, and_self, if_true, tyOk3, agg3, cells3, e2, adr_sl, k3, k4', cells5, tyOk5, Nat.mul_one, wr_def, n2, wr_ints, k6]
            refine ⟨pairs_cons (same_H rfl) (pairs_cons (same_H rfl) (pairs_nil)), ?_⟩
            try simp -implicitDefEqProofs only [↓w_seq, ↓w_skip, ↓w_ret, ↓w_exit, ↓w_block, ↓w_cond, ↓w_region, ↓ops_nil, ↓ops_cons, ↓dops_0, ↓dops_p, ↓dops_cons, ↓g_move, ↓g_assign, ↓g_binOp, ↓g_unOp, ↓g_pick, ↓g_len, ↓g_index, ↓g_indexAddr, ↓g_slice, ↓g_convert, ↓g_load, ↓g_store, ↓g_extract, ↓g_nilCheck, ↓g_fieldT, ↓g_fieldAddrT, of_agg, rd_aggc, rd_onec, wr_c, cells_int, cells_str, cells_bool, cells_nil, cells_sl, cells_ptr, cells_agg, one_int, one_str, one_bool, one_nil, one_sl, one_ptr, over_0, over_s, List.all_cons, List.all_nil, Bool.and_true, Bool.and_self, List.getElem?_nil, List.drop_succ_cons, List.drop_nil, ↓g_guard_t, ↓g_guard_f, ↓g_alloc, ↓g_box, ↓g_buildSlice, ↓g_makeSlice, ↓g_buildV, rdA, wrA, ints_one, List.length_replicate, bools_one, strs_one, rd_bools, rd_strs, wr_bools, wr_strs, at_bools, at_strs, ap_bools, ap_boolsN, ap_strs, ap_strsN, ↓g_append, src_sl, src_nil, src_str, ap_ints, ap_intsN, kill_len, kill_0, kill_s, bnd_none, bnd_int, cut_str, cutS_some, cut_sl, cutL_some, bits_i64, bits_u32, bits_u8, List.getD_cons_zero, List.getD_cons_succ, at_end, at_a, at_b, yielded_tab, dstAt_0, dstAt_s, ybv_some, boolOf_b, ext_0, ext_1, ext_2, ext_3, alK_some, ev_tab, ev_const, upd_eq, upd_ne, par0, par1, par2, par3, par4, par5, of_int, of_str, of_bool, len_str, len_arr, len_sl, idx_str, adr_sl, adr_arr, c_int, c_str, c_bytes, c_text, pick_b, onS_some, onS_ite, onS_not, b_add, b_sub, b_mul, b_and, b_or, b_xor, b_eql, b_neq, b_lss, b_leq, b_gtr, b_geq, b_shl, b_shr, b_quo, b_rem, t_add, t_eql, t_neq, v_eql, v_neq, b_andNot, u_not, onB_true, onB_false, onB_dec, onB_not, ret_cell, ret_ct, retP_0, retP_1, retP_2, retP_3, res_tmp, res_cell, ret_one, ret_two, ret_three, ret_none, List.set_set, if_true, if_false, ite_true, ite_false, List.map_cons, List.map_nil, Option.map_some, Option.map_none, List.toList_toArray, rd_def, rd_ints, wr_def, wr_ints, at_def, at_ints, bytes_ints, bytesA_ints, ints_set, nums_len, List.length_nil, List.length_cons, List.length_set, List.length_append, List.nil_append, List.cons_append, List.getElem?_cons_zero, List.getElem?_cons_succ, List.set_cons_zero, List.set_cons_succ, List.drop_zero, List.take_succ_cons, List.take_zero, List.take_length, Option.bind_some, true_and, and_true, Nat.zero_add, Nat.mul_one, Int.toNat_zero, Int.reduceToNat, Int.reduceAdd, Int.reduceSub, Int.reduceMul, Int.reduceNeg, Nat.reduceAdd, Nat.reduceSub, Nat.reduceMul, Nat.reducePow, Nat.min_eq_left, Int.reducePow, Nat.le_refl, Int.cast_ofNat_Int, Nat.reduceLT, Nat.reduceLeDiff, Nat.reduceEqDiff, Int.reduceLE, Int.reduceLT, Int.reduceEq, ne_eq, not_false_eq_true, not_true_eq_false, reduceCtorEq, decide_true, decide_false, and_self, and_false, false_and, Bool.not_true, Bool.not_false, Try.underlying0, Try.underlying1, Try.underlying2, Try.underlying3, Try.underlying4, Try.underlying5, Try.underlying6, Try.underlying7, Try.underlying8, Try.underlying9, Try.underlying10, Try.underlying11, Try.underlying12, Try.underlying13, Try.underlying14, Try.underlying15, Try.underlying16, Try.underlying17, Try.underlying18, Try.underlying19, Try.underlying20, Try.underlying21, Try.underlying22, Try.underlying23, Try.underlying24, Try.underlying25, Try.underlying26, Try.underlying27, Try.underlying28, Try.underlying29, Try.underlying30, Try.underlying31, Try.underlying32, Try.underlying33, Try.underlying34, Try.underlying35, Try.underlying36, Try.underlying37, Try.underlying38, Try.underlying39, Try.underlying40, Try.underlying41, Try.underlying42, Try.underlying43, Try.underlying44, Try.underlying45, Try.underlying46, Try.underlying47, Try.underlying48, Try.underlying49, Try.underlying50, Try.underlying51, Try.underlying52, Try.underlying53, Try.underlying54, Try.underlying55, Try.underlying56, Try.underlying57, Try.underlying58, Try.underlying59, Try.underlying60, Try.underlying61, Try.underlying62, Try.underlying63, Try.underlying64, Try.underlying65, Try.underlying66, Try.underlying67, Try.underlying68, Try.underlying69, Try.underlying70, Try.underlying71, Try.underlying72, Try.underlying73, Try.underlying74, Try.underlying75, Try.underlying76, Try.underlying77, Try.underlying78, Try.underlying79, Try.underlying80, Try.underlying81, Try.underlying82, Try.underlying83, Try.underlying84, Try.underlying85, Try.underlying86, Try.underlying87, Try.underlying88, Try.underlying89, Try.underlying90, Try.underlying91, Try.underlying92, Try.underlying93, Try.underlying94, Try.underlying95, Try.underlying96, Try.underlying97, Try.underlying98, Try.underlying99, Try.underlying100, Try.underlying101, Try.underlying102, Try.underlying103, Try.underlying104, Try.underlying105, Try.underlying106, Try.underlying107, Try.underlying108, Try.underlying109, Try.underlying110, Try.underlying111, Try.underlying112, Try.underlying113, Try.underlying114, Try.underlying115, Try.underlying116, Try.underlying117, Try.underlying118, Try.underlying119, Try.underlying120, Try.underlying121, Try.underlying122, Try.underlying123, Try.underlying124, Try.underlying125, Try.underlying126, Try.underlying127, Try.underlying128, Try.underlying129, Try.underlying130, Try.underlying131, Try.underlying132, Try.underlying133, Try.underlying134, Try.underlying135, Try.underlying136, Try.underlying137, Try.underlying138, Try.underlying139, Try.underlying140, Try.underlying141, Try.underlying142, Try.underlying143, Try.underlying144, Try.underlying145, Try.underlying146, Try.underlying147, tyOk0, agg0, cells0, tyOk1, agg1, cells1, tyOk2, agg2, cells2, zero2, info2, mk2, bs2_0, bs2_1, bs2_2, bs2_3, bs2_4, bs2_5, bs2_6, bs2_7, bs2_8, bs2_10, bs2_11, bs2_12, bs2_13, tyOk3, agg3, cells3, zero3, apS26, apN26, info3, mk3, bs3_0, bs3_1, bs3_2, bs3_3, bs3_4, bs3_5, bs3_6, bs3_7, bs3_8, bs3_10, bs3_11, bs3_12, bs3_13, tyOk4, agg4, cells4, zero4, info4, mk4, bs4_0, bs4_1, bs4_2, apS52, apN52, tyOk5, agg5, cells5, isU5, zero5, apS22, apN22, apStr22, info5, mk5, bs5_0, bs5_1, bs5_2, bs5_3, bs5_4, bs5_5, bs5_6, bs5_7, bs5_8, bs5_10, bs5_11, bs5_12, bs5_13, tyOk6, agg6, cells6, isU6, zero6, info6, mk6, bs6_0, bs6_1, bs6_2, bs6_3, bs6_4, bs6_5, bs6_6, bs6_7, bs6_8, bs6_10, bs6_11, bs6_12, bs6_13, tyOk7, agg7, cells7, zero7, fadr7_0, fld7_0, fadr7_1, fld7_1, fadr7_2, fld7_2, fadr7_3, fld7_3, bz7, bds7, tyOk8, agg8, cells8, zero8, fadr8_0, fld8_0, fadr8_1, fld8_1, fadr8_2, fld8_2, fadr8_3, fld8_3, bz8, bds8, tyOk9, agg9, cells9, zero9, info9, bs9_0, bs9_1, bs9_2, bs9_3, bs9_4, bs9_5, bs9_6, bs9_8, bs9_9, bs9_10, apS125, apN125, tyOk10, agg10, cells10, zero10, info10, bs10_0, bs10_1, bs10_2, bs10_3, bs10_4, bs10_5, bs10_6, bs10_8, bs10_9, bs10_10, tyOk11, agg11, cells11, zero11, info11, bs11_0, bs11_1, bs11_2, bs11_3, bs11_4, bs11_5, bs11_6, bs11_8, bs11_9, bs11_10, tyOk12, agg12, cells12, zero12, info12, mk12, bs12_0, bs12_1, bs12_2, bs12_3, bs12_4, bs12_5, bs12_6, bs12_7, bs12_8, bs12_10, bs12_11, bs12_12, bs12_13, tyOk13, agg13, cells13, zero13, fadr13_0, fld13_0, fadr13_1, fld13_1, bz13, bds13, tyOk14, agg14, cells14, zero14, fadr14_0, fld14_0, fadr14_1, fld14_1, bz14, bds14, tyOk15, agg15, cells15, zero15, tyOk16, agg16, cells16, zero16, tyOk17, agg17, cells17, zero17, tyOk18, agg18, cells18, zero18, fadr18_0, fld18_0, bz18, bds18, tyOk19, agg19, cells19, zero19, fadr19_0, fld19_0, bz19, bds19, tyOk20, agg20, cells20, tyOk21, agg21, cells21, zero21, info21, mk21, bs21_0, bs21_1, bs21_2, bs21_3, bs21_4, bs21_5, bs21_6, bs21_7, bs21_8, bs21_10, bs21_11, bs21_12, bs21_13, tyOk22, agg22, cells22, zero22, tyOk23, agg23, cells23, tyOk24, agg24, cells24, tyOk25, agg25, cells25, tyOk26, agg26, cells26, zero26, tyOk27, agg27, cells27, tyOk28, agg28, cells28, tyOk29, agg29, cells29, zero29, info29, mk29, bs29_0, bs29_1, bs29_2, bs29_3, bs29_4, bs29_5, bs29_6, bs29_7, bs29_8, bs29_10, bs29_11, bs29_12, bs29_13, tyOk30, agg30, cells30, tyOk31, agg31, cells31, tyOk32, agg32, cells32, tyOk33, agg33, cells33, tyOk34, agg34, cells34, tyOk35, agg35, cells35, tyOk36, agg36, cells36, tyOk37, agg37, cells37, tyOk38, agg38, cells38, tyOk39, agg39, cells39, tyOk40, agg40, cells40, tyOk41, agg41, cells41, tyOk42, agg42, cells42, tyOk43, agg43, cells43, tyOk44, agg44, cells44, tyOk45, agg45, cells45, tyOk46, agg46, cells46, tyOk47, agg47, cells47, tyOk48, agg48, cells48, tyOk49, agg49, cells49, zero49, tyOk50, agg50, cells50, tyOk51, agg51, cells51, tyOk52, agg52, cells52, zero52, tyOk53, agg53, cells53, zero53, fadr53_0, fld53_0, fadr53_1, fld53_1, fadr53_2, fld53_2, fadr53_3, fld53_3, bz53, bds53, tyOk54, agg54, cells54, zero54, fadr54_0, fld54_0, fadr54_1, fld54_1, fadr54_2, fld54_2, fadr54_3, fld54_3, bz54, bds54, tyOk55, agg55, cells55, tyOk56, agg56, cells56, tyOk57, agg57, cells57, zero57, fadr57_0, fld57_0, fadr57_1, fld57_1, fadr57_2, fld57_2, fadr57_3, fld57_3, bz57, bds57, tyOk58, agg58, cells58, zero58, info58, apS49, apN49, bs58_1, bs58_0, fadr58_0, fld58_0, fadr58_1, fld58_1, fadr58_2, fld58_2, fadr58_3, fld58_3, bz58, bds58, tyOk59, agg59, cells59, tyOk60, agg60, cells60, tyOk61, agg61, cells61, tyOk62, agg62, cells62, tyOk63, agg63, cells63, tyOk64, agg64, cells64, tyOk65, agg65, cells65, tyOk66, agg66, cells66, tyOk67, agg67, cells67, tyOk68, agg68, cells68, tyOk69, agg69, cells69, tyOk70, agg70, cells70, tyOk71, agg71, cells71, tyOk72, agg72, cells72, tyOk73, agg73, cells73, tyOk74, agg74, cells74, zero74, tyOk75, agg75, cells75, tyOk76, agg76, cells76, tyOk77, agg77, cells77, tyOk78, agg78, cells78, zero78, ix78, bz78, tyOk79, agg79, cells79, tyOk80, agg80, cells80, tyOk81, agg81, cells81, tyOk82, agg82, cells82, tyOk83, agg83, cells83, tyOk84, agg84, cells84, tyOk85, agg85, cells85, zero85, info85, mk85, bs85_0, bs85_1, bs85_2, bs85_3, bs85_4, bs85_5, bs85_6, bs85_7, bs85_8, bs85_10, bs85_11, bs85_12, bs85_13, tyOk86, agg86, cells86, zero86, ix86, bz86, bd86, tyOk87, agg87, cells87, tyOk88, agg88, cells88, zero88, ix88, bz88, tyOk89, agg89, cells89, tyOk90, agg90, cells90, tyOk91, agg91, cells91, tyOk92, agg92, cells92, tyOk93, agg93, cells93, tyOk94, agg94, cells94, tyOk95, agg95, cells95, tyOk96, agg96, cells96, tyOk97, agg97, cells97, tyOk98, agg98, cells98, tyOk99, agg99, cells99, tyOk100, agg100, cells100, tyOk101, agg101, cells101, tyOk102, agg102, cells102, tyOk103, agg103, cells103, tyOk104, agg104, cells104, tyOk105, agg105, cells105, tyOk106, agg106, cells106, tyOk107, agg107, cells107, tyOk108, agg108, cells108, tyOk109, agg109, cells109, zero109, fadr109_0, fld109_0, fadr109_1, fld109_1, fadr109_2, fld109_2, bz109, bds109, tyOk110, agg110, cells110, zero110, fadr110_0, fld110_0, fadr110_1, fld110_1, fadr110_2, fld110_2, bz110, bds110, tyOk111, agg111, cells111, tyOk112, agg112, cells112, tyOk113, agg113, cells113, zero113, tyOk114, agg114, cells114, zero114, fadr114_0, fld114_0, fadr114_1, fld114_1, bz114, bds114, tyOk115, agg115, cells115, zero115, fadr115_0, fld115_0, fadr115_1, fld115_1, bz115, bds115, tyOk116, agg116, cells116, tyOk117, agg117, cells117, tyOk118, agg118, cells118, tyOk119, agg119, cells119, tyOk120, agg120, cells120, tyOk121, agg121, cells121, tyOk122, agg122, cells122, tyOk123, agg123, cells123, tyOk124, agg124, cells124, tyOk125, agg125, cells125, zero125, tyOk126, agg126, cells126, tyOk127, agg127, cells127, tyOk128, agg128, cells128, tyOk129, agg129, cells129, zero129, info129, mk129, bs129_0, bs129_1, bs129_2, bs129_3, bs129_4, bs129_5, bs129_6, bs129_7, bs129_8, bs129_10, bs129_11, bs129_12, bs129_13, tyOk130, agg130, cells130, tyOk131, agg131, cells131, tyOk132, agg132, cells132, zero132, tyOk133, agg133, cells133, zero133, tyOk134, agg134, cells134, tyOk135, agg135, cells135, tyOk136, agg136, cells136, zero136, fadr136_0, fld136_0, fadr136_1, fld136_1, fadr136_2, fld136_2, fadr136_3, fld136_3, bz136, bds136, tyOk137, agg137, cells137, zero137, fadr137_0, fld137_0, fadr137_1, fld137_1, fadr137_2, fld137_2, fadr137_3, fld137_3, bz137, bds137, tyOk138, agg138, cells138, zero138, tyOk139, agg139, cells139, zero139, tyOk140, agg140, cells140, zero140, tyOk141, agg141, cells141, isU141, zero141, info141, mk141, bs141_0, bs141_1, bs141_2, bs141_3, bs141_4, bs141_5, bs141_6, bs141_7, bs141_8, bs141_10, bs141_11, bs141_12, bs141_13, tyOk142, agg142, cells142, isU142, zero142, info142, mk142, bs142_0, bs142_1, bs142_2, bs142_3, bs142_4, bs142_5, bs142_6, bs142_7, bs142_8, bs142_10, bs142_11, bs142_12, bs142_13, tyOk143, agg143, cells143, tyOk144, agg144, cells144, zero144, info144, mk144, bs144_0, bs144_1, bs144_2, bs144_3, bs144_4, bs144_5, bs144_6, bs144_7, bs144_8, bs144_10, bs144_11, bs144_12, bs144_13, tyOk145, agg145, cells145, zero145, info145, mk145, bs145_0, bs145_1, bs145_2, bs145_3, bs145_4, bs145_5, bs145_6, bs145_7, bs145_8, bs145_10, bs145_11, bs145_12, bs145_13, tyOk146, agg146, cells146, fadr146_0, fld146_0, fadr146_1, fld146_1, fadr146_2, fld146_2, fadr146_3, fld146_3, fadr146_4, fld146_4, fadr146_5, fld146_5, fadr146_6, fld146_6, fadr146_7, fld146_7, fadr146_8, fld146_8, fadr146_9, fld146_9, fadr146_10, fld146_10, tyOk147, agg147, cells147, fadr147_0, fld147_0, fadr147_1, fld147_1, fadr147_2, fld147_2, fadr147_3, fld147_3, fadr147_4, fld147_4, fadr147_5, fld147_5, fadr147_6, fld147_6, fadr147_7, fld147_7, fadr147_8, fld147_8, fadr147_9, fld147_9, fadr147_10, fld147_10, c2, c3, c4, c6, c7, c8, e3]
            refine step _ ?_ ?_ ?_ ?_ ?_ ?_ hnc <;> simp -implicitDefEqProofs only [ne_eq, Nat.reduceEqDiff, not_false_eq_true, upd_ne, c2, c3, c4, c6, c7, upd_eq] <;> rfl
        · have k1 : ¬ (k : Int) < y.size := by omega
          have hkk : k = y.size := by omega
          subst hkk
          have hno : ¬ ∃ k, k < y.size ∧ conf l z f y k := fun ⟨j, hj, h⟩ => lp2 j hj h
          rw [bp_0 h1 h2 hno]
          unfold bpR bx
          have hfl := fillK_len l f y.size
          have hpl : (putK (nums z) (nums y) f y.size).length = z.size := by rw [putK_len, nums_len]
          have htk : (putK (nums z) (nums y) f y.size).take z.size = putK (nums z) (nums y) f y.size := List.take_of_length_le (by omega)
          have hPT := putK_T z y f hzf
          have zl : Z1.length < Y.length := by omega
          have m2 : ∀ g : Reg, (Y.set Z1.length g)[H.length + 2]? = some ⟨[.sc (.int .i64 0), .sc (.int .i64 0), .sc (.string ByteArray.empty), .sc (.slice none 0 0)], true, true⟩ := fun g => (List.getElem?_set_ne (by omega)).trans v2
          have m3 : ∀ g : Reg, H.length + 2 < (Y.set Z1.length g).length := fun g => by rw [List.length_set]; omega
          simp -implicitDefEqProofs only [↓w_seq, ↓w_region, ↓ops_cons, ↓g_move, ↓g_fieldAddrT, Nat.reduceLT, ev_tab, c8, ne_eq, Nat.reduceEqDiff, not_false_eq_true, upd_ne, c3, fadr58_3, Nat.zero_add, ↓g_load, upd_eq, ↓g_len, Try.underlying9, ↓g_binOp, ↓ops_nil, ↓w_cond, ↓w_skip, ↓w_block, ↓w_exit, ↓g_convert, Try.underlying22, c7, c6, fadr54_2, ↓g_store, rd_def, tyOk54, agg54, cells54, c4, wr_def, ↓g_assign, ↓w_ret, ev_const, of_int, retP_2, res_cell, res_tmp, onS_some, tyOk9, cells9, c_text, isU5, and_self, at_def, v5, at_ints, hpl, Nat.le_refl, List.drop_zero, htk, if_true, Option.bind_some, bytesA_ints, Option.map_some, hPT, agg9, v1, rd_onec, List.getElem?_cons_succ, List.getElem?_cons_zero, len_str, b_lss, k1, decide_false, onB_false]
          simp -implicitDefEqProofs only [v3, wr_c, cells_str, List.length_cons, List.length_nil, Nat.zero_add, Nat.reduceAdd, Nat.reduceLeDiff, List.all_cons, one_str, List.all_nil, Bool.and_self, and_self, over_s, ovr_m, ovr_n, if_true, hfl, onS_some, at_set zl, rd_aggc, Nat.le_refl, List.drop_zero, List.take_succ_cons, List.take_zero, m2, true_and, onS_ite, at_set (m3 _), cells_agg, one_int, one_sl]
          exact ⟨_, rfl, (ey.set (by omega) _).set (by omega) _, by omega, (List.getElem?_set_ne (by omega)).trans ((List.getElem?_set_ne (by omega)).trans v4)⟩
      · refine ⟨_, _, rfl, by omega, fun j hj => by omega, e4, by simp, u0, u1, u2, u3, u4, u5, ?_, ?_, ?_, ?_, ?_, ?_⟩ <;> simp -implicitDefEqProofs only [ne_eq, Nat.reduceEqDiff, not_false_eq_true, upd_ne, upd_eq, Int.cast_ofNat_Int] <;> rfl
  · rw [bp_1 h1]
    unfold bpR
    by_cases h2 : okPc pi pt pf y
    · have hnb : ¬ okBx i t z l.length := fun h => h1 ⟨h2, h⟩
      have p1 := pieceS pi pt pf y true (by simp [h2]) hy
      obtain ⟨Z2, b1, b2⟩ := boxOkS (e1.isB hx) i t z false (by simp [hnb])
      have r2 := b2.at s2
      have r3 := b2.at s3
      have d2 := dup Z2 b2
      subst hA hB hC hD
      unfold bx at a1 b1
      unfold prt at p1
      unfold bx prt
      simp -implicitDefEqProofs only [↓w_seq, ↓w_region, ↓ops_cons, ↓g_box, Nat.reduceLT, ev_tab, par0, cells_agg, ne_eq, Nat.reduceEqDiff, not_false_eq_true, upd_ne, par1, ↓g_alloc, zero54, Option.map_some, ↓g_assign, ↓ops_nil, ev_const, of_int, ↓g_load, upd_eq, alK_some, List.all_cons, one_int, one_str, one_nil, List.all_nil, Bool.and_self, true_and, List.append_assoc, List.cons_append, List.nil_append, List.length_append, List.length_cons, List.length_nil, Nat.zero_add, x1, rd_def, tyOk54, agg54, cells54, hap_0, List.getElem?_cons_zero, rd_aggc, Nat.reduceAdd, Nat.le_refl, List.drop_zero, List.take_succ_cons, List.take_zero, if_true, Nat.add_assoc, onS_some]
      refine call1S (by simp -implicitDefEqProofs only [List.map_cons, Nat.reduceLT, ev_tab, upd_eq, List.map_nil] <;> rfl) a1 ?_
      simp -implicitDefEqProofs only [↓ops_cons, ↓g_alloc, zero54, Option.map_some, ↓g_store, Nat.reduceLT, ev_tab, upd_eq, ne_eq, Nat.reduceEqDiff, not_false_eq_true, upd_ne, ↓ops_nil, ↓w_seq, ↓w_region, ↓g_load, rd_def, tyOk58, agg58, cells58, alK_some, List.all_cons, one_int, one_str, one_nil, List.all_nil, Bool.and_self, wr_def, tyOk54, cells54, hap_0, List.getElem?_cons_zero, wr_c, cells_agg, List.length_cons, List.length_nil, Nat.zero_add, Nat.reduceAdd, Nat.le_refl, one_sl, and_self, ovr_m, ovr_n, hset_0, List.set_cons_zero, if_true, onS_some, s1, rd_aggc, List.drop_zero, List.take_succ_cons, List.take_zero, true_and]
      refine call1 (by simp -implicitDefEqProofs only [List.map_cons, Nat.reduceLT, ev_tab, upd_eq, List.map_nil] <;> rfl) p1 ?_
      simp -implicitDefEqProofs only [↓ops_cons, ↓g_unOp, Nat.reduceLT, ev_tab, upd_eq, u_not, Bool.not_true, Option.map_some, ↓g_move, onS_some, yielded_tab, dstAt_s, dstAt_0, ybv_some, boolOf_b, ↓g_guard_t, ↓g_load, ne_eq, Nat.reduceEqDiff, not_false_eq_true, upd_ne, rd_def, tyOk54, agg54, cells54, s0, rd_aggc, Nat.zero_add, List.length_cons, List.length_nil, Nat.reduceAdd, Nat.le_refl, List.drop_zero, List.take_succ_cons, List.take_zero, if_true]
      refine call1S (by simp -implicitDefEqProofs only [List.map_cons, Nat.reduceLT, ev_tab, upd_eq, List.map_nil] <;> rfl) b1 ?_
      simp -implicitDefEqProofs only [↓ops_cons, yielded_tab, dstAt_s, dstAt_0, Nat.reduceLT, ybv_some, ne_eq, Nat.reduceEqDiff, not_false_eq_true, upd_ne, upd_eq, boolOf_b, ↓g_guard_t, ↓g_unOp, ev_tab, u_not, Bool.not_false, Option.map_some, ↓g_pick, ev_const, of_bool, pick_b, reduceCtorEq, if_false, ↓ops_nil, ↓w_cond, ↓w_seq, ↓w_region, ↓g_load, rd_def, tyOk54, agg54, cells54, r3, rd_aggc, Nat.zero_add, List.length_cons, List.length_nil, Nat.reduceAdd, Nat.le_refl, List.drop_zero, List.take_succ_cons, List.take_zero, if_true, ↓g_store, wr_def, r2, wr_c, true_and, ↓g_assign, ↓w_ret, of_int, retP_2, res_cell, res_tmp, onS_some, onS_ite, at_set (at_lt r2), cells_agg, List.all_cons, one_int, one_str, one_sl, List.all_nil, Bool.and_self, and_self, ovr_m, ovr_n, ↓w_skip, ↓g_fieldAddrT, fadr58_0, fadr54_0, ↓g_binOp, ↓g_move, tyOk3, agg3, cells3, onB_true]
      exact ⟨q1, rfl, d2⟩
    · have p1 := pieceS pi pt pf y false (by simp [h2]) hy
      have d2 := dup (Z1 ++ [D]) (Ext.refl _)
      subst hA hB hC hD
      unfold bx at a1
      unfold prt at p1
      unfold bx prt
      simp -implicitDefEqProofs only [↓w_seq, ↓w_region, ↓ops_cons, ↓g_box, Nat.reduceLT, ev_tab, par0, cells_agg, ne_eq, Nat.reduceEqDiff, not_false_eq_true, upd_ne, par1, ↓g_alloc, zero54, Option.map_some, ↓g_assign, ↓ops_nil, ev_const, of_int, ↓g_load, upd_eq, alK_some, List.all_cons, one_int, one_str, one_nil, List.all_nil, Bool.and_self, true_and, List.append_assoc, List.cons_append, List.nil_append, List.length_append, List.length_cons, List.length_nil, Nat.zero_add, x1, rd_def, tyOk54, agg54, cells54, hap_0, List.getElem?_cons_zero, rd_aggc, Nat.reduceAdd, Nat.le_refl, List.drop_zero, List.take_succ_cons, List.take_zero, if_true, Nat.add_assoc, onS_some]
      refine call1S (by simp -implicitDefEqProofs only [List.map_cons, Nat.reduceLT, ev_tab, upd_eq, List.map_nil] <;> rfl) a1 ?_
      simp -implicitDefEqProofs only [↓ops_cons, ↓g_alloc, zero54, Option.map_some, ↓g_store, Nat.reduceLT, ev_tab, upd_eq, ne_eq, Nat.reduceEqDiff, not_false_eq_true, upd_ne, ↓ops_nil, ↓w_seq, ↓w_region, ↓g_load, rd_def, tyOk58, agg58, cells58, alK_some, List.all_cons, one_int, one_str, one_nil, List.all_nil, Bool.and_self, wr_def, tyOk54, cells54, hap_0, List.getElem?_cons_zero, wr_c, cells_agg, List.length_cons, List.length_nil, Nat.zero_add, Nat.reduceAdd, Nat.le_refl, one_sl, and_self, ovr_m, ovr_n, hset_0, List.set_cons_zero, if_true, onS_some, s1, rd_aggc, List.drop_zero, List.take_succ_cons, List.take_zero, true_and]
      refine call1 (by simp -implicitDefEqProofs only [List.map_cons, Nat.reduceLT, ev_tab, upd_eq, List.map_nil] <;> rfl) p1 ?_
      simp -implicitDefEqProofs only [↓ops_cons, ↓g_unOp, Nat.reduceLT, ev_tab, upd_eq, u_not, Bool.not_false, Option.map_some, ↓g_move, onS_some, yielded_tab, dstAt_s, dstAt_0, ybv_some, boolOf_b, ↓g_guard_f, ne_eq, Nat.reduceEqDiff, not_false_eq_true, upd_ne, ↓g_pick, ev_const, of_bool, pick_b, if_true, ↓ops_nil, ↓w_cond, ↓w_seq, ↓w_region, ↓g_load, rd_def, tyOk54, agg54, cells54, s3, rd_aggc, Nat.zero_add, List.length_cons, List.length_nil, Nat.reduceAdd, Nat.le_refl, List.drop_zero, List.take_succ_cons, List.take_zero, ↓g_store, wr_def, s2, wr_c, true_and, ↓g_assign, ↓w_ret, of_int, retP_2, res_cell, res_tmp, onS_ite, at_set (at_lt s2), cells_agg, List.all_cons, one_int, one_str, one_sl, List.all_nil, Bool.and_self, and_self, ovr_m, ovr_n, ↓w_skip, ↓g_fieldAddrT, fadr58_0, fadr54_0, ↓g_binOp, tyOk3, agg3, cells3, onB_true]
      exact ⟨q1, rfl, d2⟩
end Go.Proofs.Ytknmbiebnpojjaa.Sim
namespace Go.Proofs.Ytknmbiebnpojjaa.Sim
open Go
set_option maxRecDepth 100000
set_option maxHeartbeats 4000000
set_option linter.unusedSimpArgs false
set_option linter.unusedVariables false
theorem repL (b : UInt8) (c : Nat) : (⟨(Lib.repeatL [b] c).toArray⟩ : ByteArray) = strOfNums (List.replicate c (b.toNat : Int)) := by
  have h : Lib.repeatL [b] c = List.replicate c b := by
    have := Lib.repeatL_replicate b 1 c
    simpa using this
  rw [h]
  apply nums_inj
  rw [nums_son (by
    intro x hx
    have := List.eq_of_mem_replicate hx
    have hb := b.toNat_lt
    omega)]
  simp [nums]
theorem repeatC (z : ByteArray) (b : UInt8) (hz : z.data.toList = [b]) (c : Nat) (hc : c ≤ 1000000000) : Fn Try.prog 59 [.sc (.string z), .sc (.int .i64 c)] (.sc (.string (strOfNums (List.replicate c (b.toNat : Int))))) := by
  have hs : z.size = 1 := by
    have : z.data.size = 1 := by rw [← Array.length_toList, hz]; rfl
    exact this
  refine Fn.ofCalls [.string z, .int .i64 c] ⟨_, _, Try.func59, rfl, rfl⟩ fun w => ?_
  have h := Try.strings_Repeat z c w (by omega) (by rw [hs]; omega)
  rw [hz, repL] at h
  exact h
end Go.Proofs.Ytknmbiebnpojjaa.Sim
namespace Go.Proofs.Ytknmbiebnpojjaa.Sim
open Go
set_option maxRecDepth 100000
set_option maxHeartbeats 4000000
set_option linter.unusedSimpArgs false
set_option linter.unusedVariables false
theorem g_guard_u {P : Program} {ops : Array Oper} {K : St → Prop} {n : Nat} {T : Nat → AV} {H : AHeap} {d : Tmp} {ty : TypeId} {pos : String} {af : Array Edge} {op : Op} {j : Nat} {want : Bool} (h : yieldedA ops (tab n T) j = none) : opG P ops ⟨some d, op, ty, pos, af, some (j, want)⟩ K ⟨tab n T, H⟩ = K ⟨tab n (upd T d und), H⟩ := by
  rw [g_guard]
  simp only [h]
  have : ((none : Option Bool) == some want) = false := rfl
  simp only [this, St.put, set_tab]
theorem bo_u : boolOf und = none := rfl
def lowB (x : Int) : Nat := (bits .and .i64 x 255).toNat
theorem lowB_b (x : Int) : 0 ≤ bits .and .i64 x 255 ∧ bits .and .i64 x 255 < 256 := by
  have h : ((BitVec.ofInt IntKind.i64.bits x &&& BitVec.ofInt IntKind.i64.bits 255).toNat : Nat) ≤ 255 := by
    rw [BitVec.toNat_and]
    exact Nat.and_le_right
  have e : ∀ n : Nat, n ≤ 255 → IntKind.i64.wrap (n : Int) = n := fun n h => w64 (by omega) (by omega)
  show 0 ≤ IntKind.i64.wrap (((BitVec.ofInt IntKind.i64.bits x &&& BitVec.ofInt IntKind.i64.bits 255).toNat : Nat) : Int) ∧ IntKind.i64.wrap (((BitVec.ofInt IntKind.i64.bits x &&& BitVec.ofInt IntKind.i64.bits 255).toNat : Nat) : Int) < 256
  rw [e _ h]
  omega
theorem lowB_lt (x : Int) : lowB x < 256 := by
  have := lowB_b x
  unfold lowB
  omega
theorem and255 (x : Int) : bits .and .i64 x 255 = (lowB x : Int) := by
  have := lowB_b x
  unfold lowB
  omega
/-- A cursor. -/
def cur (x : AV) (i : Nat) (h : Int) : Reg := ⟨[x, .sc (.int .i64 i), .sc (.int .i64 h)], true, true⟩
def Cur (H : AHeap) (r : Nat) (x : AV) (L : List Int) : Prop := (∃ i h, H[r]? = some (cur x i h)) ∧ IsL H x .u8 L
/-- All is as it was but the cursor. -/
def Dr (r : Nat) (x : AV) (H Z : AHeap) : Prop := H.length ≤ Z.length ∧ (∀ i, i < H.length → i ≠ r → Z[i]? = H[i]?) ∧ ∃ i h, Z[r]? = some (cur x i h)
theorem cur_ne {H : AHeap} {r q : Nat} {x : AV} {i : Nat} {h : Int} {k : IntKind} {l : List Int} {o v : Bool} (h1 : H[r]? = some (cur x i h)) (h2 : H[q]? = some ⟨ints k l, o, v⟩) (hx : (∃ a b c, x = .sl a b c 1) ∨ x = .sc (.slice none 0 0)) : q ≠ r := by
  rintro rfl
  rw [h1] at h2
  injection h2 with h2
  have h3 : [x, .sc (.int .i64 i), .sc (.int .i64 h)] = ints k l := congrArg Reg.cs h2
  cases l with
  | nil => cases h3
  | cons a l =>
    injection h3 with h3 _
    rcases hx with ⟨a, b, c, rfl⟩ | rfl <;> cases h3
theorem IsL.kind {H : AHeap} {x : AV} {k : IntKind} {l : List Int} (h : IsL H x k l) : (∃ a b c, x = .sl a b c 1) ∨ x = .sc (.slice none 0 0) := by
  rcases h with ⟨rfl, _⟩ | ⟨r, o, rfl, _⟩
  · exact .inr rfl
  · exact .inl ⟨_, _, _, rfl⟩
theorem Cur.dr {H Z : AHeap} {r : Nat} {x : AV} {L : List Int} (c : Cur H r x L) (d : Dr r x H Z) : Cur Z r x L := by
  obtain ⟨⟨i, h, c1⟩, c2⟩ := c
  obtain ⟨_, d2, d3⟩ := d
  refine ⟨d3, ?_⟩
  rcases id c2 with ⟨e1, e2⟩ | ⟨q, o, rfl, hq⟩
  · exact .inl ⟨e1, e2⟩
  · exact .inr ⟨q, o, rfl, (d2 q (at_lt hq) (cur_ne c1 hq c2.kind)).trans hq⟩
theorem Cur.app {H : AHeap} {r : Nat} {x : AV} {L : List Int} (c : Cur H r x L) (Y : AHeap) : Cur (H ++ Y) r x L := by
  obtain ⟨⟨i, h, c1⟩, c2⟩ := c
  refine ⟨⟨i, h, (at_more _ _ _ (at_lt c1)).trans c1⟩, ?_⟩
  rcases c2 with ⟨e1, e2⟩ | ⟨q, o, rfl, hq⟩
  · exact .inl ⟨e1, e2⟩
  · exact .inr ⟨q, o, rfl, (at_more _ _ _ (at_lt hq)).trans hq⟩
theorem Dr.trans {r : Nat} {x : AV} {H Z Y : AHeap} (a : Dr r x H Z) (b : Dr r x Z Y) : Dr r x H Y := by
  obtain ⟨a1, a2, _⟩ := a
  obtain ⟨b1, b2, b3⟩ := b
  exact ⟨by omega, fun i h k => (b2 i (by omega) k).trans (a2 i h k), b3⟩
theorem Dr.app {r : Nat} {x : AV} {H Y Z : AHeap} (a : Dr r x (H ++ Y) Z) : Dr r x H Z := by
  obtain ⟨a1, a2, a3⟩ := a
  rw [List.length_append] at a1
  exact ⟨by omega, fun i h k => (a2 i (by rw [List.length_append]; omega) k).trans (at_more _ _ _ h), a3⟩
theorem Dr.rfl {r : Nat} {x : AV} {H : AHeap} {L : List Int} (c : Cur H r x L) : Dr r x H H := ⟨Nat.le_refl _, fun _ _ _ => _root_.rfl, c.1⟩
theorem Dr.more {r : Nat} {x : AV} {H Z : AHeap} (a : Dr r x H Z) (hr : r < H.length) (Y : AHeap) : Dr r x H (Z ++ Y) := by
  obtain ⟨a1, a2, i, h, a3⟩ := a
  exact ⟨by rw [List.length_append]; omega, fun i h k => (at_more _ _ _ (by omega)).trans (a2 i h k), i, h, (at_more _ _ _ (by omega)).trans a3⟩
theorem Dr.set {H : AHeap} {r : Nat} {x : AV} {L : List Int} (c : Cur H r x L) (i : Nat) (h : Int) : Dr r x H (H.set r (cur x i h)) := by
  obtain ⟨⟨i0, h0, c1⟩, _⟩ := c
  have hr := at_lt c1
  refine ⟨by rw [List.length_set]; omega, fun j _ k => List.getElem?_set_ne (fun e => k e.symm), i, h, ?_⟩
  rw [List.getElem?_set_self hr]
theorem Dr.kill {r q : Nat} {x : AV} {H Z : AHeap} (a : Dr r x H Z) (hq : H.length ≤ q) (hr : r < H.length) : Dr r x H (killReg Z q) := by
  obtain ⟨a1, a2, i, h, a3⟩ := a
  exact ⟨by rw [kill_len]; exact a1, fun j k l => (kill_at _ _ _ (by omega)).trans (a2 j k l), i, h, (kill_at _ _ _ (by omega)).trans a3⟩
theorem Cur.lt {H : AHeap} {r : Nat} {x : AV} {L : List Int} (c : Cur H r x L) : r < H.length := by
  obtain ⟨⟨i, h, c1⟩, _⟩ := c
  exact at_lt c1
theorem nil_ptr (r off : Nat) : nilV (.ptr r off) = some (.ptr r off) := rfl
theorem drawByte {H : AHeap} {r : Nat} {x : AV} {L : List Int} (c : Cur H r x L) (hL : L.length ≤ 4000000) : ∃ (v : Nat) (Z : AHeap), v < 256 ∧ Sound Try.prog 75 [.ptr r 0] H (.sc (.int .i64 v)) Z ∧ Dr r x H Z := by
  suffices h : ∃ v Z, Sound Try.prog 75 [.ptr r 0] H v Z ∧ ∃ n : Nat, n < 256 ∧ v = .sc (.int .i64 n) ∧ Dr r x H Z by
    obtain ⟨v, Z, h1, n, h2, rfl, h3⟩ := h
    exact ⟨n, Z, h2, h1, h3⟩
  obtain ⟨⟨i, h, c1⟩, c2⟩ := id c
  have hr := at_lt c1
  have c1' : H[r]? = some ⟨[x, .sc (.int .i64 i), .sc (.int .i64 h)], true, true⟩ := c1
  have hs : ∀ g : Reg, (H.set r g)[r]? = some g := fun g => List.getElem?_set_self hr
  have lx := fun e => c2.len e
  have x1 : x.cells = [x] ∧ x.one = true := by
    rcases c2.kind with ⟨_, _, _, rfl⟩ | rfl <;> exact ⟨rfl, rfl⟩
  refine Sound.runP (args := [.ptr r 0]) 58 [.tmp 2] Try.func75 rfl rfl rfl rfl (by simp) (fun v Z => ∃ n : Nat, n < 256 ∧ v = .sc (.int .i64 n) ∧ Dr r x H Z) ?_
  simp -implicitDefEqProofs only [↓w_seq, ↓w_region, ↓ops_cons, ↓g_assign, ↓ops_nil, ev_const, of_int, ↓g_move, ↓g_nilCheck, Nat.reduceLT, ev_tab, ne_eq, reduceCtorEq, not_false_eq_true, upd_ne, par0, upd_eq, nil_ptr, ↓g_fieldAddrT, ↓g_load, ↓g_binOp, Nat.reduceEqDiff, ↓g_store, onS_some, fadr110_2, Nat.zero_add, wr_def, tyOk3, cells3, c1', wr_c, Nat.reduceAdd, List.length_cons, List.length_nil, Nat.le_refl, true_and, over_s, onS_ite, rd_def, agg3, rd_onec, List.getElem?_cons_succ, List.getElem?_cons_zero, b_mul, b_add, cells_int, List.all_cons, one_int, List.all_nil, Bool.and_self, and_self, over_0]
  refine drawn [(3, 0), (8, 0)] follows (by kernel_rfl) (by kernel_rfl) ?_
  simp -implicitDefEqProofs only [↓dops_cons, ↓g_move, ↓g_nilCheck, Nat.reduceLT, ev_tab, ne_eq, reduceCtorEq, not_false_eq_true, upd_ne, par0, upd_eq, nil_ptr, ↓g_fieldAddrT, ↓g_load, ↓g_binOp, ev_const, of_int, Nat.reduceEqDiff, ↓g_assign, ↓dops_p, ↓w_seq, onS_some, fadr110_2, Nat.zero_add, rd_def, tyOk3, agg3, cells3, hs, rd_onec, List.getElem?_cons_succ, List.getElem?_cons_zero, b_shr, Int.reduceLT, Int.reduceToNat, bits_i64, Nat.reduceLeDiff, Nat.min_eq_left, Int.reducePow, if_false, b_xor, b_and, and255]
  refine ⟨pairs_cons (same_H rfl) (pairs_cons (same_H rfl) (pairs_nil)), ?_⟩
  refine drawn [(3, 0), (7, 0)] follows (by kernel_rfl) (by kernel_rfl) ?_
  simp -implicitDefEqProofs only [↓dops_cons, ↓g_move, ↓g_nilCheck, Nat.reduceLT, ev_tab, ne_eq, reduceCtorEq, not_false_eq_true, upd_ne, par0, upd_eq, nil_ptr, ↓g_fieldAddrT, ↓g_load, ↓g_len, Try.underlying22, ↓g_binOp, Nat.reduceEqDiff, ↓dops_p, ↓w_cond, ↓w_seq, ↓w_skip, ↓w_region, ↓ops_cons, ↓g_assign, ↓ops_nil, ↓w_ret, retP_1, res_tmp, onS_some, fadr110_0, Nat.zero_add, rd_def, tyOk22, agg22, cells22, hs, rd_onec, List.getElem?_cons_zero, lx, fadr110_1, tyOk3, agg3, cells3, List.getElem?_cons_succ, b_lss, onB_dec]
  refine ⟨pairs_cons (same_H rfl) (pairs_cons (same_H rfl) (pairs_nil)), ?_⟩
  by_cases hi : i < L.length
  · have k1 : (i : Int) < L.length := by omega
    have k2 : (0 : Int) ≤ i := by omega
    obtain ⟨q, o, rfl, hq⟩ := c2.get hi
    have hne := cur_ne c1 hq (.inl ⟨_, _, _, rfl⟩)
    have hq2 : ∀ g : Reg, (H.set r g)[q]? = some ⟨ints .u8 L, o, true⟩ := fun g => (List.getElem?_set_ne (fun e => hne e.symm)).trans hq
    have e1 : IntKind.i64.wrap ((i : Int) + 1) = ((i + 1 : Nat) : Int) := by rw [w64 (by omega) (by omega)]; omega
    simp -implicitDefEqProofs only [k1, decide_true, if_true]
    refine drawn [(4, 0), (8, 0), (10, 0)] follows (by kernel_rfl) (by kernel_rfl) ?_
    simp -implicitDefEqProofs only [↓dops_cons, ↓g_move, ↓g_nilCheck, Nat.reduceLT, ev_tab, ne_eq, Nat.reduceEqDiff, not_false_eq_true, upd_ne, upd_eq, reduceCtorEq, par0, nil_ptr, ↓g_fieldAddrT, ↓g_load, ↓g_indexAddr, Try.underlying22, ↓g_convert, Try.underlying5, Try.underlying3, ↓g_binOp, ev_const, of_int, ↓g_assign, ↓dops_p, ↓w_region, ↓ops_cons, ↓g_store, ↓ops_nil, ↓w_seq, ↓w_ret, retP_1, res_tmp, onS_some, fadr110_1, Nat.zero_add, wr_def, tyOk3, cells3, rd_def, agg3, hs, rd_onec, List.getElem?_cons_succ, List.getElem?_cons_zero, fadr110_0, tyOk22, agg22, cells22, adr_sl, k2, k1, cells5, tyOk5, and_self, Int.toNat_natCast, Nat.mul_one, if_true, agg5, hq2, rd_ints, hi, c_int, b_add, wr_c, Nat.reduceAdd, List.length_cons, List.length_nil, Nat.reduceLeDiff, true_and, over_s, List.set_set, onS_ite, e1, cells_int, List.all_cons, one_int, List.all_nil, Bool.and_self, over_0, b_and, and255]
    refine ⟨pairs_cons (same_H rfl) (pairs_cons (same_H rfl) (pairs_cons (same_H rfl) (pairs_nil))), ?_⟩
    exact ⟨_, lowB_lt _, rfl, Dr.set c _ _⟩
  · have k1 : ¬ (i : Int) < L.length := by omega
    simp -implicitDefEqProofs only [k1, decide_false, if_false]
    exact ⟨_, lowB_lt _, rfl, Dr.set c _ _⟩
end Go.Proofs.Ytknmbiebnpojjaa.Sim
namespace Go.Proofs.Ytknmbiebnpojjaa.Sim
open Go
set_option maxRecDepth 100000
set_option maxHeartbeats 4000000
set_option linter.unusedSimpArgs false
set_option linter.unusedVariables false
theorem Dr.ext {r : Nat} {x : AV} {G H Z : AHeap} (e : Ext G H) (d : Dr r x H Z) (hr : G.length ≤ r) : Ext G Z := by
  obtain ⟨d1, d2, _⟩ := d
  exact ⟨Nat.le_trans e.1 d1, fun i h => (d2 i (Nat.lt_of_lt_of_le h e.1) (by omega)).trans (e.2 i h)⟩
theorem Cur.ne {H : AHeap} {r q : Nat} {x : AV} {L : List Int} {k : IntKind} {l : List Int} {o v : Bool} (c : Cur H r x L) (h2 : H[q]? = some ⟨ints k l, o, v⟩) : q ≠ r := by
  obtain ⟨⟨i, h, c1⟩, c2⟩ := c
  exact cur_ne c1 h2 c2.kind
theorem Dr.at {r q : Nat} {x : AV} {L : List Int} {H Z : AHeap} {k : IntKind} {l : List Int} {o v : Bool} (d : Dr r x H Z) (c : Cur H r x L) (h : H[q]? = some ⟨ints k l, o, v⟩) : Z[q]? = some ⟨ints k l, o, v⟩ := (d.2.1 q (at_lt h) (c.ne h)).trans h
theorem Dr.isL {r : Nat} {x y : AV} {L : List Int} {H Z : AHeap} {k : IntKind} {l : List Int} (d : Dr r x H Z) (c : Cur H r x L) (h : IsL H y k l) : IsL Z y k l := by
  rcases h with ⟨rfl, rfl⟩ | ⟨q, o, rfl, hq⟩
  · exact .nil _ _
  · exact .inr ⟨q, o, _root_.rfl, d.at c hq⟩
theorem Dr.start {r : Nat} {x : AV} {L : List Int} {H : AHeap} (c : Cur H r x L) (Y : AHeap) : Dr r x H (H ++ Y) := (Dr.rfl c).more c.lt Y
theorem drawBelow {H : AHeap} {r : Nat} {x : AV} {L : List Int} (c : Cur H r x L) (hL : L.length ≤ 4000000) (n : Nat) (h0 : 0 < n) (hn : n ≤ 4294967296) : ∃ (v : Nat) (Z : AHeap), v < n ∧ Sound Try.prog 65 [.ptr r 0, .sc (.int .i64 n)] H (.sc (.int .i64 v)) Z ∧ Dr r x H Z := by
  suffices h : ∃ v Z, Sound Try.prog 65 [.ptr r 0, .sc (.int .i64 n)] H v Z ∧ ∃ m : Nat, m < n ∧ v = .sc (.int .i64 m) ∧ Dr r x H Z by
    obtain ⟨v, Z, h1, n, h2, rfl, h3⟩ := h
    exact ⟨n, Z, h2, h1, h3⟩
  refine Sound.runP (args := [.ptr r 0, .sc (.int .i64 n)]) 37 [.tmp 4] Try.func65 rfl rfl rfl rfl (by simp) (fun v Z => ∃ m : Nat, m < n ∧ v = .sc (.int .i64 m) ∧ Dr r x H Z) ?_
  have k0 : ¬ (n : Int) ≤ 0 := by omega
  have k1 : ¬ (n : Int) = 0 := by omega
  have hm : ∀ a : Nat, ((a : Int)).tmod n = ((a % n : Nat) : Int) := fun a => by rw [Int.tmod_eq_emod_of_nonneg (by omega)]; omega
  simp -implicitDefEqProofs only [↓w_seq, ↓w_region, ↓ops_cons, ↓g_assign, ↓ops_nil, ev_const, of_int, ↓g_move, ↓g_binOp, Nat.reduceLT, ev_tab, ne_eq, Nat.reduceEqDiff, not_false_eq_true, upd_ne, par1, upd_eq, b_leq, k0, decide_false, ↓w_cond, ↓w_ret, retP_1, res_tmp, onS_some, ↓w_skip, reduceCtorEq, par0, onB_dec, onB_false]
  by_cases h : n ≤ 256
  · have k2 : (n : Int) ≤ 256 := by omega
    simp -implicitDefEqProofs only [k2, decide_true, if_true]
    obtain ⟨a, Z, a1, a2, a3⟩ := drawByte c hL
    refine call1S (by simp -implicitDefEqProofs only [List.map_cons, Nat.reduceLT, ev_tab, upd_eq, List.map_nil] <;> rfl) a2 ?_
    simp -implicitDefEqProofs only [↓ops_cons, ↓g_move, ↓g_binOp, Nat.reduceLT, ev_tab, ne_eq, Nat.reduceEqDiff, not_false_eq_true, upd_ne, par1, upd_eq, b_rem, k1, hm, if_false, ↓g_assign, ↓ops_nil, ↓w_ret, retP_1, res_tmp, onS_some]
    exact ⟨_, Nat.mod_lt _ h0, rfl, a3⟩
  · have k2 : ¬ (n : Int) ≤ 256 := by omega
    simp -implicitDefEqProofs only [k2, decide_false, if_false]
    obtain ⟨a, Z1, a1, a2, a3⟩ := drawByte c hL
    refine call1S (by simp -implicitDefEqProofs only [List.map_cons, Nat.reduceLT, ev_tab, upd_eq, List.map_nil] <;> rfl) a2 ?_
    simp -implicitDefEqProofs only [↓ops_cons, ↓g_assign, ↓ops_nil, ↓w_seq, ↓w_region, Nat.reduceLT, ev_tab, upd_eq, ↓g_move, ne_eq, reduceCtorEq, not_false_eq_true, upd_ne, par0]
    obtain ⟨b, Z2, b1, b2, b3⟩ := drawByte (c.dr a3) hL
    refine call1S (by simp -implicitDefEqProofs only [List.map_cons, Nat.reduceLT, ev_tab, upd_eq, List.map_nil] <;> rfl) b2 ?_
    simp -implicitDefEqProofs only [↓ops_cons, ↓g_assign, ↓ops_nil, ↓w_seq, ↓w_region, Nat.reduceLT, ev_tab, upd_eq, ↓g_move, ne_eq, reduceCtorEq, not_false_eq_true, upd_ne, par0]
    obtain ⟨p, Z3, p1, p2, p3⟩ := drawByte ((c.dr a3).dr b3) hL
    refine call1S (by simp -implicitDefEqProofs only [List.map_cons, Nat.reduceLT, ev_tab, upd_eq, List.map_nil] <;> rfl) p2 ?_
    simp -implicitDefEqProofs only [↓ops_cons, ↓g_assign, ↓ops_nil, ↓w_seq, ↓w_region, Nat.reduceLT, ev_tab, upd_eq, ↓g_move, ne_eq, reduceCtorEq, not_false_eq_true, upd_ne, par0]
    obtain ⟨q, Z4, q1, q2, q3⟩ := drawByte (((c.dr a3).dr b3).dr p3) hL
    refine call1S (by simp -implicitDefEqProofs only [List.map_cons, Nat.reduceLT, ev_tab, upd_eq, List.map_nil] <;> rfl) q2 ?_
    have e1 : IntKind.i64.wrap ((a : Int) * 16777216) = ((a * 16777216 : Nat) : Int) := by rw [w64 (by omega) (by omega)]; omega
    have e2 : IntKind.i64.wrap ((b : Int) * 65536) = ((b * 65536 : Nat) : Int) := by rw [w64 (by omega) (by omega)]; omega
    have e3 : IntKind.i64.wrap (((a * 16777216 : Nat) : Int) + ((b * 65536 : Nat) : Int)) = ((a * 16777216 + b * 65536 : Nat) : Int) := by rw [w64 (by omega) (by omega)]; omega
    have e4 : IntKind.i64.wrap ((p : Int) * 256) = ((p * 256 : Nat) : Int) := by rw [w64 (by omega) (by omega)]; omega
    have e5 : IntKind.i64.wrap (((a * 16777216 + b * 65536 : Nat) : Int) + ((p * 256 : Nat) : Int)) = ((a * 16777216 + b * 65536 + p * 256 : Nat) : Int) := by rw [w64 (by omega) (by omega)]; omega
    have e6 : IntKind.i64.wrap (((a * 16777216 + b * 65536 + p * 256 : Nat) : Int) + (q : Int)) = ((a * 16777216 + b * 65536 + p * 256 + q : Nat) : Int) := by rw [w64 (by omega) (by omega)]; omega
    simp -implicitDefEqProofs only [↓ops_cons, ↓g_assign, ↓ops_nil, ↓w_seq, ↓w_region, Nat.reduceLT, ev_tab, upd_eq, ↓g_move, ↓g_binOp, ne_eq, Nat.reduceEqDiff, not_false_eq_true, upd_ne, ev_const, of_int, b_mul, e1, e2, e4, par1, ↓w_ret, retP_1, res_tmp, onS_some, b_add, e3, e5, e6, b_rem, k1, hm, if_false]
    exact ⟨_, Nat.mod_lt _ h0, rfl, ((a3.trans b3).trans p3).trans q3⟩
theorem drawOnce {H : AHeap} {r : Nat} {x : AV} {L : List Int} (c : Cur H r x L) (hL : L.length ≤ 4000000) (n : Nat) (h0 : 0 < n) (hn : n ≤ 4294967296) : ∃ (b : Bool) (Z : AHeap), Sound Try.prog 82 [.ptr r 0, .sc (.int .i64 n)] H (.sc (.bool b)) Z ∧ Dr r x H Z := by
  suffices h : ∃ v Z, Sound Try.prog 82 [.ptr r 0, .sc (.int .i64 n)] H v Z ∧ ∃ b : Bool, v = .sc (.bool b) ∧ Dr r x H Z by
    obtain ⟨v, Z, h1, b, rfl, h3⟩ := h
    exact ⟨b, Z, h1, h3⟩
  refine Sound.runP (args := [.ptr r 0, .sc (.int .i64 n)]) 9 [.tmp 4] Try.func82 rfl rfl rfl rfl (by simp) (fun v Z => ∃ b : Bool, v = .sc (.bool b) ∧ Dr r x H Z) ?_
  obtain ⟨a, Z, a1, a2, a3⟩ := drawBelow c hL n h0 hn
  simp -implicitDefEqProofs only [↓w_seq, ↓w_region, ↓ops_cons, ↓g_assign, ↓ops_nil, ev_const, of_bool, ↓g_move, Nat.reduceLT, ev_tab, ne_eq, reduceCtorEq, not_false_eq_true, upd_ne, par0, Nat.reduceEqDiff, par1]
  refine call1S (by simp -implicitDefEqProofs only [List.map_cons, Nat.reduceLT, ev_tab, ne_eq, Nat.reduceEqDiff, not_false_eq_true, upd_ne, upd_eq, List.map_nil] <;> rfl) a2 ?_
  simp -implicitDefEqProofs only [↓ops_cons, ↓g_binOp, Nat.reduceLT, ev_tab, upd_eq, ev_const, of_int, b_eql, ↓g_assign, ↓ops_nil, ↓w_ret, retP_1, res_tmp, onS_some]
  exact ⟨_, rfl, a3⟩
theorem drawPickInt {H : AHeap} {r : Nat} {x y : AV} {L l : List Int} (c : Cur H r x L) (hL : L.length ≤ 4000000) (hy : IsL H y .i64 l) (h0 : 0 < l.length) (hn : l.length ≤ 256) : ∃ (j : Nat) (Z : AHeap), j < l.length ∧ Sound Try.prog 67 [.ptr r 0, y] H (.sc (.int .i64 (l.getD j 0))) Z ∧ Dr r x H Z := by
  suffices h : ∃ v Z, Sound Try.prog 67 [.ptr r 0, y] H v Z ∧ ∃ j : Nat, j < l.length ∧ v = .sc (.int .i64 (l.getD j 0)) ∧ Dr r x H Z by
    obtain ⟨v, Z, h1, n, h2, rfl, h3⟩ := h
    exact ⟨n, Z, h2, h1, h3⟩
  refine Sound.runP (args := [.ptr r 0, y]) 12 [.tmp 4] Try.func67 rfl rfl rfl rfl (by simp) (fun v Z => ∃ j : Nat, j < l.length ∧ v = .sc (.int .i64 (l.getD j 0)) ∧ Dr r x H Z) ?_
  have lx := fun e => hy.len e
  obtain ⟨j, Z, a1, a2, a3⟩ := drawBelow c hL l.length h0 (by omega)
  obtain ⟨q, o, rfl, hq⟩ := (a3.isL c hy).get a1
  have k1 : (j : Int) < l.length := by omega
  have k2 : (0 : Int) ≤ j := by omega
  simp -implicitDefEqProofs only [↓w_seq, ↓w_region, ↓ops_cons, ↓g_assign, ↓ops_nil, ev_const, of_int, ↓g_move, ↓g_len, Try.underlying26, Nat.reduceLT, ev_tab, ne_eq, Nat.reduceEqDiff, not_false_eq_true, upd_ne, par1, reduceCtorEq, par0, upd_eq, lx, onS_some]
  refine call1S (by simp -implicitDefEqProofs only [List.map_cons, Nat.reduceLT, ev_tab, ne_eq, Nat.reduceEqDiff, not_false_eq_true, upd_ne, upd_eq, List.map_nil] <;> rfl) a2 ?_
  simp -implicitDefEqProofs only [↓ops_cons, ↓g_indexAddr, Try.underlying26, Nat.reduceLT, ev_tab, ne_eq, Nat.reduceEqDiff, not_false_eq_true, upd_ne, upd_eq, adr_sl, k2, k1, cells3, tyOk3, and_self, Int.toNat_natCast, Nat.mul_one, Nat.zero_add, if_true, ↓g_load, ↓g_assign, ↓ops_nil, ↓w_ret, retP_1, res_tmp, onS_some, rd_def, agg3, hq, rd_ints, a1]
  exact ⟨j, a1, rfl, a3⟩
theorem drawPick {H : AHeap} {r q : Nat} {o : Bool} {x : AV} {L : List Int} {l : List ByteArray} (c : Cur H r x L) (hL : L.length ≤ 4000000) (hq : H[q]? = some ⟨strs l, o, true⟩) (h0 : 0 < l.length) (hn : l.length ≤ 256) : ∃ (j : Nat) (Z : AHeap), j < l.length ∧ Sound Try.prog 109 [.ptr r 0, .sl q 0 l.length 1] H (.sc (.string (l.getD j ByteArray.empty))) Z ∧ Dr r x H Z := by
  suffices h : ∃ v Z, Sound Try.prog 109 [.ptr r 0, .sl q 0 l.length 1] H v Z ∧ ∃ j : Nat, j < l.length ∧ v = .sc (.string (l.getD j ByteArray.empty)) ∧ Dr r x H Z by
    obtain ⟨v, Z, h1, n, h2, rfl, h3⟩ := h
    exact ⟨n, Z, h2, h1, h3⟩
  refine Sound.runP (args := [.ptr r 0, .sl q 0 l.length 1]) 12 [.tmp 4] Try.func109 rfl rfl rfl rfl (by simp) (fun v Z => ∃ j : Nat, j < l.length ∧ v = .sc (.string (l.getD j ByteArray.empty)) ∧ Dr r x H Z) ?_
  obtain ⟨j, Z, a1, a2, a3⟩ := drawBelow c hL l.length h0 (by omega)
  have hne : q ≠ r := by
    rintro rfl
    obtain ⟨⟨i, h, c1⟩, c2⟩ := c
    rw [c1] at hq
    injection hq with hq
    have h3 : [x, .sc (.int .i64 i), .sc (.int .i64 h)] = strs l := congrArg Reg.cs hq
    cases l with
    | nil => cases h3
    | cons a l =>
      injection h3 with h3 _
      rcases c2.kind with ⟨a, b, c, rfl⟩ | rfl <;> cases h3
  have hq2 := (a3.2.1 q (at_lt hq) hne).trans hq
  have k1 : (j : Int) < l.length := by omega
  have k2 : (0 : Int) ≤ j := by omega
  simp -implicitDefEqProofs only [↓w_seq, ↓w_region, ↓ops_cons, ↓g_assign, ↓ops_nil, ev_const, of_str, ↓g_move, ↓g_len, Try.underlying125, Nat.reduceLT, ev_tab, ne_eq, Nat.reduceEqDiff, not_false_eq_true, upd_ne, par1, reduceCtorEq, par0, upd_eq, len_sl, onS_some]
  refine call1S (by simp -implicitDefEqProofs only [List.map_cons, Nat.reduceLT, ev_tab, ne_eq, Nat.reduceEqDiff, not_false_eq_true, upd_ne, upd_eq, List.map_nil] <;> rfl) a2 ?_
  simp -implicitDefEqProofs only [↓ops_cons, ↓g_indexAddr, Try.underlying125, Nat.reduceLT, ev_tab, ne_eq, Nat.reduceEqDiff, not_false_eq_true, upd_ne, upd_eq, adr_sl, k2, k1, cells9, tyOk9, and_self, Int.toNat_natCast, Nat.mul_one, Nat.zero_add, if_true, ↓g_load, ↓g_assign, ↓ops_nil, ↓w_ret, retP_1, res_tmp, onS_some, rd_def, agg9, hq2, rd_strs, a1]
  exact ⟨j, a1, rfl, a3⟩
theorem drawText {H : AHeap} {r : Nat} {x : AV} {L : List Int} (c : Cur H r x L) (hL : L.length ≤ 4000000) (n : Nat) (hn : n ≤ 5000) : ∃ (z : ByteArray) (Z : AHeap), z.size = n ∧ Sound Try.prog 66 [.ptr r 0, .sc (.int .i64 n)] H (.sc (.string z)) Z ∧ Dr r x H Z := by
  suffices h : ∃ v Z, Sound Try.prog 66 [.ptr r 0, .sc (.int .i64 n)] H v Z ∧ ∃ z : ByteArray, z.size = n ∧ v = .sc (.string z) ∧ Dr r x H Z by
    obtain ⟨v, Z, h1, n, h2, rfl, h3⟩ := h
    exact ⟨n, Z, h2, h1, h3⟩
  refine Sound.runP (args := [.ptr r 0, .sc (.int .i64 n)]) 23 [.tmp 4] Try.func66 rfl rfl rfl rfl (by simp) (fun v Z => ∃ z : ByteArray, z.size = n ∧ v = .sc (.string z) ∧ Dr r x H Z) ?_
  have k0 : ¬ (5000 : Int) < n := by omega
  have hr := c.lt
  simp -implicitDefEqProofs only [↓w_seq, ↓w_region, ↓ops_cons, ↓g_assign, ↓ops_nil, ev_const, of_str, ↓g_move, ↓g_binOp, Nat.reduceLT, ev_tab, ne_eq, Nat.reduceEqDiff, not_false_eq_true, upd_ne, par1, upd_eq, of_int, b_gtr, k0, decide_false, ↓w_cond, ↓g_buildSlice, Try.underlying22, List.map_nil, bs5_0, ↓w_block, alK_some, ints_one, true_and, ↓w_skip, onS_some, onB_false]
  refine w_loop (ι := Nat) (fun i s => ∃ (T : Nat → AV) (Z : AHeap) (A : List Int) (q : Nat), s = ⟨tab 23 T, Z⟩ ∧ i ≤ n ∧ A.length = i ∧ Dr r x H Z ∧ H.length ≤ q ∧ Z[q]? = some ⟨ints .u8 A, true, true⟩ ∧ T 0 = .ptr r 0 ∧ T 1 = .sc (.int .i64 n) ∧ T 5 = .sl q 0 i 1 ∧ T 6 = .sc (.int .i64 i)) (fun i => n - i) ?_ (i := 0) ?_
  · rintro i s ⟨T, Z, A, q, rfl, a0, a1, a2, a3, a4, a5, a6, a7, a8⟩
    by_cases h : i < n
    · have k1 : (i : Int) < n := by omega
      have e1 : IntKind.i64.wrap ((i : Int) + 1) = i + 1 := w64 (by omega) (by omega)
      simp -implicitDefEqProofs only [↓w_seq, ↓w_region, ↓ops_cons, ↓g_move, ↓g_binOp, Nat.reduceLT, ev_tab, a8, ne_eq, Nat.reduceEqDiff, not_false_eq_true, upd_ne, a6, upd_eq, b_lss, k1, decide_true, ↓ops_nil, ↓w_cond, ↓w_skip, ↓w_block, a7, reduceCtorEq, a5, ↓w_exit, ↓g_convert, Try.underlying22, Try.underlying9, ↓g_assign, ↓w_ret, retP_1, res_tmp, onS_some, c_text, isU5, and_self, at_def, if_true, onB_true]
      obtain ⟨v, Y, v1, v2, v3⟩ := drawByte (c.dr a2) hL
      refine call1S (by simp -implicitDefEqProofs only [List.map_cons, Nat.reduceLT, ev_tab, upd_eq, List.map_nil] <;> rfl) v2 ?_
      have hY := v3.at (c.dr a2) a4
      have hq : q < Y.length := at_lt hY
      have hY2 : ∀ g : Reg, (Y ++ [g])[q]? = some ⟨ints .u8 A, true, true⟩ := fun g => (at_more _ _ _ hq).trans hY
      have e2 : IntKind.u8.wrap (v : Int) = v := u8_id (by omega) (by omega)
      have k3 : i ≤ A.length := by omega
      have k4 : (i + 1) * 1 ≤ 140737488355328 := by omega
      have k5 : i + 1 ≤ 140737488355328 := by omega
      have k6 : A.take i = A := List.take_of_length_le (by omega)
      simp -implicitDefEqProofs only [↓ops_cons, ↓g_convert, Try.underlying3, Try.underlying5, Nat.reduceLT, ev_tab, upd_eq, ↓g_buildSlice, Try.underlying22, List.map_cons, List.map_nil, ↓g_append, ne_eq, Nat.reduceEqDiff, not_false_eq_true, upd_ne, apS22, ↓g_assign, ↓ops_nil, ↓w_region, ↓g_move, ↓g_binOp, a8, ev_const, of_int, b_add, e1, onS_some, c_int, e2, bs5_1, alK_some, ints_one, hY2, src_sl, at_end, at_ints, Nat.zero_add, List.length_cons, List.length_nil, Nat.le_refl, List.drop_zero, List.take_succ_cons, List.take_zero, if_true, ap_ints, k3, Nat.mul_one, k5, and_self, List.length_append, k6, true_and]
      refine ⟨i + 1, by omega, _, _, A ++ [(v : Int)], Y.length + 1, rfl, by omega, by simp [a1], ((((a2.trans v3).more hr _).kill a3 hr).more hr _), ?_, ?_, ?_, ?_, ?_, ?_⟩
      · have := (a2.trans v3).1
        omega
      · have := at_end (killReg (Y ++ [⟨ints .u8 [(v : Int)], true, true⟩]) q) ⟨ints .u8 (A ++ [(v : Int)]), true, true⟩
        rwa [kill_len, List.length_append, List.length_singleton] at this
      · simp -implicitDefEqProofs only [ne_eq, reduceCtorEq, not_false_eq_true, upd_ne, a5]
      · simp -implicitDefEqProofs only [ne_eq, Nat.reduceEqDiff, not_false_eq_true, upd_ne, a6]
      · simp -implicitDefEqProofs only [ne_eq, Nat.reduceEqDiff, not_false_eq_true, upd_ne, upd_eq]
      · simp -implicitDefEqProofs only [upd_eq] <;> rfl
    · have k1 : ¬ (i : Int) < n := by omega
      have hi : i = n := by omega
      have k6 : A.take i = A := List.take_of_length_le (by omega)
      have k3 : i ≤ A.length := by omega
      simp -implicitDefEqProofs only [↓w_seq, ↓w_region, ↓ops_cons, ↓g_move, ↓g_binOp, Nat.reduceLT, ev_tab, a8, ne_eq, Nat.reduceEqDiff, not_false_eq_true, upd_ne, a6, upd_eq, b_lss, k1, decide_false, ↓ops_nil, ↓w_cond, ↓w_skip, ↓w_block, a7, reduceCtorEq, a5, ↓w_exit, ↓g_convert, Try.underlying22, Try.underlying9, ↓g_assign, ↓w_ret, retP_1, res_tmp, onS_some, c_text, isU5, and_self, at_def, a4, at_ints, Nat.zero_add, k3, List.drop_zero, k6, if_true, Option.bind_some, bytesA_ints, Option.map_some, onB_false]
      exact ⟨_, by rw [son_size]; omega, rfl, a2⟩
  · refine ⟨_, _, [], H.length, rfl, by omega, rfl, Dr.start c _, Nat.le_refl _, at_end _ _, ?_, ?_, ?_, ?_⟩ <;> simp -implicitDefEqProofs only [ne_eq, reduceCtorEq, not_false_eq_true, upd_ne, par0, Nat.reduceEqDiff, par1, upd_eq, Int.cast_ofNat_Int] <;> rfl
def repD (n : Nat) (b : Int) : List Int := List.replicate n b
theorem longD (n : Nat) (b : Int) (hn : n ≤ 1000000000) : Fn Try.prog 83 [.sc (.int .i64 n), .sc (.int .u8 b)] (.sc (.string (strOfNums (repD n b)))) := by
  refine Fn.run 20 [.tmp 4] Try.func83 rfl rfl rfl rfl (by simp) (flats_cons (.sc _) (flats_cons (.sc _) flats_nil)) (.sc _) ?_
  have k0 : (0 : Int) ≤ n := by omega
  have k1 : (n : Int) ≤ 1000000000000 := by omega
  simp -implicitDefEqProofs only [↓w_seq, ↓w_region, ↓ops_cons, ↓g_assign, ↓ops_nil, ev_const, of_str, ↓g_move, ↓g_makeSlice, Try.underlying22, Nat.reduceLT, ev_tab, ne_eq, reduceCtorEq, not_false_eq_true, upd_ne, par0, upd_eq, k0, k1, mk5, Int.toNat_natCast, ↓w_block, of_int, alK_some, ints_one, List.length_nil, List.nil_append, true_and]
  refine w_loop (ι := Nat) (fun i s => ∃ T : Nat → AV, s = ⟨tab 20 T, [⟨ints .u8 (repD i b ++ repD (n - i) 0), true, true⟩]⟩ ∧ i ≤ n ∧ T 0 = .sc (.int .i64 n) ∧ T 1 = .sc (.int .u8 b) ∧ T 5 = .sl 0 0 n 1 ∧ T 6 = .sc (.int .i64 i)) (fun i => n - i) ?_ (i := 0) ?_
  · rintro i s ⟨T, rfl, a1, a2, a3, a4, a5⟩
    by_cases h : i < n
    · have k2 : (i : Int) < n := by omega
      have k3 : (0 : Int) ≤ i := by omega
      have e1 : IntKind.i64.wrap ((i : Int) + 1) = i + 1 := w64 (by omega) (by omega)
      have hs : (repD i b ++ repD (n - i) 0).set i b = repD (i + 1) b ++ repD (n - (i + 1)) 0 := by
        obtain ⟨m, hm⟩ : ∃ m, n - i = m + 1 := ⟨n - i - 1, by omega⟩
        rw [hm, show n - (i + 1) = m by omega, repD, repD, repD, repD, List.set_append_right _ _ (by simp), List.length_replicate, Nat.sub_self, List.replicate_succ, List.set_cons_zero, List.replicate_succ', List.append_assoc]
        rfl
      have hlen : (repD i b ++ repD (n - i) 0).length = n := by rw [List.length_append, repD, repD, List.length_replicate, List.length_replicate]; omega
      generalize hA : repD i b ++ repD (n - i) 0 = A at *
      simp -implicitDefEqProofs only [↓w_seq, ↓w_region, ↓ops_cons, ↓g_move, ↓g_binOp, Nat.reduceLT, ev_tab, a5, ne_eq, reduceCtorEq, not_false_eq_true, upd_ne, a2, Nat.reduceEqDiff, upd_eq, b_lss, k2, decide_true, ↓ops_nil, ↓w_cond, ↓w_skip, ↓w_block, ↓g_indexAddr, Try.underlying22, a4, a3, adr_sl, k3, cells5, tyOk5, and_self, Int.toNat_natCast, Nat.mul_one, Nat.zero_add, if_true, ↓g_store, ev_const, of_int, b_add, e1, ↓g_assign, onS_some, wr_def, List.getElem?_cons_zero, wr_ints, hlen, h, hs, List.set_cons_zero, ↓w_exit, ↓g_convert, Try.underlying9, ↓w_ret, ret_one, c_text, isU5, at_def, at_ints, Nat.le_refl, List.drop_zero, Option.bind_some, bytesA_ints, Option.map_some, onB_true]
      refine ⟨i + 1, by omega, _, rfl, by omega, ?_, ?_, ?_, ?_⟩ <;> simp -implicitDefEqProofs only [ne_eq, reduceCtorEq, not_false_eq_true, upd_ne, a2, Nat.reduceEqDiff, a3, a4, upd_eq] <;> rfl
    · have k2 : ¬ (i : Int) < n := by omega
      have hi : i = n := by omega
      subst hi
      have hA : repD i b ++ repD (i - i) 0 = repD i b := by rw [Nat.sub_self]; simp [repD]
      have hlen : (repD i b).length = i := by rw [repD, List.length_replicate]
      have htk : (repD i b).take i = repD i b := List.take_of_length_le (by omega)
      rw [hA]
      generalize repD i b = A at *
      simp -implicitDefEqProofs only [↓w_seq, ↓w_region, ↓ops_cons, ↓g_move, ↓g_binOp, Nat.reduceLT, ev_tab, a5, ne_eq, reduceCtorEq, not_false_eq_true, upd_ne, a2, Nat.reduceEqDiff, upd_eq, b_lss, k2, decide_false, ↓ops_nil, ↓w_cond, ↓w_skip, ↓w_block, ↓g_indexAddr, Try.underlying22, a4, a3, adr_sl, cells5, tyOk5, and_self, and_true, and_false, Nat.mul_one, Nat.zero_add, if_false, ↓g_store, ev_const, of_int, b_add, ↓g_assign, onS_some, ↓w_exit, ↓g_convert, Try.underlying9, ↓w_ret, ret_one, c_text, isU5, at_def, List.getElem?_cons_zero, at_ints, hlen, Nat.le_refl, List.drop_zero, htk, if_true, Option.bind_some, bytesA_ints, Option.map_some, onB_false]
  · refine ⟨_, st_end (G := []) (by simp [repD]), by omega, ?_, ?_, ?_, ?_⟩ <;> simp -implicitDefEqProofs only [ne_eq, reduceCtorEq, not_false_eq_true, upd_ne, par0, Nat.reduceEqDiff, par1, upd_eq, Int.cast_ofNat_Int] <;> rfl
end Go.Proofs.Ytknmbiebnpojjaa.Sim
namespace Go.Proofs.Ytknmbiebnpojjaa.Sim
open Go
set_option maxRecDepth 100000
set_option maxHeartbeats 40000000
set_option linter.unusedSimpArgs false
set_option linter.unusedVariables false
def zT (t : Nat) : ByteArray := strOfNums (List.replicate t 0)
theorem zT_size (t : Nat) : (zT t).size = t := by rw [zT, son_size, List.length_replicate]
def bo1 (f t : Nat) (y : ByteArray) : ByteArray := putT (zT t) f y
def bo2 (f t : Nat) (y : ByteArray) : List Bool := fillK (List.replicate t false) f y.size
theorem bo2_len (f t : Nat) (y : ByteArray) : (bo2 f t y).length = t := by rw [bo2, fillK_len, List.length_replicate]
theorem boxOfI_ok (H : AHeap) (i : Int) (t f : Nat) (y : ByteArray) (h : okPc i t f y) (hy : y.size ≤ 1000000000) : ∃ (q : Nat) (Z : AHeap), Sound Try.prog 38 [prt i t f y] H (.tup [bx i t (bo1 f t y) (.sl q 0 t 1), .sc (.bool true)]) Z ∧ Ext H Z ∧ H.length ≤ q ∧ Z[q]? = some ⟨bools (bo2 f t y), true, true⟩ := by
  suffices h : ∃ v Z, Sound Try.prog 38 [prt i t f y] H v Z ∧ ∃ q, v = .tup [bx i t (bo1 f t y) (.sl q 0 t 1), .sc (.bool true)] ∧ Ext H Z ∧ H.length ≤ q ∧ Z[q]? = some ⟨bools (bo2 f t y), true, true⟩ by
    obtain ⟨v, Z, h1, q, rfl, h2⟩ := h
    exact ⟨q, Z, h1, h2⟩
  obtain ⟨⟨o1, o2⟩, ⟨o3, o4⟩, o5, o6⟩ := id h
  have p1 := pieceI i t f y true (by simp [h]) hy
  obtain ⟨A, hA⟩ : ∃ A : Reg, A = ⟨[.sc (.int .i64 i), .sc (.int .i64 t), .sc (.int .i64 f), .sc (.string y)], true, true⟩ := ⟨_, rfl⟩
  obtain ⟨B, hB⟩ : ∃ B : Reg, B = ⟨[.sc (.int .i64 0), .sc (.int .i64 0), .sc (.string ByteArray.empty), .sc (.slice none 0 0)], true, true⟩ := ⟨_, rfl⟩
  obtain ⟨D, hD⟩ : ∃ D : Reg, D = ⟨[.sc (.int .i64 i), .sc (.int .i64 t), .sc (.string (zT t)), .sl (H.length + 2) 0 t 1], true, true⟩ := ⟨_, rfl⟩
  have hb : IsB (H ++ [A, B, ⟨bools (List.replicate t false), true, true⟩, D]) (.sl (H.length + 2) 0 t 1) (List.replicate t false) := .at (hap_k _ _ 2) (by simp)
  have hrl : (List.replicate t false).length = t := List.length_replicate ..
  obtain ⟨q, Z2, c1, c2, c3, c4⟩ := filledI hb i t (zT t) i t f y (by rw [hrl, zT_size]) (by rw [zT_size]; omega) (by rw [zT_size]; omega)
  rw [hrl] at c1
  have r1 := c2.at (hap_k H [A, B, ⟨bools (List.replicate t false), true, true⟩, D] 1)
  have e1 := (Ext.more H [A, B, ⟨bools (List.replicate t false), true, true⟩, D]).trans c2
  have hr := repeatC (⟨#[0]⟩ : ByteArray) 0 rfl t (by omega)
  have hz0 : (((0 : UInt8).toNat : Nat) : Int) = 0 := rfl
  rw [hz0] at hr
  have k0 : (0 : Int) ≤ (t : Int) := by omega
  have k1 : (t : Int) ≤ 1000000000000 := by omega
  have c3' : H.length + 4 ≤ q := by rw [List.length_append] at c3; exact c3
  have hzt : strOfNums (List.replicate t 0) = zT t := rfl
  rw [hzt] at hr
  unfold bx prt at c1
  unfold prt at p1
  unfold bx prt
  refine Sound.runP (args := [.agg [.sc (.int .i64 i), .sc (.int .i64 t), .sc (.int .i64 f), .sc (.string y)]]) 23 [.cell 2 54, .tmp 3] Try.func38 rfl rfl rfl rfl (by simp) (fun v Z => ∃ q, v = .tup [.agg [.sc (.int .i64 i), .sc (.int .i64 t), .sc (.string (bo1 f t y)), .sl q 0 t 1], .sc (.bool true)] ∧ Ext H Z ∧ H.length ≤ q ∧ Z[q]? = some ⟨bools (bo2 f t y), true, true⟩) ?_
  subst hA hB hD
  simp -implicitDefEqProofs only [↓w_seq, ↓w_region, ↓ops_cons, ↓g_box, Nat.reduceLT, ev_tab, par0, cells_agg, ↓g_alloc, zero54, Option.map_some, ↓g_assign, ↓ops_nil, ev_const, of_bool, ↓g_load, ne_eq, Nat.reduceEqDiff, not_false_eq_true, upd_ne, upd_eq, alK_some, List.all_cons, one_int, one_str, one_nil, List.all_nil, Bool.and_self, true_and, List.append_assoc, List.cons_append, List.nil_append, rd_def, tyOk58, agg58, cells58, hap_0, List.getElem?_cons_zero, rd_aggc, Nat.zero_add, List.length_cons, List.length_nil, Nat.reduceAdd, Nat.le_refl, List.drop_zero, List.take_succ_cons, List.take_zero, if_true, List.length_append, onS_some]
  refine call1 (by simp -implicitDefEqProofs only [List.map_cons, Nat.reduceLT, ev_tab, upd_eq, List.map_nil] <;> rfl) p1 ?_
  simp -implicitDefEqProofs only [↓ops_cons, ↓g_unOp, Nat.reduceLT, ev_tab, upd_eq, u_not, Bool.not_true, Option.map_some, ↓ops_nil, ↓w_cond, ↓w_seq, ↓w_region, ↓g_buildV, List.map_nil, bz54, ↓g_store, ne_eq, Nat.reduceEqDiff, not_false_eq_true, upd_ne, wr_def, tyOk54, cells54, hap_k, List.getElem?_cons_succ, List.getElem?_cons_zero, wr_c, Nat.zero_add, List.length_cons, List.length_nil, Nat.reduceAdd, Nat.le_refl, true_and, hset_k, List.set_cons_succ, List.set_cons_zero, ↓g_assign, ↓w_ret, ev_const, of_bool, retP_2, res_cell, rd_def, agg54, res_tmp, onS_some, onS_ite, cells_agg, List.all_cons, one_int, one_str, one_nil, List.all_nil, Bool.and_self, and_self, ↓w_skip, onB_false]
  refine drawn [(1, 0), (1, 7), (3, 0), (3, 7), (5, 0), (8, 0), (8, 7)] follows (by kernel_rfl) (by kernel_rfl) ?_
  simp -implicitDefEqProofs only [↓dops_cons, ↓g_fieldAddrT, Nat.reduceLT, ev_tab, ne_eq, Nat.reduceEqDiff, not_false_eq_true, upd_ne, upd_eq, fadr58_0, Nat.zero_add, ↓g_load, fadr58_1, onS_some, rd_def, tyOk3, agg3, cells3, hap_0, List.getElem?_cons_zero, rd_onec, List.getElem?_cons_succ]
  refine call1 (by simp -implicitDefEqProofs only [List.map_cons, ev_const, of_str, Nat.reduceLT, ev_tab, upd_eq, List.map_nil] <;> rfl) hr ?_
  simp -implicitDefEqProofs only [↓dops_cons, ↓g_fieldAddrT, Nat.reduceLT, ev_tab, ne_eq, Nat.reduceEqDiff, not_false_eq_true, upd_ne, upd_eq, fadr58_1, Nat.zero_add, ↓g_load, ↓g_makeSlice, Try.underlying52, ↓g_buildV, List.map_cons, List.map_nil, cells_int, cells_str, ↓g_alloc, zero54, Option.map_some, ↓g_store, ↓dops_p, ↓w_seq, ↓w_region, ↓ops_cons, rd_def, tyOk58, agg58, cells58, alK_some, List.all_cons, one_int, one_str, one_nil, List.all_nil, Bool.and_self, wr_def, tyOk54, cells54, hap_0, List.getElem?_cons_zero, wr_c, List.length_cons, List.length_nil, Nat.reduceAdd, Nat.le_refl, true_and, hset_0, List.set_cons_zero, agg54, onS_ite, onS_some, tyOk3, agg3, cells3, rd_onec, List.getElem?_cons_succ, k0, k1, mk4, Int.toNat_natCast, bools_one, List.length_append, cells_sl, bds54, List.append_assoc, List.cons_append, List.nil_append, rd_aggc, List.drop_zero, List.take_succ_cons, List.take_zero, if_true, cells_agg, one_sl, and_self, ovr_m, ovr_n]
  refine ⟨pairs_cons (same_H rfl) (pairs_cons (same_H rfl) (pairs_cons (same_H rfl) (pairs_cons (same_H rfl) (pairs_cons (same_H rfl) (pairs_cons (same_H rfl) (pairs_cons (same_H rfl) (pairs_nil))))))), ?_⟩
  try simp -implicitDefEqProofs only [↓w_seq, ↓w_skip, ↓w_ret, ↓w_exit, ↓w_block, ↓w_cond, ↓w_region, ↓ops_nil, ↓ops_cons, ↓dops_0, ↓dops_p, ↓dops_cons, ↓g_move, ↓g_assign, ↓g_binOp, ↓g_unOp, ↓g_pick, ↓g_len, ↓g_index, ↓g_indexAddr, ↓g_slice, ↓g_convert, ↓g_load, ↓g_store, ↓g_extract, ↓g_nilCheck, ↓g_fieldT, ↓g_fieldAddrT, of_agg, rd_aggc, rd_onec, wr_c, cells_int, cells_str, cells_bool, cells_nil, cells_sl, cells_ptr, cells_agg, one_int, one_str, one_bool, one_nil, one_sl, one_ptr, over_0, over_s, List.all_cons, List.all_nil, Bool.and_true, Bool.and_self, List.getElem?_nil, List.drop_succ_cons, List.drop_nil, ↓g_guard_t, ↓g_guard_f, ↓g_alloc, ↓g_box, ↓g_buildSlice, ↓g_makeSlice, ↓g_buildV, rdA, wrA, ints_one, List.length_replicate, bools_one, strs_one, rd_bools, rd_strs, wr_bools, wr_strs, at_bools, at_strs, ap_bools, ap_boolsN, ap_strs, ap_strsN, ↓g_append, src_sl, src_nil, src_str, ap_ints, ap_intsN, kill_len, kill_0, kill_s, bnd_none, bnd_int, cut_str, cutS_some, cut_sl, cutL_some, bits_i64, bits_u32, bits_u8, List.getD_cons_zero, List.getD_cons_succ, at_end, at_a, at_b, yielded_tab, dstAt_0, dstAt_s, ybv_some, boolOf_b, ext_0, ext_1, ext_2, ext_3, alK_some, ev_tab, ev_const, upd_eq, upd_ne, par0, par1, par2, par3, par4, par5, of_int, of_str, of_bool, len_str, len_arr, len_sl, idx_str, adr_sl, adr_arr, c_int, c_str, c_bytes, c_text, pick_b, onS_some, onS_ite, onS_not, b_add, b_sub, b_mul, b_and, b_or, b_xor, b_eql, b_neq, b_lss, b_leq, b_gtr, b_geq, b_shl, b_shr, b_quo, b_rem, t_add, t_eql, t_neq, v_eql, v_neq, b_andNot, u_not, onB_true, onB_false, onB_dec, onB_not, ret_cell, ret_ct, retP_0, retP_1, retP_2, retP_3, res_tmp, res_cell, ret_one, ret_two, ret_three, ret_none, List.set_set, if_true, if_false, ite_true, ite_false, List.map_cons, List.map_nil, Option.map_some, Option.map_none, List.toList_toArray, rd_def, rd_ints, wr_def, wr_ints, at_def, at_ints, bytes_ints, bytesA_ints, ints_set, nums_len, List.length_nil, List.length_cons, List.length_set, List.length_append, List.nil_append, List.cons_append, List.getElem?_cons_zero, List.getElem?_cons_succ, List.set_cons_zero, List.set_cons_succ, List.drop_zero, List.take_succ_cons, List.take_zero, List.take_length, Option.bind_some, true_and, and_true, Nat.zero_add, Nat.mul_one, Int.toNat_zero, Int.reduceToNat, Int.reduceAdd, Int.reduceSub, Int.reduceMul, Int.reduceNeg, Nat.reduceAdd, Nat.reduceSub, Nat.reduceMul, Nat.reducePow, Nat.min_eq_left, Int.reducePow, Nat.le_refl, Int.cast_ofNat_Int, Nat.reduceLT, Nat.reduceLeDiff, Nat.reduceEqDiff, Int.reduceLE, Int.reduceLT, Int.reduceEq, ne_eq, not_false_eq_true, not_true_eq_false, reduceCtorEq, decide_true, decide_false, and_self, and_false, false_and, Bool.not_true, Bool.not_false, Try.underlying0, Try.underlying1, Try.underlying2, Try.underlying3, Try.underlying4, Try.underlying5, Try.underlying6, Try.underlying7, Try.underlying8, Try.underlying9, Try.underlying10, Try.underlying11, Try.underlying12, Try.underlying13, Try.underlying14, Try.underlying15, Try.underlying16, Try.underlying17, Try.underlying18, Try.underlying19, Try.underlying20, Try.underlying21, Try.underlying22, Try.underlying23, Try.underlying24, Try.underlying25, Try.underlying26, Try.underlying27, Try.underlying28, Try.underlying29, Try.underlying30, Try.underlying31, Try.underlying32, Try.underlying33, Try.underlying34, Try.underlying35, Try.underlying36, Try.underlying37, Try.underlying38, Try.underlying39, Try.underlying40, Try.underlying41, Try.underlying42, Try.underlying43, Try.underlying44, Try.underlying45, Try.underlying46, Try.underlying47, Try.underlying48, Try.underlying49, Try.underlying50, Try.underlying51, Try.underlying52, Try.underlying53, Try.underlying54, Try.underlying55, Try.underlying56, Try.underlying57, Try.underlying58, Try.underlying59, Try.underlying60, Try.underlying61, Try.underlying62, Try.underlying63, Try.underlying64, Try.underlying65, Try.underlying66, Try.underlying67, Try.underlying68, Try.underlying69, Try.underlying70, Try.underlying71, Try.underlying72, Try.underlying73, Try.underlying74, Try.underlying75, Try.underlying76, Try.underlying77, Try.underlying78, Try.underlying79, Try.underlying80, Try.underlying81, Try.underlying82, Try.underlying83, Try.underlying84, Try.underlying85, Try.underlying86, Try.underlying87, Try.underlying88, Try.underlying89, Try.underlying90, Try.underlying91, Try.underlying92, Try.underlying93, Try.underlying94, Try.underlying95, Try.underlying96, Try.underlying97, Try.underlying98, Try.underlying99, Try.underlying100, Try.underlying101, Try.underlying102, Try.underlying103, Try.underlying104, Try.underlying105, Try.underlying106, Try.underlying107, Try.underlying108, Try.underlying109, Try.underlying110, Try.underlying111, Try.underlying112, Try.underlying113, Try.underlying114, Try.underlying115, Try.underlying116, Try.underlying117, Try.underlying118, Try.underlying119, Try.underlying120, Try.underlying121, Try.underlying122, Try.underlying123, Try.underlying124, Try.underlying125, Try.underlying126, Try.underlying127, Try.underlying128, Try.underlying129, Try.underlying130, Try.underlying131, Try.underlying132, Try.underlying133, Try.underlying134, Try.underlying135, Try.underlying136, Try.underlying137, Try.underlying138, Try.underlying139, Try.underlying140, Try.underlying141, Try.underlying142, Try.underlying143, Try.underlying144, Try.underlying145, Try.underlying146, Try.underlying147, tyOk0, agg0, cells0, tyOk1, agg1, cells1, tyOk2, agg2, cells2, zero2, info2, mk2, bs2_0, bs2_1, bs2_2, bs2_3, bs2_4, bs2_5, bs2_6, bs2_7, bs2_8, bs2_10, bs2_11, bs2_12, bs2_13, tyOk3, agg3, cells3, zero3, apS26, apN26, info3, mk3, bs3_0, bs3_1, bs3_2, bs3_3, bs3_4, bs3_5, bs3_6, bs3_7, bs3_8, bs3_10, bs3_11, bs3_12, bs3_13, tyOk4, agg4, cells4, zero4, info4, mk4, bs4_0, bs4_1, bs4_2, apS52, apN52, tyOk5, agg5, cells5, isU5, zero5, apS22, apN22, apStr22, info5, mk5, bs5_0, bs5_1, bs5_2, bs5_3, bs5_4, bs5_5, bs5_6, bs5_7, bs5_8, bs5_10, bs5_11, bs5_12, bs5_13, tyOk6, agg6, cells6, isU6, zero6, info6, mk6, bs6_0, bs6_1, bs6_2, bs6_3, bs6_4, bs6_5, bs6_6, bs6_7, bs6_8, bs6_10, bs6_11, bs6_12, bs6_13, tyOk7, agg7, cells7, zero7, fadr7_0, fld7_0, fadr7_1, fld7_1, fadr7_2, fld7_2, fadr7_3, fld7_3, bz7, bds7, tyOk8, agg8, cells8, zero8, fadr8_0, fld8_0, fadr8_1, fld8_1, fadr8_2, fld8_2, fadr8_3, fld8_3, bz8, bds8, tyOk9, agg9, cells9, zero9, info9, bs9_0, bs9_1, bs9_2, bs9_3, bs9_4, bs9_5, bs9_6, bs9_8, bs9_9, bs9_10, apS125, apN125, tyOk10, agg10, cells10, zero10, info10, bs10_0, bs10_1, bs10_2, bs10_3, bs10_4, bs10_5, bs10_6, bs10_8, bs10_9, bs10_10, tyOk11, agg11, cells11, zero11, info11, bs11_0, bs11_1, bs11_2, bs11_3, bs11_4, bs11_5, bs11_6, bs11_8, bs11_9, bs11_10, tyOk12, agg12, cells12, zero12, info12, mk12, bs12_0, bs12_1, bs12_2, bs12_3, bs12_4, bs12_5, bs12_6, bs12_7, bs12_8, bs12_10, bs12_11, bs12_12, bs12_13, tyOk13, agg13, cells13, zero13, fadr13_0, fld13_0, fadr13_1, fld13_1, bz13, bds13, tyOk14, agg14, cells14, zero14, fadr14_0, fld14_0, fadr14_1, fld14_1, bz14, bds14, tyOk15, agg15, cells15, zero15, tyOk16, agg16, cells16, zero16, tyOk17, agg17, cells17, zero17, tyOk18, agg18, cells18, zero18, fadr18_0, fld18_0, bz18, bds18, tyOk19, agg19, cells19, zero19, fadr19_0, fld19_0, bz19, bds19, tyOk20, agg20, cells20, tyOk21, agg21, cells21, zero21, info21, mk21, bs21_0, bs21_1, bs21_2, bs21_3, bs21_4, bs21_5, bs21_6, bs21_7, bs21_8, bs21_10, bs21_11, bs21_12, bs21_13, tyOk22, agg22, cells22, zero22, tyOk23, agg23, cells23, tyOk24, agg24, cells24, tyOk25, agg25, cells25, tyOk26, agg26, cells26, zero26, tyOk27, agg27, cells27, tyOk28, agg28, cells28, tyOk29, agg29, cells29, zero29, info29, mk29, bs29_0, bs29_1, bs29_2, bs29_3, bs29_4, bs29_5, bs29_6, bs29_7, bs29_8, bs29_10, bs29_11, bs29_12, bs29_13, tyOk30, agg30, cells30, tyOk31, agg31, cells31, tyOk32, agg32, cells32, tyOk33, agg33, cells33, tyOk34, agg34, cells34, tyOk35, agg35, cells35, tyOk36, agg36, cells36, tyOk37, agg37, cells37, tyOk38, agg38, cells38, tyOk39, agg39, cells39, tyOk40, agg40, cells40, tyOk41, agg41, cells41, tyOk42, agg42, cells42, tyOk43, agg43, cells43, tyOk44, agg44, cells44, tyOk45, agg45, cells45, tyOk46, agg46, cells46, tyOk47, agg47, cells47, tyOk48, agg48, cells48, tyOk49, agg49, cells49, zero49, tyOk50, agg50, cells50, tyOk51, agg51, cells51, tyOk52, agg52, cells52, zero52, tyOk53, agg53, cells53, zero53, fadr53_0, fld53_0, fadr53_1, fld53_1, fadr53_2, fld53_2, fadr53_3, fld53_3, bz53, bds53, tyOk54, agg54, cells54, zero54, fadr54_0, fld54_0, fadr54_1, fld54_1, fadr54_2, fld54_2, fadr54_3, fld54_3, bz54, bds54, tyOk55, agg55, cells55, tyOk56, agg56, cells56, tyOk57, agg57, cells57, zero57, fadr57_0, fld57_0, fadr57_1, fld57_1, fadr57_2, fld57_2, fadr57_3, fld57_3, bz57, bds57, tyOk58, agg58, cells58, zero58, info58, apS49, apN49, bs58_1, bs58_0, fadr58_0, fld58_0, fadr58_1, fld58_1, fadr58_2, fld58_2, fadr58_3, fld58_3, bz58, bds58, tyOk59, agg59, cells59, tyOk60, agg60, cells60, tyOk61, agg61, cells61, tyOk62, agg62, cells62, tyOk63, agg63, cells63, tyOk64, agg64, cells64, tyOk65, agg65, cells65, tyOk66, agg66, cells66, tyOk67, agg67, cells67, tyOk68, agg68, cells68, tyOk69, agg69, cells69, tyOk70, agg70, cells70, tyOk71, agg71, cells71, tyOk72, agg72, cells72, tyOk73, agg73, cells73, tyOk74, agg74, cells74, zero74, tyOk75, agg75, cells75, tyOk76, agg76, cells76, tyOk77, agg77, cells77, tyOk78, agg78, cells78, zero78, ix78, bz78, tyOk79, agg79, cells79, tyOk80, agg80, cells80, tyOk81, agg81, cells81, tyOk82, agg82, cells82, tyOk83, agg83, cells83, tyOk84, agg84, cells84, tyOk85, agg85, cells85, zero85, info85, mk85, bs85_0, bs85_1, bs85_2, bs85_3, bs85_4, bs85_5, bs85_6, bs85_7, bs85_8, bs85_10, bs85_11, bs85_12, bs85_13, tyOk86, agg86, cells86, zero86, ix86, bz86, bd86, tyOk87, agg87, cells87, tyOk88, agg88, cells88, zero88, ix88, bz88, tyOk89, agg89, cells89, tyOk90, agg90, cells90, tyOk91, agg91, cells91, tyOk92, agg92, cells92, tyOk93, agg93, cells93, tyOk94, agg94, cells94, tyOk95, agg95, cells95, tyOk96, agg96, cells96, tyOk97, agg97, cells97, tyOk98, agg98, cells98, tyOk99, agg99, cells99, tyOk100, agg100, cells100, tyOk101, agg101, cells101, tyOk102, agg102, cells102, tyOk103, agg103, cells103, tyOk104, agg104, cells104, tyOk105, agg105, cells105, tyOk106, agg106, cells106, tyOk107, agg107, cells107, tyOk108, agg108, cells108, tyOk109, agg109, cells109, zero109, fadr109_0, fld109_0, fadr109_1, fld109_1, fadr109_2, fld109_2, bz109, bds109, tyOk110, agg110, cells110, zero110, fadr110_0, fld110_0, fadr110_1, fld110_1, fadr110_2, fld110_2, bz110, bds110, tyOk111, agg111, cells111, tyOk112, agg112, cells112, tyOk113, agg113, cells113, zero113, tyOk114, agg114, cells114, zero114, fadr114_0, fld114_0, fadr114_1, fld114_1, bz114, bds114, tyOk115, agg115, cells115, zero115, fadr115_0, fld115_0, fadr115_1, fld115_1, bz115, bds115, tyOk116, agg116, cells116, tyOk117, agg117, cells117, tyOk118, agg118, cells118, tyOk119, agg119, cells119, tyOk120, agg120, cells120, tyOk121, agg121, cells121, tyOk122, agg122, cells122, tyOk123, agg123, cells123, tyOk124, agg124, cells124, tyOk125, agg125, cells125, zero125, tyOk126, agg126, cells126, tyOk127, agg127, cells127, tyOk128, agg128, cells128, tyOk129, agg129, cells129, zero129, info129, mk129, bs129_0, bs129_1, bs129_2, bs129_3, bs129_4, bs129_5, bs129_6, bs129_7, bs129_8, bs129_10, bs129_11, bs129_12, bs129_13, tyOk130, agg130, cells130, tyOk131, agg131, cells131, tyOk132, agg132, cells132, zero132, tyOk133, agg133, cells133, zero133, tyOk134, agg134, cells134, tyOk135, agg135, cells135, tyOk136, agg136, cells136, zero136, fadr136_0, fld136_0, fadr136_1, fld136_1, fadr136_2, fld136_2, fadr136_3, fld136_3, bz136, bds136, tyOk137, agg137, cells137, zero137, fadr137_0, fld137_0, fadr137_1, fld137_1, fadr137_2, fld137_2, fadr137_3, fld137_3, bz137, bds137, tyOk138, agg138, cells138, zero138, tyOk139, agg139, cells139, zero139, tyOk140, agg140, cells140, zero140, tyOk141, agg141, cells141, isU141, zero141, info141, mk141, bs141_0, bs141_1, bs141_2, bs141_3, bs141_4, bs141_5, bs141_6, bs141_7, bs141_8, bs141_10, bs141_11, bs141_12, bs141_13, tyOk142, agg142, cells142, isU142, zero142, info142, mk142, bs142_0, bs142_1, bs142_2, bs142_3, bs142_4, bs142_5, bs142_6, bs142_7, bs142_8, bs142_10, bs142_11, bs142_12, bs142_13, tyOk143, agg143, cells143, tyOk144, agg144, cells144, zero144, info144, mk144, bs144_0, bs144_1, bs144_2, bs144_3, bs144_4, bs144_5, bs144_6, bs144_7, bs144_8, bs144_10, bs144_11, bs144_12, bs144_13, tyOk145, agg145, cells145, zero145, info145, mk145, bs145_0, bs145_1, bs145_2, bs145_3, bs145_4, bs145_5, bs145_6, bs145_7, bs145_8, bs145_10, bs145_11, bs145_12, bs145_13, tyOk146, agg146, cells146, fadr146_0, fld146_0, fadr146_1, fld146_1, fadr146_2, fld146_2, fadr146_3, fld146_3, fadr146_4, fld146_4, fadr146_5, fld146_5, fadr146_6, fld146_6, fadr146_7, fld146_7, fadr146_8, fld146_8, fadr146_9, fld146_9, fadr146_10, fld146_10, tyOk147, agg147, cells147, fadr147_0, fld147_0, fadr147_1, fld147_1, fadr147_2, fld147_2, fadr147_3, fld147_3, fadr147_4, fld147_4, fadr147_5, fld147_5, fadr147_6, fld147_6, fadr147_7, fld147_7, fadr147_8, fld147_8, fadr147_9, fld147_9, fadr147_10, fld147_10, List.append_assoc, hap_0, hap_k, hset_0, hset_k, hkill_0, hkill_k, Nat.add_assoc, ovr_m, ovr_n]
  refine call1S (by simp -implicitDefEqProofs only [List.map_cons, Nat.reduceLT, ev_tab, ne_eq, Nat.reduceEqDiff, not_false_eq_true, upd_ne, upd_eq, List.map_nil] <;> rfl) c1 ?_
  simp -implicitDefEqProofs only [↓ops_cons, ↓g_store, Nat.reduceLT, ev_tab, ne_eq, Nat.reduceEqDiff, not_false_eq_true, upd_ne, upd_eq, wr_def, tyOk54, cells54, r1, wr_c, cells_agg, List.length_cons, List.length_nil, Nat.zero_add, Nat.reduceAdd, Nat.le_refl, List.all_cons, one_int, one_str, one_sl, List.all_nil, Bool.and_self, and_self, ovr_m, ovr_n, if_true, ↓g_assign, ↓ops_nil, ↓w_ret, ev_const, of_bool, retP_2, res_cell, rd_def, agg54, res_tmp, onS_some, at_set (at_lt r1), rd_aggc, List.drop_zero, List.take_succ_cons, List.take_zero]
  exact ⟨_, rfl, e1.set (by omega) _, by omega, (List.getElem?_set_ne (by omega)).trans c4⟩
theorem boxOfI_no (i t f : Int) (y : ByteArray) (h : ¬ okPc i t f y) (hy : y.size ≤ 1000000000) : Fn Try.prog 38 [prt i t f y] (.tup [bx 0 0 ByteArray.empty (.sc (.slice none 0 0)), .sc (.bool false)]) := by
  have p1 := pieceI i t f y false (by simp [h]) hy
  refine Fn.run 23 [.cell 2 54, .tmp 3] Try.func38 rfl rfl rfl rfl (by simp) (flats_cons (prt_flat _ _ _ _) flats_nil) (.tup (flats_cons (.agg (flats_cons (.sc _) (flats_cons (.sc _) (flats_cons (.sc _) (flats_cons (.sc _) flats_nil))))) (flats_cons (.sc _) flats_nil))) ?_
  unfold prt at p1
  unfold prt bx
  simp -implicitDefEqProofs only [↓w_seq, ↓w_region, ↓ops_cons, ↓g_box, Nat.reduceLT, ev_tab, par0, cells_agg, ↓g_alloc, zero54, Option.map_some, ↓g_assign, ↓ops_nil, ev_const, of_bool, ↓g_load, ne_eq, Nat.reduceEqDiff, not_false_eq_true, upd_ne, upd_eq, alK_some, List.all_cons, one_int, one_str, one_nil, List.all_nil, Bool.and_self, true_and, List.length_nil, List.nil_append, List.cons_append, rd_def, tyOk58, agg58, cells58, List.getElem?_cons_zero, rd_aggc, Nat.zero_add, List.length_cons, Nat.reduceAdd, Nat.le_refl, List.drop_zero, List.take_succ_cons, List.take_zero, if_true, onS_some]
  refine call1 (by simp -implicitDefEqProofs only [List.map_cons, Nat.reduceLT, ev_tab, upd_eq, List.map_nil] <;> rfl) p1 ?_
  simp -implicitDefEqProofs only [↓ops_cons, ↓g_unOp, Nat.reduceLT, ev_tab, upd_eq, u_not, Bool.not_false, Option.map_some, ↓ops_nil, ↓w_cond, ↓w_seq, ↓w_region, ↓g_buildV, List.map_nil, bz54, ↓g_store, ne_eq, Nat.reduceEqDiff, not_false_eq_true, upd_ne, wr_def, tyOk54, cells54, List.getElem?_cons_succ, List.getElem?_cons_zero, wr_c, Nat.zero_add, List.length_cons, List.length_nil, Nat.reduceAdd, Nat.le_refl, true_and, List.set_cons_succ, List.set_cons_zero, ↓g_assign, ↓w_ret, ev_const, of_bool, ret_ct, rd_def, agg54, onS_ite, onS_some, cells_agg, List.all_cons, one_int, one_str, one_nil, List.all_nil, Bool.and_self, and_self, ovr_m, ovr_n, rd_aggc, List.drop_zero, List.take_succ_cons, List.take_zero, if_true, ↓w_skip, onB_true]
theorem boxOfS_ok (H : AHeap) (i : Int) (t f : Nat) (y : ByteArray) (h : okPc i t f y) (hy : y.size ≤ 1000000000) : ∃ (q : Nat) (Z : AHeap), Sound Try.prog 52 [prt i t f y] H (.tup [bx i t (bo1 f t y) (.sl q 0 t 1), .sc (.bool true)]) Z ∧ Ext H Z ∧ H.length ≤ q ∧ Z[q]? = some ⟨bools (bo2 f t y), true, true⟩ := by
  suffices h : ∃ v Z, Sound Try.prog 52 [prt i t f y] H v Z ∧ ∃ q, v = .tup [bx i t (bo1 f t y) (.sl q 0 t 1), .sc (.bool true)] ∧ Ext H Z ∧ H.length ≤ q ∧ Z[q]? = some ⟨bools (bo2 f t y), true, true⟩ by
    obtain ⟨v, Z, h1, q, rfl, h2⟩ := h
    exact ⟨q, Z, h1, h2⟩
  obtain ⟨⟨o1, o2⟩, ⟨o3, o4⟩, o5, o6⟩ := id h
  have p1 := pieceS i t f y true (by simp [h]) hy
  obtain ⟨A, hA⟩ : ∃ A : Reg, A = ⟨[.sc (.int .i64 i), .sc (.int .i64 t), .sc (.int .i64 f), .sc (.string y)], true, true⟩ := ⟨_, rfl⟩
  obtain ⟨B, hB⟩ : ∃ B : Reg, B = ⟨[.sc (.int .i64 0), .sc (.int .i64 0), .sc (.string ByteArray.empty), .sc (.slice none 0 0)], true, true⟩ := ⟨_, rfl⟩
  obtain ⟨D, hD⟩ : ∃ D : Reg, D = ⟨[.sc (.int .i64 i), .sc (.int .i64 t), .sc (.string (zT t)), .sl (H.length + 2) 0 t 1], true, true⟩ := ⟨_, rfl⟩
  have hb : IsB (H ++ [A, B, ⟨bools (List.replicate t false), true, true⟩, D]) (.sl (H.length + 2) 0 t 1) (List.replicate t false) := .at (hap_k _ _ 2) (by simp)
  have hrl : (List.replicate t false).length = t := List.length_replicate ..
  obtain ⟨q, Z2, c1, c2, c3, c4⟩ := boxPutS hb (by rw [hrl]; omega) i t (zT t) (by rw [zT_size]; omega) i t f y hy
  have hno : ¬ ∃ k, k < y.size ∧ conf (List.replicate t false) (zT t) f y k := by
    rintro ⟨k, _, hk, _⟩
    rw [List.getD_eq_getElem?_getD, List.getElem?_replicate] at hk
    split at hk <;> simp at hk
  have hbp : bpV i t (zT t) (List.replicate t false) i t f y = (bo1 f t y, bo2 f t y, 0) := bp_0 ⟨h, ⟨o1, o2⟩, ⟨o3, o4⟩, by rw [zT_size], by rw [hrl]⟩ (by simp) hno
  rw [hbp] at c1 c4
  have hl2 := bo2_len f t y
  have r1 := c2.at (hap_k H [A, B, ⟨bools (List.replicate t false), true, true⟩, D] 1)
  have e1 := (Ext.more H [A, B, ⟨bools (List.replicate t false), true, true⟩, D]).trans c2
  have hr := longD t 0 (by omega)
  have k0 : (0 : Int) ≤ (t : Int) := by omega
  have k1 : (t : Int) ≤ 1000000000000 := by omega
  have c3' : H.length + 4 ≤ q := by rw [List.length_append] at c3; exact c3
  have q2 : q < Z2.length := at_lt c4
  have hzt : strOfNums (repD t 0) = zT t := rfl
  rw [hzt] at hr
  unfold bpR bx prt at c1
  simp only [hl2] at c1
  unfold prt at p1
  unfold bx prt
  refine Sound.runP (args := [.agg [.sc (.int .i64 i), .sc (.int .i64 t), .sc (.int .i64 f), .sc (.string y)]]) 29 [.cell 2 54, .tmp 3] Try.func52 rfl rfl rfl rfl (by simp) (fun v Z => ∃ q, v = .tup [.agg [.sc (.int .i64 i), .sc (.int .i64 t), .sc (.string (bo1 f t y)), .sl q 0 t 1], .sc (.bool true)] ∧ Ext H Z ∧ H.length ≤ q ∧ Z[q]? = some ⟨bools (bo2 f t y), true, true⟩) ?_
  subst hA hB hD
  have m1 : ∀ g : Reg, (Z2 ++ [g])[H.length + 1]? = some ⟨[.sc (.int .i64 0), .sc (.int .i64 0), .sc (.string ByteArray.empty), .sc (.slice none 0 0)], true, true⟩ := fun g => (Ext.more Z2 [g]).at r1
  have m2 : ∀ g : Reg, H.length + 1 < (Z2 ++ [g]).length := fun g => by rw [List.length_append]; have := at_lt r1; omega
  simp -implicitDefEqProofs only [↓w_seq, ↓w_region, ↓ops_cons, ↓g_box, Nat.reduceLT, ev_tab, par0, cells_agg, ↓g_alloc, zero54, Option.map_some, ↓g_assign, ↓ops_nil, ev_const, of_bool, ↓g_load, ne_eq, Nat.reduceEqDiff, not_false_eq_true, upd_ne, upd_eq, alK_some, List.all_cons, one_int, one_str, one_nil, List.all_nil, Bool.and_self, true_and, List.append_assoc, List.cons_append, List.nil_append, rd_def, tyOk58, agg58, cells58, hap_0, List.getElem?_cons_zero, rd_aggc, Nat.zero_add, List.length_cons, List.length_nil, Nat.reduceAdd, Nat.le_refl, List.drop_zero, List.take_succ_cons, List.take_zero, if_true, List.length_append, onS_some]
  refine call1 (by simp -implicitDefEqProofs only [List.map_cons, Nat.reduceLT, ev_tab, upd_eq, List.map_nil] <;> rfl) p1 ?_
  simp -implicitDefEqProofs only [↓ops_cons, ↓g_unOp, Nat.reduceLT, ev_tab, upd_eq, u_not, Bool.not_true, Option.map_some, ↓ops_nil, ↓w_cond, ↓w_seq, ↓w_region, ↓g_buildV, List.map_nil, bz54, ↓g_store, ne_eq, Nat.reduceEqDiff, not_false_eq_true, upd_ne, wr_def, tyOk54, cells54, hap_k, List.getElem?_cons_succ, List.getElem?_cons_zero, wr_c, Nat.zero_add, List.length_cons, List.length_nil, Nat.reduceAdd, Nat.le_refl, true_and, hset_k, List.set_cons_succ, List.set_cons_zero, ↓g_assign, ↓w_ret, ev_const, of_bool, retP_2, res_cell, rd_def, agg54, res_tmp, onS_some, onS_ite, cells_agg, List.all_cons, one_int, one_str, one_nil, List.all_nil, Bool.and_self, and_self, ↓w_skip, onB_false]
  refine drawn [(1, 0), (1, 7), (3, 0), (3, 7), (5, 0), (8, 0), (8, 7)] follows (by kernel_rfl) (by kernel_rfl) ?_
  simp -implicitDefEqProofs only [↓dops_cons, ↓g_fieldAddrT, Nat.reduceLT, ev_tab, ne_eq, Nat.reduceEqDiff, not_false_eq_true, upd_ne, upd_eq, fadr58_0, Nat.zero_add, ↓g_load, fadr58_1, onS_some, rd_def, tyOk3, agg3, cells3, hap_0, List.getElem?_cons_zero, rd_onec, List.getElem?_cons_succ]
  refine call1 (by simp -implicitDefEqProofs only [List.map_cons, Nat.reduceLT, ev_tab, upd_eq, ev_const, of_int, List.map_nil] <;> rfl) hr ?_
  simp -implicitDefEqProofs only [↓dops_cons, ↓g_fieldAddrT, Nat.reduceLT, ev_tab, ne_eq, Nat.reduceEqDiff, not_false_eq_true, upd_ne, upd_eq, fadr58_1, Nat.zero_add, ↓g_load, ↓g_makeSlice, Try.underlying52, ↓g_buildV, List.map_cons, List.map_nil, cells_int, cells_str, ↓g_alloc, zero54, Option.map_some, ↓g_store, ↓dops_p, ↓w_seq, ↓w_region, ↓ops_cons, rd_def, tyOk58, agg58, cells58, alK_some, List.all_cons, one_int, one_str, one_nil, List.all_nil, Bool.and_self, wr_def, tyOk54, cells54, hap_0, List.getElem?_cons_zero, wr_c, List.length_cons, List.length_nil, Nat.reduceAdd, Nat.le_refl, true_and, hset_0, List.set_cons_zero, agg54, onS_ite, onS_some, tyOk3, agg3, cells3, rd_onec, List.getElem?_cons_succ, k0, k1, mk4, Int.toNat_natCast, bools_one, List.length_append, cells_sl, bds54, List.append_assoc, List.cons_append, List.nil_append, rd_aggc, List.drop_zero, List.take_succ_cons, List.take_zero, if_true, cells_agg, one_sl, and_self, ovr_m, ovr_n]
  refine ⟨pairs_cons (same_H rfl) (pairs_cons (same_H rfl) (pairs_cons (same_H rfl) (pairs_cons (same_H rfl) (pairs_cons (same_H rfl) (pairs_cons (same_H rfl) (pairs_cons (same_H rfl) (pairs_nil))))))), ?_⟩
  try simp -implicitDefEqProofs only [↓w_seq, ↓w_skip, ↓w_ret, ↓w_exit, ↓w_block, ↓w_cond, ↓w_region, ↓ops_nil, ↓ops_cons, ↓dops_0, ↓dops_p, ↓dops_cons, ↓g_move, ↓g_assign, ↓g_binOp, ↓g_unOp, ↓g_pick, ↓g_len, ↓g_index, ↓g_indexAddr, ↓g_slice, ↓g_convert, ↓g_load, ↓g_store, ↓g_extract, ↓g_nilCheck, ↓g_fieldT, ↓g_fieldAddrT, of_agg, rd_aggc, rd_onec, wr_c, cells_int, cells_str, cells_bool, cells_nil, cells_sl, cells_ptr, cells_agg, one_int, one_str, one_bool, one_nil, one_sl, one_ptr, over_0, over_s, List.all_cons, List.all_nil, Bool.and_true, Bool.and_self, List.getElem?_nil, List.drop_succ_cons, List.drop_nil, ↓g_guard_t, ↓g_guard_f, ↓g_alloc, ↓g_box, ↓g_buildSlice, ↓g_makeSlice, ↓g_buildV, rdA, wrA, ints_one, List.length_replicate, bools_one, strs_one, rd_bools, rd_strs, wr_bools, wr_strs, at_bools, at_strs, ap_bools, ap_boolsN, ap_strs, ap_strsN, ↓g_append, src_sl, src_nil, src_str, ap_ints, ap_intsN, kill_len, kill_0, kill_s, bnd_none, bnd_int, cut_str, cutS_some, cut_sl, cutL_some, bits_i64, bits_u32, bits_u8, List.getD_cons_zero, List.getD_cons_succ, at_end, at_a, at_b, yielded_tab, dstAt_0, dstAt_s, ybv_some, boolOf_b, ext_0, ext_1, ext_2, ext_3, alK_some, ev_tab, ev_const, upd_eq, upd_ne, par0, par1, par2, par3, par4, par5, of_int, of_str, of_bool, len_str, len_arr, len_sl, idx_str, adr_sl, adr_arr, c_int, c_str, c_bytes, c_text, pick_b, onS_some, onS_ite, onS_not, b_add, b_sub, b_mul, b_and, b_or, b_xor, b_eql, b_neq, b_lss, b_leq, b_gtr, b_geq, b_shl, b_shr, b_quo, b_rem, t_add, t_eql, t_neq, v_eql, v_neq, b_andNot, u_not, onB_true, onB_false, onB_dec, onB_not, ret_cell, ret_ct, retP_0, retP_1, retP_2, retP_3, res_tmp, res_cell, ret_one, ret_two, ret_three, ret_none, List.set_set, if_true, if_false, ite_true, ite_false, List.map_cons, List.map_nil, Option.map_some, Option.map_none, List.toList_toArray, rd_def, rd_ints, wr_def, wr_ints, at_def, at_ints, bytes_ints, bytesA_ints, ints_set, nums_len, List.length_nil, List.length_cons, List.length_set, List.length_append, List.nil_append, List.cons_append, List.getElem?_cons_zero, List.getElem?_cons_succ, List.set_cons_zero, List.set_cons_succ, List.drop_zero, List.take_succ_cons, List.take_zero, List.take_length, Option.bind_some, true_and, and_true, Nat.zero_add, Nat.mul_one, Int.toNat_zero, Int.reduceToNat, Int.reduceAdd, Int.reduceSub, Int.reduceMul, Int.reduceNeg, Nat.reduceAdd, Nat.reduceSub, Nat.reduceMul, Nat.reducePow, Nat.min_eq_left, Int.reducePow, Nat.le_refl, Int.cast_ofNat_Int, Nat.reduceLT, Nat.reduceLeDiff, Nat.reduceEqDiff, Int.reduceLE, Int.reduceLT, Int.reduceEq, ne_eq, not_false_eq_true, not_true_eq_false, reduceCtorEq, decide_true, decide_false, and_self, and_false, false_and, Bool.not_true, Bool.not_false, Try.underlying0, Try.underlying1, Try.underlying2, Try.underlying3, Try.underlying4, Try.underlying5, Try.underlying6, Try.underlying7, Try.underlying8, Try.underlying9, Try.underlying10, Try.underlying11, Try.underlying12, Try.underlying13, Try.underlying14, Try.underlying15, Try.underlying16, Try.underlying17, Try.underlying18, Try.underlying19, Try.underlying20, Try.underlying21, Try.underlying22, Try.underlying23, Try.underlying24, Try.underlying25, Try.underlying26, Try.underlying27, Try.underlying28, Try.underlying29, Try.underlying30, Try.underlying31, Try.underlying32, Try.underlying33, Try.underlying34, Try.underlying35, Try.underlying36, Try.underlying37, Try.underlying38, Try.underlying39, Try.underlying40, Try.underlying41, Try.underlying42, Try.underlying43, Try.underlying44, Try.underlying45, Try.underlying46, Try.underlying47, Try.underlying48, Try.underlying49, Try.underlying50, Try.underlying51, Try.underlying52, Try.underlying53, Try.underlying54, Try.underlying55, Try.underlying56, Try.underlying57, Try.underlying58, Try.underlying59, Try.underlying60, Try.underlying61, Try.underlying62, Try.underlying63, Try.underlying64, Try.underlying65, Try.underlying66, Try.underlying67, Try.underlying68, Try.underlying69, Try.underlying70, Try.underlying71, Try.underlying72, Try.underlying73, Try.underlying74, Try.underlying75, Try.underlying76, Try.underlying77, Try.underlying78, Try.underlying79, Try.underlying80, Try.underlying81, Try.underlying82, Try.underlying83, Try.underlying84, Try.underlying85, Try.underlying86, Try.underlying87, Try.underlying88, Try.underlying89, Try.underlying90, Try.underlying91, Try.underlying92, Try.underlying93, Try.underlying94, Try.underlying95, Try.underlying96, Try.underlying97, Try.underlying98, Try.underlying99, Try.underlying100, Try.underlying101, Try.underlying102, Try.underlying103, Try.underlying104, Try.underlying105, Try.underlying106, Try.underlying107, Try.underlying108, Try.underlying109, Try.underlying110, Try.underlying111, Try.underlying112, Try.underlying113, Try.underlying114, Try.underlying115, Try.underlying116, Try.underlying117, Try.underlying118, Try.underlying119, Try.underlying120, Try.underlying121, Try.underlying122, Try.underlying123, Try.underlying124, Try.underlying125, Try.underlying126, Try.underlying127, Try.underlying128, Try.underlying129, Try.underlying130, Try.underlying131, Try.underlying132, Try.underlying133, Try.underlying134, Try.underlying135, Try.underlying136, Try.underlying137, Try.underlying138, Try.underlying139, Try.underlying140, Try.underlying141, Try.underlying142, Try.underlying143, Try.underlying144, Try.underlying145, Try.underlying146, Try.underlying147, tyOk0, agg0, cells0, tyOk1, agg1, cells1, tyOk2, agg2, cells2, zero2, info2, mk2, bs2_0, bs2_1, bs2_2, bs2_3, bs2_4, bs2_5, bs2_6, bs2_7, bs2_8, bs2_10, bs2_11, bs2_12, bs2_13, tyOk3, agg3, cells3, zero3, apS26, apN26, info3, mk3, bs3_0, bs3_1, bs3_2, bs3_3, bs3_4, bs3_5, bs3_6, bs3_7, bs3_8, bs3_10, bs3_11, bs3_12, bs3_13, tyOk4, agg4, cells4, zero4, info4, mk4, bs4_0, bs4_1, bs4_2, apS52, apN52, tyOk5, agg5, cells5, isU5, zero5, apS22, apN22, apStr22, info5, mk5, bs5_0, bs5_1, bs5_2, bs5_3, bs5_4, bs5_5, bs5_6, bs5_7, bs5_8, bs5_10, bs5_11, bs5_12, bs5_13, tyOk6, agg6, cells6, isU6, zero6, info6, mk6, bs6_0, bs6_1, bs6_2, bs6_3, bs6_4, bs6_5, bs6_6, bs6_7, bs6_8, bs6_10, bs6_11, bs6_12, bs6_13, tyOk7, agg7, cells7, zero7, fadr7_0, fld7_0, fadr7_1, fld7_1, fadr7_2, fld7_2, fadr7_3, fld7_3, bz7, bds7, tyOk8, agg8, cells8, zero8, fadr8_0, fld8_0, fadr8_1, fld8_1, fadr8_2, fld8_2, fadr8_3, fld8_3, bz8, bds8, tyOk9, agg9, cells9, zero9, info9, bs9_0, bs9_1, bs9_2, bs9_3, bs9_4, bs9_5, bs9_6, bs9_8, bs9_9, bs9_10, apS125, apN125, tyOk10, agg10, cells10, zero10, info10, bs10_0, bs10_1, bs10_2, bs10_3, bs10_4, bs10_5, bs10_6, bs10_8, bs10_9, bs10_10, tyOk11, agg11, cells11, zero11, info11, bs11_0, bs11_1, bs11_2, bs11_3, bs11_4, bs11_5, bs11_6, bs11_8, bs11_9, bs11_10, tyOk12, agg12, cells12, zero12, info12, mk12, bs12_0, bs12_1, bs12_2, bs12_3, bs12_4, bs12_5, bs12_6, bs12_7, bs12_8, bs12_10, bs12_11, bs12_12, bs12_13, tyOk13, agg13, cells13, zero13, fadr13_0, fld13_0, fadr13_1, fld13_1, bz13, bds13, tyOk14, agg14, cells14, zero14, fadr14_0, fld14_0, fadr14_1, fld14_1, bz14, bds14, tyOk15, agg15, cells15, zero15, tyOk16, agg16, cells16, zero16, tyOk17, agg17, cells17, zero17, tyOk18, agg18, cells18, zero18, fadr18_0, fld18_0, bz18, bds18, tyOk19, agg19, cells19, zero19, fadr19_0, fld19_0, bz19, bds19, tyOk20, agg20, cells20, tyOk21, agg21, cells21, zero21, info21, mk21, bs21_0, bs21_1, bs21_2, bs21_3, bs21_4, bs21_5, bs21_6, bs21_7, bs21_8, bs21_10, bs21_11, bs21_12, bs21_13, tyOk22, agg22, cells22, zero22, tyOk23, agg23, cells23, tyOk24, agg24, cells24, tyOk25, agg25, cells25, tyOk26, agg26, cells26, zero26, tyOk27, agg27, cells27, tyOk28, agg28, cells28, tyOk29, agg29, cells29, zero29, info29, mk29, bs29_0, bs29_1, bs29_2, bs29_3, bs29_4, bs29_5, bs29_6, bs29_7, bs29_8, bs29_10, bs29_11, bs29_12, bs29_13, tyOk30, agg30, cells30, tyOk31, agg31, cells31, tyOk32, agg32, cells32, tyOk33, agg33, cells33, tyOk34, agg34, cells34, tyOk35, agg35, cells35, tyOk36, agg36, cells36, tyOk37, agg37, cells37, tyOk38, agg38, cells38, tyOk39, agg39, cells39, tyOk40, agg40, cells40, tyOk41, agg41, cells41, tyOk42, agg42, cells42, tyOk43, agg43, cells43, tyOk44, agg44, cells44, tyOk45, agg45, cells45, tyOk46, agg46, cells46, tyOk47, agg47, cells47, tyOk48, agg48, cells48, tyOk49, agg49, cells49, zero49, tyOk50, agg50, cells50, tyOk51, agg51, cells51, tyOk52, agg52, cells52, zero52, tyOk53, agg53, cells53, zero53, fadr53_0, fld53_0, fadr53_1, fld53_1, fadr53_2, fld53_2, fadr53_3, fld53_3, bz53, bds53, tyOk54, agg54, cells54, zero54, fadr54_0, fld54_0, fadr54_1, fld54_1, fadr54_2, fld54_2, fadr54_3, fld54_3, bz54, bds54, tyOk55, agg55, cells55, tyOk56, agg56, cells56, tyOk57, agg57, cells57, zero57, fadr57_0, fld57_0, fadr57_1, fld57_1, fadr57_2, fld57_2, fadr57_3, fld57_3, bz57, bds57, tyOk58, agg58, cells58, zero58, info58, apS49, apN49, bs58_1, bs58_0, fadr58_0, fld58_0, fadr58_1, fld58_1, fadr58_2, fld58_2, fadr58_3, fld58_3, bz58, bds58, tyOk59, agg59, cells59, tyOk60, agg60, cells60, tyOk61, agg61, cells61, tyOk62, agg62, cells62, tyOk63, agg63, cells63, tyOk64, agg64, cells64, tyOk65, agg65, cells65, tyOk66, agg66, cells66, tyOk67, agg67, cells67, tyOk68, agg68, cells68, tyOk69, agg69, cells69, tyOk70, agg70, cells70, tyOk71, agg71, cells71, tyOk72, agg72, cells72, tyOk73, agg73, cells73, tyOk74, agg74, cells74, zero74, tyOk75, agg75, cells75, tyOk76, agg76, cells76, tyOk77, agg77, cells77, tyOk78, agg78, cells78, zero78, ix78, bz78, tyOk79, agg79, cells79, tyOk80, agg80, cells80, tyOk81, agg81, cells81, tyOk82, agg82, cells82, tyOk83, agg83, cells83, tyOk84, agg84, cells84, tyOk85, agg85, cells85, zero85, info85, mk85, bs85_0, bs85_1, bs85_2, bs85_3, bs85_4, bs85_5, bs85_6, bs85_7, bs85_8, bs85_10, bs85_11, bs85_12, bs85_13, tyOk86, agg86, cells86, zero86, ix86, bz86, bd86, tyOk87, agg87, cells87, tyOk88, agg88, cells88, zero88, ix88, bz88, tyOk89, agg89, cells89, tyOk90, agg90, cells90, tyOk91, agg91, cells91, tyOk92, agg92, cells92, tyOk93, agg93, cells93, tyOk94, agg94, cells94, tyOk95, agg95, cells95, tyOk96, agg96, cells96, tyOk97, agg97, cells97, tyOk98, agg98, cells98, tyOk99, agg99, cells99, tyOk100, agg100, cells100, tyOk101, agg101, cells101, tyOk102, agg102, cells102, tyOk103, agg103, cells103, tyOk104, agg104, cells104, tyOk105, agg105, cells105, tyOk106, agg106, cells106, tyOk107, agg107, cells107, tyOk108, agg108, cells108, tyOk109, agg109, cells109, zero109, fadr109_0, fld109_0, fadr109_1, fld109_1, fadr109_2, fld109_2, bz109, bds109, tyOk110, agg110, cells110, zero110, fadr110_0, fld110_0, fadr110_1, fld110_1, fadr110_2, fld110_2, bz110, bds110, tyOk111, agg111, cells111, tyOk112, agg112, cells112, tyOk113, agg113, cells113, zero113, tyOk114, agg114, cells114, zero114, fadr114_0, fld114_0, fadr114_1, fld114_1, bz114, bds114, tyOk115, agg115, cells115, zero115, fadr115_0, fld115_0, fadr115_1, fld115_1, bz115, bds115, tyOk116, agg116, cells116, tyOk117, agg117, cells117, tyOk118, agg118, cells118, tyOk119, agg119, cells119, tyOk120, agg120, cells120, tyOk121, agg121, cells121, tyOk122, agg122, cells122, tyOk123, agg123, cells123, tyOk124, agg124, cells124, tyOk125, agg125, cells125, zero125, tyOk126, agg126, cells126, tyOk127, agg127, cells127, tyOk128, agg128, cells128, tyOk129, agg129, cells129, zero129, info129, mk129, bs129_0, bs129_1, bs129_2, bs129_3, bs129_4, bs129_5, bs129_6, bs129_7, bs129_8, bs129_10, bs129_11, bs129_12, bs129_13, tyOk130, agg130, cells130, tyOk131, agg131, cells131, tyOk132, agg132, cells132, zero132, tyOk133, agg133, cells133, zero133, tyOk134, agg134, cells134, tyOk135, agg135, cells135, tyOk136, agg136, cells136, zero136, fadr136_0, fld136_0, fadr136_1, fld136_1, fadr136_2, fld136_2, fadr136_3, fld136_3, bz136, bds136, tyOk137, agg137, cells137, zero137, fadr137_0, fld137_0, fadr137_1, fld137_1, fadr137_2, fld137_2, fadr137_3, fld137_3, bz137, bds137, tyOk138, agg138, cells138, zero138, tyOk139, agg139, cells139, zero139, tyOk140, agg140, cells140, zero140, tyOk141, agg141, cells141, isU141, zero141, info141, mk141, bs141_0, bs141_1, bs141_2, bs141_3, bs141_4, bs141_5, bs141_6, bs141_7, bs141_8, bs141_10, bs141_11, bs141_12, bs141_13, tyOk142, agg142, cells142, isU142, zero142, info142, mk142, bs142_0, bs142_1, bs142_2, bs142_3, bs142_4, bs142_5, bs142_6, bs142_7, bs142_8, bs142_10, bs142_11, bs142_12, bs142_13, tyOk143, agg143, cells143, tyOk144, agg144, cells144, zero144, info144, mk144, bs144_0, bs144_1, bs144_2, bs144_3, bs144_4, bs144_5, bs144_6, bs144_7, bs144_8, bs144_10, bs144_11, bs144_12, bs144_13, tyOk145, agg145, cells145, zero145, info145, mk145, bs145_0, bs145_1, bs145_2, bs145_3, bs145_4, bs145_5, bs145_6, bs145_7, bs145_8, bs145_10, bs145_11, bs145_12, bs145_13, tyOk146, agg146, cells146, fadr146_0, fld146_0, fadr146_1, fld146_1, fadr146_2, fld146_2, fadr146_3, fld146_3, fadr146_4, fld146_4, fadr146_5, fld146_5, fadr146_6, fld146_6, fadr146_7, fld146_7, fadr146_8, fld146_8, fadr146_9, fld146_9, fadr146_10, fld146_10, tyOk147, agg147, cells147, fadr147_0, fld147_0, fadr147_1, fld147_1, fadr147_2, fld147_2, fadr147_3, fld147_3, fadr147_4, fld147_4, fadr147_5, fld147_5, fadr147_6, fld147_6, fadr147_7, fld147_7, fadr147_8, fld147_8, fadr147_9, fld147_9, fadr147_10, fld147_10, List.append_assoc, hap_0, hap_k, hset_0, hset_k, hkill_0, hkill_k, Nat.add_assoc, ovr_m, ovr_n]
  refine call1S (by simp -implicitDefEqProofs only [List.map_cons, Nat.reduceLT, ev_tab, ne_eq, Nat.reduceEqDiff, not_false_eq_true, upd_ne, upd_eq, List.map_nil] <;> rfl) c1 ?_
  simp -implicitDefEqProofs only [↓ops_cons, ↓g_move, ↓g_extract, Nat.reduceLT, ev_tab, upd_eq, ext_0, ne_eq, Nat.reduceEqDiff, not_false_eq_true, upd_ne, ext_1, ↓g_alloc, zero54, Option.map_some, ↓g_store, ↓g_assign, ↓ops_nil, ↓w_seq, ↓w_region, ↓g_load, wr_def, tyOk54, cells54, ↓w_ret, ev_const, of_bool, retP_2, res_cell, rd_def, agg54, res_tmp, onS_some, alK_some, List.all_cons, one_int, one_str, one_nil, List.all_nil, Bool.and_self, hap_0, List.getElem?_cons_zero, wr_c, Nat.zero_add, List.length_cons, List.length_nil, Nat.reduceAdd, Nat.le_refl, true_and, hset_0, List.set_cons_zero, onS_ite, m1, at_set (m2 _), cells_agg, one_sl, and_self, ovr_m, ovr_n, rd_aggc, List.drop_zero, List.take_succ_cons, List.take_zero, if_true]
  exact ⟨_, rfl, (e1.add _).set (by omega) _, by omega, (List.getElem?_set_ne (by omega)).trans ((Ext.more Z2 _).at c4)⟩
theorem boxOfS_no (i t f : Int) (y : ByteArray) (h : ¬ okPc i t f y) (hy : y.size ≤ 1000000000) : Fn Try.prog 52 [prt i t f y] (.tup [bx 0 0 ByteArray.empty (.sc (.slice none 0 0)), .sc (.bool false)]) := by
  have p1 := pieceS i t f y false (by simp [h]) hy
  refine Fn.run 29 [.cell 2 54, .tmp 3] Try.func52 rfl rfl rfl rfl (by simp) (flats_cons (prt_flat _ _ _ _) flats_nil) (.tup (flats_cons (.agg (flats_cons (.sc _) (flats_cons (.sc _) (flats_cons (.sc _) (flats_cons (.sc _) flats_nil))))) (flats_cons (.sc _) flats_nil))) ?_
  unfold prt at p1
  unfold prt bx
  simp -implicitDefEqProofs only [↓w_seq, ↓w_region, ↓ops_cons, ↓g_box, Nat.reduceLT, ev_tab, par0, cells_agg, ↓g_alloc, zero54, Option.map_some, ↓g_assign, ↓ops_nil, ev_const, of_bool, ↓g_load, ne_eq, Nat.reduceEqDiff, not_false_eq_true, upd_ne, upd_eq, alK_some, List.all_cons, one_int, one_str, one_nil, List.all_nil, Bool.and_self, true_and, List.length_nil, List.nil_append, List.cons_append, rd_def, tyOk58, agg58, cells58, List.getElem?_cons_zero, rd_aggc, Nat.zero_add, List.length_cons, Nat.reduceAdd, Nat.le_refl, List.drop_zero, List.take_succ_cons, List.take_zero, if_true, onS_some]
  refine call1 (by simp -implicitDefEqProofs only [List.map_cons, Nat.reduceLT, ev_tab, upd_eq, List.map_nil] <;> rfl) p1 ?_
  simp -implicitDefEqProofs only [↓ops_cons, ↓g_unOp, Nat.reduceLT, ev_tab, upd_eq, u_not, Bool.not_false, Option.map_some, ↓ops_nil, ↓w_cond, ↓w_seq, ↓w_region, ↓g_buildV, List.map_nil, bz54, ↓g_store, ne_eq, Nat.reduceEqDiff, not_false_eq_true, upd_ne, wr_def, tyOk54, cells54, List.getElem?_cons_succ, List.getElem?_cons_zero, wr_c, Nat.zero_add, List.length_cons, List.length_nil, Nat.reduceAdd, Nat.le_refl, true_and, List.set_cons_succ, List.set_cons_zero, ↓g_assign, ↓w_ret, ev_const, of_bool, ret_ct, rd_def, agg54, onS_ite, onS_some, cells_agg, List.all_cons, one_int, one_str, one_nil, List.all_nil, Bool.and_self, and_self, ovr_m, ovr_n, rd_aggc, List.drop_zero, List.take_succ_cons, List.take_zero, if_true, ↓w_skip, onB_true]
end Go.Proofs.Ytknmbiebnpojjaa.Sim
namespace Go.Proofs.Ytknmbiebnpojjaa.Sim
open Go
set_option maxRecDepth 100000
set_option maxHeartbeats 4000000
set_option linter.unusedSimpArgs false
set_option linter.unusedVariables false
def allT (l : List Bool) : Prop := ∀ j, j < l.length → l.getD j false = true
def bwV (w : Bool) (z : ByteArray) : AV := .tup [.sc (.string (if w = true then z else ByteArray.empty)), .sc (.bool w)]
theorem bwI {H : AHeap} {x : AV} {l : List Bool} (hx : IsB H x l) (hl : l.length ≤ 1000000000) (i t : Int) (z : ByteArray) (w : Bool) (hw : w = true ↔ (okBx i t z l.length ∧ allT l)) : ∃ Z : AHeap, Sound Try.prog 43 [bx i t z x] H (bwV w z) Z ∧ Ext H Z := by
  suffices h : ∃ v Z, Sound Try.prog 43 [bx i t z x] H v Z ∧ v = bwV w z ∧ Ext H Z by
    obtain ⟨v, Z, h1, rfl, h2⟩ := h
    exact ⟨Z, h1, h2⟩
  refine Sound.runP (args := [bx i t z x]) 21 [.tmp 2, .tmp 3] Try.func43 rfl rfl rfl rfl (by simp) (fun v Z => v = bwV w z ∧ Ext H Z) ?_
  have x1 := hx.one
  have lx := fun e => hx.len e
  by_cases hp : okBx i t z l.length
  · obtain ⟨Z, z1, z2⟩ := boxOkI ((Ext.more H [⟨[.sc (.int .i64 i), .sc (.int .i64 t), .sc (.string z), x], true, true⟩]).isB hx) i t z true (by simp [hp])
    have e0 : Ext H Z := (Ext.more H _).trans z2
    have hZ := z2.at (hap_0 H [⟨[.sc (.int .i64 i), .sc (.int .i64 t), .sc (.string z), x], true, true⟩])
    unfold bx at z1 ⊢
    simp -implicitDefEqProofs only [↓w_seq, ↓w_region, ↓ops_cons, ↓g_box, Nat.reduceLT, ev_tab, par0, cells_agg, ↓g_assign, ↓ops_nil, ev_const, of_str, of_bool, ↓g_load, ne_eq, Nat.reduceEqDiff, not_false_eq_true, upd_ne, upd_eq, alK_some, List.all_cons, one_int, one_str, x1, List.all_nil, Bool.and_self, rd_def, tyOk54, agg54, cells54, hap_0, List.getElem?_cons_zero, rd_aggc, Nat.zero_add, List.length_cons, List.length_nil, Nat.reduceAdd, Nat.le_refl, List.drop_zero, List.take_succ_cons, List.take_zero, if_true, onS_some, true_and]
    refine call1S (by simp -implicitDefEqProofs only [List.map_cons, Nat.reduceLT, ev_tab, upd_eq, List.map_nil] <;> rfl) z1 ?_
    simp -implicitDefEqProofs only [↓ops_cons, ↓g_unOp, Nat.reduceLT, ev_tab, upd_eq, u_not, Bool.not_true, Option.map_some, ↓ops_nil, ↓w_cond, ↓w_seq, ↓w_region, ↓g_assign, ↓w_ret, ev_const, of_str, of_bool, retP_2, res_tmp, ne_eq, Nat.reduceEqDiff, not_false_eq_true, upd_ne, onS_some, ↓w_skip, ↓g_fieldAddrT, fadr54_3, Nat.zero_add, ↓g_load, ↓g_len, Try.underlying52, ↓g_move, ↓w_block, of_int, rd_def, tyOk52, agg52, cells52, hZ, rd_onec, List.getElem?_cons_succ, List.getElem?_cons_zero, lx, onB_false]
    refine w_loop (ι := Nat) (fun k s => ∃ T : Nat → AV, s = ⟨tab 21 T, Z⟩ ∧ k ≤ l.length ∧ (∀ j, j < k → l.getD j false = true) ∧ T 1 = .ptr H.length 0 ∧ T 10 = x ∧ T 11 = .sc (.int .i64 l.length) ∧ T 12 = .sc (.int .i64 k)) (fun k => l.length - k) ?_ (i := 0) ?_
    · rintro k s ⟨T, rfl, a1, a2, a3, a4, a5, a6⟩
      by_cases hk : k < l.length
      · have k1 : (k : Int) < l.length := by omega
        have k2 : (0 : Int) ≤ k := by omega
        have e1 : IntKind.i64.wrap ((k : Int) + 1) = k + 1 := w64 (by omega) (by omega)
        obtain ⟨r, o, rfl, hr⟩ := (e0.isB hx).get hk
        by_cases hb : l.getD k false = true
        · simp -implicitDefEqProofs only [↓w_seq, ↓w_region, ↓ops_cons, ↓g_binOp, Nat.reduceLT, ev_tab, a6, a5, b_lss, k1, decide_true, ↓ops_nil, ↓w_cond, upd_eq, ↓w_skip, ↓w_block, ↓g_indexAddr, Try.underlying52, ne_eq, Nat.reduceEqDiff, not_false_eq_true, upd_ne, a4, adr_sl, k2, cells4, tyOk4, and_self, Int.toNat_natCast, Nat.mul_one, Nat.zero_add, if_true, ↓g_load, ↓g_assign, ↓g_move, ↓g_unOp, ↓w_ret, ev_const, of_str, of_bool, retP_2, res_tmp, onS_some, of_int, b_add, e1, rd_def, agg4, hr, rd_bools, hk, hb, u_not, Bool.not_true, Option.map_some, onB_false, ↓w_exit, ↓g_fieldAddrT, a3, fadr54_2, tyOk9, agg9, cells9, onB_true]
          refine ⟨k + 1, by omega, _, rfl, by omega, ?_, ?_, ?_, ?_, ?_⟩
          · intro j hj
            rcases Nat.lt_or_ge j k with q | q
            · exact a2 j q
            · obtain rfl : j = k := by omega
              exact hb
          all_goals (simp -implicitDefEqProofs only [ne_eq, Nat.reduceEqDiff, not_false_eq_true, upd_ne, a3, a4, a5, upd_eq] <;> rfl)
        · have hb2 : l.getD k false = false := by simpa using hb
          have hwf : w = false := by
            cases w with
            | false => rfl
            | true => exact absurd ((hw.1 rfl).2 k hk) hb
          simp -implicitDefEqProofs only [↓w_seq, ↓w_region, bwV, hwf, Bool.false_eq_true, if_false, ↓ops_cons, ↓g_binOp, Nat.reduceLT, ev_tab, a6, a5, b_lss, k1, decide_true, ↓ops_nil, ↓w_cond, upd_eq, ↓w_skip, ↓w_block, ↓g_indexAddr, Try.underlying52, ne_eq, Nat.reduceEqDiff, not_false_eq_true, upd_ne, a4, adr_sl, k2, cells4, tyOk4, and_self, Int.toNat_natCast, Nat.mul_one, Nat.zero_add, if_true, ↓g_load, ↓g_assign, ↓g_move, ↓g_unOp, ↓w_ret, ev_const, of_str, of_bool, retP_2, res_tmp, onS_some, of_int, b_add, rd_def, agg4, hr, rd_bools, hk, hb2, u_not, Bool.not_false, Option.map_some, onB_true, ↓w_exit, ↓g_fieldAddrT, a3, fadr54_2, tyOk9, agg9, cells9]
          exact ⟨rfl, e0⟩
      · have k1 : ¬ (k : Int) < l.length := by omega
        have hwt : w = true := hw.2 ⟨hp, fun j hj => a2 j (by omega)⟩
        simp -implicitDefEqProofs only [↓w_seq, ↓w_region, bwV, hwt, if_true, ↓ops_cons, ↓g_binOp, Nat.reduceLT, ev_tab, a6, a5, b_lss, k1, decide_false, ↓ops_nil, ↓w_cond, upd_eq, ↓w_skip, ↓w_block, ↓g_indexAddr, Try.underlying52, ne_eq, Nat.reduceEqDiff, not_false_eq_true, upd_ne, a4, ↓g_load, ↓g_assign, ↓g_move, ↓g_unOp, ↓w_ret, ev_const, of_str, of_bool, retP_2, res_tmp, onS_some, of_int, b_add, ↓w_exit, ↓g_fieldAddrT, a3, fadr54_2, Nat.zero_add, rd_def, tyOk9, agg9, cells9, hZ, rd_onec, List.getElem?_cons_succ, List.getElem?_cons_zero, true_and, onB_false]
        exact e0
    · refine ⟨_, rfl, by omega, fun j hj => by omega, ?_, ?_, ?_, ?_⟩ <;> simp -implicitDefEqProofs only [ne_eq, Nat.reduceEqDiff, not_false_eq_true, upd_ne, upd_eq, Int.cast_ofNat_Int] <;> rfl
  · obtain ⟨Z, z1, z2⟩ := boxOkI ((Ext.more H [⟨[.sc (.int .i64 i), .sc (.int .i64 t), .sc (.string z), x], true, true⟩]).isB hx) i t z false (by simp [hp])
    have hwf : w = false := by
      cases w with
      | false => rfl
      | true => exact absurd (hw.1 rfl).1 hp
    unfold bx at z1 ⊢
    simp -implicitDefEqProofs only [↓w_seq, ↓w_region, ↓ops_cons, ↓g_box, Nat.reduceLT, ev_tab, par0, cells_agg, ↓g_assign, ↓ops_nil, ev_const, of_str, of_bool, ↓g_load, ne_eq, Nat.reduceEqDiff, not_false_eq_true, upd_ne, upd_eq, alK_some, List.all_cons, one_int, one_str, x1, List.all_nil, Bool.and_self, rd_def, tyOk54, agg54, cells54, hap_0, List.getElem?_cons_zero, rd_aggc, Nat.zero_add, List.length_cons, List.length_nil, Nat.reduceAdd, Nat.le_refl, List.drop_zero, List.take_succ_cons, List.take_zero, if_true, onS_some, true_and]
    refine call1S (by simp -implicitDefEqProofs only [List.map_cons, Nat.reduceLT, ev_tab, upd_eq, List.map_nil] <;> rfl) z1 ?_
    simp -implicitDefEqProofs only [↓ops_cons, ↓g_unOp, Nat.reduceLT, ev_tab, upd_eq, u_not, Bool.not_false, Option.map_some, ↓ops_nil, ↓w_cond, ↓w_seq, ↓w_region, bwV, hwf, Bool.false_eq_true, if_false, ↓g_assign, ↓w_ret, ev_const, of_str, of_bool, retP_2, res_tmp, ne_eq, Nat.reduceEqDiff, not_false_eq_true, upd_ne, onS_some, ↓w_skip, ↓g_fieldAddrT, fadr54_3, Nat.zero_add, ↓g_load, ↓g_len, Try.underlying52, ↓g_move, ↓w_block, of_int, rd_def, tyOk52, agg52, cells52, onB_true]
    exact ⟨rfl, (Ext.more H _).trans z2⟩
theorem bwS {H : AHeap} {x : AV} {l : List Bool} (hx : IsB H x l) (hl : l.length ≤ 1000000000) (i t : Int) (z : ByteArray) (w : Bool) (hw : w = true ↔ (okBx i t z l.length ∧ allT l)) : ∃ Z : AHeap, Sound Try.prog 54 [bx i t z x] H (bwV w z) Z ∧ Ext H Z := by
  suffices h : ∃ v Z, Sound Try.prog 54 [bx i t z x] H v Z ∧ v = bwV w z ∧ Ext H Z by
    obtain ⟨v, Z, h1, rfl, h2⟩ := h
    exact ⟨Z, h1, h2⟩
  refine Sound.runP (args := [bx i t z x]) 23 [.tmp 2, .tmp 3] Try.func54 rfl rfl rfl rfl (by simp) (fun v Z => v = bwV w z ∧ Ext H Z) ?_
  have x1 := hx.one
  have lx := fun e => hx.len e
  by_cases hp : okBx i t z l.length
  · obtain ⟨Z, z1, z2⟩ := boxOkS ((Ext.more H [⟨[.sc (.int .i64 i), .sc (.int .i64 t), .sc (.string z), x], true, true⟩]).isB hx) i t z true (by simp [hp])
    have e0 : Ext H Z := (Ext.more H _).trans z2
    have hZ := z2.at (hap_0 H [⟨[.sc (.int .i64 i), .sc (.int .i64 t), .sc (.string z), x], true, true⟩])
    unfold bx at z1 ⊢
    simp -implicitDefEqProofs only [↓w_seq, ↓w_region, ↓ops_cons, ↓g_box, Nat.reduceLT, ev_tab, par0, cells_agg, ↓g_assign, ↓ops_nil, ev_const, of_str, of_bool, ↓g_load, ne_eq, Nat.reduceEqDiff, not_false_eq_true, upd_ne, upd_eq, alK_some, List.all_cons, one_int, one_str, x1, List.all_nil, Bool.and_self, rd_def, tyOk54, agg54, cells54, hap_0, List.getElem?_cons_zero, rd_aggc, Nat.zero_add, List.length_cons, List.length_nil, Nat.reduceAdd, Nat.le_refl, List.drop_zero, List.take_succ_cons, List.take_zero, if_true, onS_some, true_and]
    refine call1S (by simp -implicitDefEqProofs only [List.map_cons, Nat.reduceLT, ev_tab, upd_eq, List.map_nil] <;> rfl) z1 ?_
    simp -implicitDefEqProofs only [↓ops_cons, ↓g_unOp, Nat.reduceLT, ev_tab, upd_eq, u_not, Bool.not_true, Option.map_some, ↓ops_nil, ↓w_cond, ↓w_seq, ↓w_region, ↓g_assign, ↓w_ret, ev_const, of_str, of_bool, retP_2, res_tmp, ne_eq, Nat.reduceEqDiff, not_false_eq_true, upd_ne, onS_some, ↓w_skip, ↓w_block, of_int, onB_false]
    refine w_loop (ι := Nat) (fun k s => ∃ T : Nat → AV, s = ⟨tab 23 T, Z⟩ ∧ k ≤ l.length ∧ (∀ j, j < k → l.getD j false = true) ∧ T 1 = .ptr H.length 0 ∧ T 4 = .sc (.int .i64 k)) (fun k => l.length - k) ?_ (i := 0) ?_
    · rintro k s ⟨T, rfl, a1, a2, a3, a4⟩
      by_cases hk : k < l.length
      · have k1 : (k : Int) < l.length := by omega
        have k2 : (0 : Int) ≤ k := by omega
        have e1 : IntKind.i64.wrap ((k : Int) + 1) = k + 1 := w64 (by omega) (by omega)
        obtain ⟨r, o, rfl, hr⟩ := (e0.isB hx).get hk
        by_cases hb : l.getD k false = true
        · simp -implicitDefEqProofs only [↓w_seq, ↓w_region, ↓ops_cons, ↓g_move, ↓g_fieldAddrT, Nat.reduceLT, ev_tab, a4, ne_eq, Nat.reduceEqDiff, not_false_eq_true, upd_ne, a3, fadr54_3, Nat.zero_add, ↓g_load, upd_eq, ↓g_len, Try.underlying52, ↓g_binOp, ↓ops_nil, ↓w_cond, ↓w_skip, ↓w_block, ↓g_indexAddr, ↓g_unOp, ↓g_assign, ↓w_ret, ev_const, of_str, of_bool, retP_2, res_tmp, onS_some, of_int, b_add, e1, rd_def, tyOk52, agg52, cells52, hZ, rd_onec, List.getElem?_cons_succ, List.getElem?_cons_zero, adr_sl, k2, k1, cells4, tyOk4, and_self, Int.toNat_natCast, Nat.mul_one, if_true, agg4, hr, rd_bools, hk, hb, u_not, Bool.not_true, Option.map_some, onB_false, ↓w_exit, fadr54_2, tyOk9, agg9, cells9, lx, b_lss, decide_true, onB_true]
          refine ⟨k + 1, by omega, _, rfl, by omega, ?_, ?_, ?_⟩
          · intro j hj
            rcases Nat.lt_or_ge j k with q | q
            · exact a2 j q
            · obtain rfl : j = k := by omega
              exact hb
          all_goals (simp -implicitDefEqProofs only [ne_eq, Nat.reduceEqDiff, not_false_eq_true, upd_ne, a3, upd_eq] <;> rfl)
        · have hb2 : l.getD k false = false := by simpa using hb
          have hwf : w = false := by
            cases w with
            | false => rfl
            | true => exact absurd ((hw.1 rfl).2 k hk) hb
          simp -implicitDefEqProofs only [↓w_seq, ↓w_region, bwV, hwf, Bool.false_eq_true, if_false, ↓ops_cons, ↓g_move, ↓g_fieldAddrT, Nat.reduceLT, ev_tab, a4, ne_eq, Nat.reduceEqDiff, not_false_eq_true, upd_ne, a3, fadr54_3, Nat.zero_add, ↓g_load, upd_eq, ↓g_len, Try.underlying52, ↓g_binOp, ↓ops_nil, ↓w_cond, ↓w_skip, ↓w_block, ↓g_indexAddr, ↓g_unOp, ↓g_assign, ↓w_ret, ev_const, of_str, of_bool, retP_2, res_tmp, onS_some, of_int, b_add, rd_def, tyOk52, agg52, cells52, hZ, rd_onec, List.getElem?_cons_succ, List.getElem?_cons_zero, adr_sl, k2, k1, cells4, tyOk4, and_self, Int.toNat_natCast, Nat.mul_one, if_true, agg4, hr, rd_bools, hk, hb2, u_not, Bool.not_false, Option.map_some, onB_true, ↓w_exit, fadr54_2, tyOk9, agg9, cells9, lx, b_lss, decide_true]
          exact ⟨rfl, e0⟩
      · have k1 : ¬ (k : Int) < l.length := by omega
        have hwt : w = true := hw.2 ⟨hp, fun j hj => a2 j (by omega)⟩
        simp -implicitDefEqProofs only [↓w_seq, ↓w_region, bwV, hwt, if_true, ↓ops_cons, ↓g_move, ↓g_fieldAddrT, Nat.reduceLT, ev_tab, a4, ne_eq, Nat.reduceEqDiff, not_false_eq_true, upd_ne, a3, fadr54_3, Nat.zero_add, ↓g_load, upd_eq, ↓g_len, Try.underlying52, ↓g_binOp, ↓ops_nil, ↓w_cond, ↓w_skip, ↓w_block, ↓g_indexAddr, ↓g_unOp, ↓g_assign, ↓w_ret, ev_const, of_str, of_bool, retP_2, res_tmp, onS_some, of_int, b_add, rd_def, tyOk52, agg52, cells52, hZ, rd_onec, List.getElem?_cons_succ, List.getElem?_cons_zero, ↓w_exit, fadr54_2, tyOk9, agg9, cells9, true_and, lx, b_lss, k1, decide_false, onB_false]
        exact e0
    · refine ⟨_, rfl, by omega, fun j hj => by omega, ?_, ?_⟩ <;> simp -implicitDefEqProofs only [ne_eq, Nat.reduceEqDiff, not_false_eq_true, upd_ne, upd_eq, Int.cast_ofNat_Int] <;> rfl
  · obtain ⟨Z, z1, z2⟩ := boxOkS ((Ext.more H [⟨[.sc (.int .i64 i), .sc (.int .i64 t), .sc (.string z), x], true, true⟩]).isB hx) i t z false (by simp [hp])
    have hwf : w = false := by
      cases w with
      | false => rfl
      | true => exact absurd (hw.1 rfl).1 hp
    unfold bx at z1 ⊢
    simp -implicitDefEqProofs only [↓w_seq, ↓w_region, ↓ops_cons, ↓g_box, Nat.reduceLT, ev_tab, par0, cells_agg, ↓g_assign, ↓ops_nil, ev_const, of_str, of_bool, ↓g_load, ne_eq, Nat.reduceEqDiff, not_false_eq_true, upd_ne, upd_eq, alK_some, List.all_cons, one_int, one_str, x1, List.all_nil, Bool.and_self, rd_def, tyOk54, agg54, cells54, hap_0, List.getElem?_cons_zero, rd_aggc, Nat.zero_add, List.length_cons, List.length_nil, Nat.reduceAdd, Nat.le_refl, List.drop_zero, List.take_succ_cons, List.take_zero, if_true, onS_some, true_and]
    refine call1S (by simp -implicitDefEqProofs only [List.map_cons, Nat.reduceLT, ev_tab, upd_eq, List.map_nil] <;> rfl) z1 ?_
    simp -implicitDefEqProofs only [↓ops_cons, ↓g_unOp, Nat.reduceLT, ev_tab, upd_eq, u_not, Bool.not_false, Option.map_some, ↓ops_nil, ↓w_cond, ↓w_seq, ↓w_region, bwV, hwf, Bool.false_eq_true, if_false, ↓g_assign, ↓w_ret, ev_const, of_str, of_bool, retP_2, res_tmp, ne_eq, Nat.reduceEqDiff, not_false_eq_true, upd_ne, onS_some, ↓w_skip, ↓w_block, of_int, onB_true]
    exact ⟨rfl, (Ext.more H _).trans z2⟩
end Go.Proofs.Ytknmbiebnpojjaa.Sim
namespace Go.Proofs.Ytknmbiebnpojjaa.Sim
open Go
set_option maxRecDepth 100000
set_option maxHeartbeats 4000000
set_option linter.unusedSimpArgs false
set_option linter.unusedVariables false
theorem bdCur (x : AV) (h : Int) (hx : x.cells = [x]) : buildV Try.prog 110 [(0, x), (2, .sc (.int .i64 h))] = some (.agg [x, .sc (.int .i64 0), .sc (.int .i64 h)]) := by
  simp [buildV, fillA, placeS, overA, hx, cells_int, Try.underlying0, Try.underlying1, Try.underlying2, Try.underlying3, Try.underlying4, Try.underlying5, Try.underlying6, Try.underlying7, Try.underlying8, Try.underlying9, Try.underlying10, Try.underlying11, Try.underlying12, Try.underlying13, Try.underlying14, Try.underlying15, Try.underlying16, Try.underlying17, Try.underlying18, Try.underlying19, Try.underlying20, Try.underlying21, Try.underlying22, Try.underlying23, Try.underlying24, Try.underlying25, Try.underlying26, Try.underlying27, Try.underlying28, Try.underlying29, Try.underlying30, Try.underlying31, Try.underlying32, Try.underlying33, Try.underlying34, Try.underlying35, Try.underlying36, Try.underlying37, Try.underlying38, Try.underlying39, Try.underlying40, Try.underlying41, Try.underlying42, Try.underlying43, Try.underlying44, Try.underlying45, Try.underlying46, Try.underlying47, Try.underlying48, Try.underlying49, Try.underlying50, Try.underlying51, Try.underlying52, Try.underlying53, Try.underlying54, Try.underlying55, Try.underlying56, Try.underlying57, Try.underlying58, Try.underlying59, Try.underlying60, Try.underlying61, Try.underlying62, Try.underlying63, Try.underlying64, Try.underlying65, Try.underlying66, Try.underlying67, Try.underlying68, Try.underlying69, Try.underlying70, Try.underlying71, Try.underlying72, Try.underlying73, Try.underlying74, Try.underlying75, Try.underlying76, Try.underlying77, Try.underlying78, Try.underlying79, Try.underlying80, Try.underlying81, Try.underlying82, Try.underlying83, Try.underlying84, Try.underlying85, Try.underlying86, Try.underlying87, Try.underlying88, Try.underlying89, Try.underlying90, Try.underlying91, Try.underlying92, Try.underlying93, Try.underlying94, Try.underlying95, Try.underlying96, Try.underlying97, Try.underlying98, Try.underlying99, Try.underlying100, Try.underlying101, Try.underlying102, Try.underlying103, Try.underlying104, Try.underlying105, Try.underlying106, Try.underlying107, Try.underlying108, Try.underlying109, Try.underlying110, Try.underlying111, Try.underlying112, Try.underlying113, Try.underlying114, Try.underlying115, Try.underlying116, Try.underlying117, Try.underlying118, Try.underlying119, Try.underlying120, Try.underlying121, Try.underlying122, Try.underlying123, Try.underlying124, Try.underlying125, Try.underlying126, Try.underlying127, Try.underlying128, Try.underlying129, Try.underlying130, Try.underlying131, Try.underlying132, Try.underlying133, Try.underlying134, Try.underlying135, Try.underlying136, Try.underlying137, Try.underlying138, Try.underlying139, Try.underlying140, Try.underlying141, Try.underlying142, Try.underlying143, Try.underlying144, Try.underlying145, Try.underlying146, Try.underlying147, tyOk0, agg0, cells0, tyOk1, agg1, cells1, tyOk2, agg2, cells2, zero2, info2, mk2, bs2_0, bs2_1, bs2_2, bs2_3, bs2_4, bs2_5, bs2_6, bs2_7, bs2_8, bs2_10, bs2_11, bs2_12, bs2_13, tyOk3, agg3, cells3, zero3, apS26, apN26, info3, mk3, bs3_0, bs3_1, bs3_2, bs3_3, bs3_4, bs3_5, bs3_6, bs3_7, bs3_8, bs3_10, bs3_11, bs3_12, bs3_13, tyOk4, agg4, cells4, zero4, info4, mk4, bs4_0, bs4_1, bs4_2, apS52, apN52, tyOk5, agg5, cells5, isU5, zero5, apS22, apN22, apStr22, info5, mk5, bs5_0, bs5_1, bs5_2, bs5_3, bs5_4, bs5_5, bs5_6, bs5_7, bs5_8, bs5_10, bs5_11, bs5_12, bs5_13, tyOk6, agg6, cells6, isU6, zero6, info6, mk6, bs6_0, bs6_1, bs6_2, bs6_3, bs6_4, bs6_5, bs6_6, bs6_7, bs6_8, bs6_10, bs6_11, bs6_12, bs6_13, tyOk7, agg7, cells7, zero7, fadr7_0, fld7_0, fadr7_1, fld7_1, fadr7_2, fld7_2, fadr7_3, fld7_3, bz7, bds7, tyOk8, agg8, cells8, zero8, fadr8_0, fld8_0, fadr8_1, fld8_1, fadr8_2, fld8_2, fadr8_3, fld8_3, bz8, bds8, tyOk9, agg9, cells9, zero9, info9, bs9_0, bs9_1, bs9_2, bs9_3, bs9_4, bs9_5, bs9_6, bs9_8, bs9_9, bs9_10, apS125, apN125, tyOk10, agg10, cells10, zero10, info10, bs10_0, bs10_1, bs10_2, bs10_3, bs10_4, bs10_5, bs10_6, bs10_8, bs10_9, bs10_10, tyOk11, agg11, cells11, zero11, info11, bs11_0, bs11_1, bs11_2, bs11_3, bs11_4, bs11_5, bs11_6, bs11_8, bs11_9, bs11_10, tyOk12, agg12, cells12, zero12, info12, mk12, bs12_0, bs12_1, bs12_2, bs12_3, bs12_4, bs12_5, bs12_6, bs12_7, bs12_8, bs12_10, bs12_11, bs12_12, bs12_13, tyOk13, agg13, cells13, zero13, fadr13_0, fld13_0, fadr13_1, fld13_1, bz13, bds13, tyOk14, agg14, cells14, zero14, fadr14_0, fld14_0, fadr14_1, fld14_1, bz14, bds14, tyOk15, agg15, cells15, zero15, tyOk16, agg16, cells16, zero16, tyOk17, agg17, cells17, zero17, tyOk18, agg18, cells18, zero18, fadr18_0, fld18_0, bz18, bds18, tyOk19, agg19, cells19, zero19, fadr19_0, fld19_0, bz19, bds19, tyOk20, agg20, cells20, tyOk21, agg21, cells21, zero21, info21, mk21, bs21_0, bs21_1, bs21_2, bs21_3, bs21_4, bs21_5, bs21_6, bs21_7, bs21_8, bs21_10, bs21_11, bs21_12, bs21_13, tyOk22, agg22, cells22, zero22, tyOk23, agg23, cells23, tyOk24, agg24, cells24, tyOk25, agg25, cells25, tyOk26, agg26, cells26, zero26, tyOk27, agg27, cells27, tyOk28, agg28, cells28, tyOk29, agg29, cells29, zero29, info29, mk29, bs29_0, bs29_1, bs29_2, bs29_3, bs29_4, bs29_5, bs29_6, bs29_7, bs29_8, bs29_10, bs29_11, bs29_12, bs29_13, tyOk30, agg30, cells30, tyOk31, agg31, cells31, tyOk32, agg32, cells32, tyOk33, agg33, cells33, tyOk34, agg34, cells34, tyOk35, agg35, cells35, tyOk36, agg36, cells36, tyOk37, agg37, cells37, tyOk38, agg38, cells38, tyOk39, agg39, cells39, tyOk40, agg40, cells40, tyOk41, agg41, cells41, tyOk42, agg42, cells42, tyOk43, agg43, cells43, tyOk44, agg44, cells44, tyOk45, agg45, cells45, tyOk46, agg46, cells46, tyOk47, agg47, cells47, tyOk48, agg48, cells48, tyOk49, agg49, cells49, zero49, tyOk50, agg50, cells50, tyOk51, agg51, cells51, tyOk52, agg52, cells52, zero52, tyOk53, agg53, cells53, zero53, fadr53_0, fld53_0, fadr53_1, fld53_1, fadr53_2, fld53_2, fadr53_3, fld53_3, bz53, bds53, tyOk54, agg54, cells54, zero54, fadr54_0, fld54_0, fadr54_1, fld54_1, fadr54_2, fld54_2, fadr54_3, fld54_3, bz54, bds54, tyOk55, agg55, cells55, tyOk56, agg56, cells56, tyOk57, agg57, cells57, zero57, fadr57_0, fld57_0, fadr57_1, fld57_1, fadr57_2, fld57_2, fadr57_3, fld57_3, bz57, bds57, tyOk58, agg58, cells58, zero58, info58, apS49, apN49, bs58_1, bs58_0, fadr58_0, fld58_0, fadr58_1, fld58_1, fadr58_2, fld58_2, fadr58_3, fld58_3, bz58, bds58, tyOk59, agg59, cells59, tyOk60, agg60, cells60, tyOk61, agg61, cells61, tyOk62, agg62, cells62, tyOk63, agg63, cells63, tyOk64, agg64, cells64, tyOk65, agg65, cells65, tyOk66, agg66, cells66, tyOk67, agg67, cells67, tyOk68, agg68, cells68, tyOk69, agg69, cells69, tyOk70, agg70, cells70, tyOk71, agg71, cells71, tyOk72, agg72, cells72, tyOk73, agg73, cells73, tyOk74, agg74, cells74, zero74, tyOk75, agg75, cells75, tyOk76, agg76, cells76, tyOk77, agg77, cells77, tyOk78, agg78, cells78, zero78, ix78, bz78, tyOk79, agg79, cells79, tyOk80, agg80, cells80, tyOk81, agg81, cells81, tyOk82, agg82, cells82, tyOk83, agg83, cells83, tyOk84, agg84, cells84, tyOk85, agg85, cells85, zero85, info85, mk85, bs85_0, bs85_1, bs85_2, bs85_3, bs85_4, bs85_5, bs85_6, bs85_7, bs85_8, bs85_10, bs85_11, bs85_12, bs85_13, tyOk86, agg86, cells86, zero86, ix86, bz86, bd86, tyOk87, agg87, cells87, tyOk88, agg88, cells88, zero88, ix88, bz88, tyOk89, agg89, cells89, tyOk90, agg90, cells90, tyOk91, agg91, cells91, tyOk92, agg92, cells92, tyOk93, agg93, cells93, tyOk94, agg94, cells94, tyOk95, agg95, cells95, tyOk96, agg96, cells96, tyOk97, agg97, cells97, tyOk98, agg98, cells98, tyOk99, agg99, cells99, tyOk100, agg100, cells100, tyOk101, agg101, cells101, tyOk102, agg102, cells102, tyOk103, agg103, cells103, tyOk104, agg104, cells104, tyOk105, agg105, cells105, tyOk106, agg106, cells106, tyOk107, agg107, cells107, tyOk108, agg108, cells108, tyOk109, agg109, cells109, zero109, fadr109_0, fld109_0, fadr109_1, fld109_1, fadr109_2, fld109_2, bz109, bds109, tyOk110, agg110, cells110, zero110, fadr110_0, fld110_0, fadr110_1, fld110_1, fadr110_2, fld110_2, bz110, bds110, tyOk111, agg111, cells111, tyOk112, agg112, cells112, tyOk113, agg113, cells113, zero113, tyOk114, agg114, cells114, zero114, fadr114_0, fld114_0, fadr114_1, fld114_1, bz114, bds114, tyOk115, agg115, cells115, zero115, fadr115_0, fld115_0, fadr115_1, fld115_1, bz115, bds115, tyOk116, agg116, cells116, tyOk117, agg117, cells117, tyOk118, agg118, cells118, tyOk119, agg119, cells119, tyOk120, agg120, cells120, tyOk121, agg121, cells121, tyOk122, agg122, cells122, tyOk123, agg123, cells123, tyOk124, agg124, cells124, tyOk125, agg125, cells125, zero125, tyOk126, agg126, cells126, tyOk127, agg127, cells127, tyOk128, agg128, cells128, tyOk129, agg129, cells129, zero129, info129, mk129, bs129_0, bs129_1, bs129_2, bs129_3, bs129_4, bs129_5, bs129_6, bs129_7, bs129_8, bs129_10, bs129_11, bs129_12, bs129_13, tyOk130, agg130, cells130, tyOk131, agg131, cells131, tyOk132, agg132, cells132, zero132, tyOk133, agg133, cells133, zero133, tyOk134, agg134, cells134, tyOk135, agg135, cells135, tyOk136, agg136, cells136, zero136, fadr136_0, fld136_0, fadr136_1, fld136_1, fadr136_2, fld136_2, fadr136_3, fld136_3, bz136, bds136, tyOk137, agg137, cells137, zero137, fadr137_0, fld137_0, fadr137_1, fld137_1, fadr137_2, fld137_2, fadr137_3, fld137_3, bz137, bds137, tyOk138, agg138, cells138, zero138, tyOk139, agg139, cells139, zero139, tyOk140, agg140, cells140, zero140, tyOk141, agg141, cells141, isU141, zero141, info141, mk141, bs141_0, bs141_1, bs141_2, bs141_3, bs141_4, bs141_5, bs141_6, bs141_7, bs141_8, bs141_10, bs141_11, bs141_12, bs141_13, tyOk142, agg142, cells142, isU142, zero142, info142, mk142, bs142_0, bs142_1, bs142_2, bs142_3, bs142_4, bs142_5, bs142_6, bs142_7, bs142_8, bs142_10, bs142_11, bs142_12, bs142_13, tyOk143, agg143, cells143, tyOk144, agg144, cells144, zero144, info144, mk144, bs144_0, bs144_1, bs144_2, bs144_3, bs144_4, bs144_5, bs144_6, bs144_7, bs144_8, bs144_10, bs144_11, bs144_12, bs144_13, tyOk145, agg145, cells145, zero145, info145, mk145, bs145_0, bs145_1, bs145_2, bs145_3, bs145_4, bs145_5, bs145_6, bs145_7, bs145_8, bs145_10, bs145_11, bs145_12, bs145_13, tyOk146, agg146, cells146, fadr146_0, fld146_0, fadr146_1, fld146_1, fadr146_2, fld146_2, fadr146_3, fld146_3, fadr146_4, fld146_4, fadr146_5, fld146_5, fadr146_6, fld146_6, fadr146_7, fld146_7, fadr146_8, fld146_8, fadr146_9, fld146_9, fadr146_10, fld146_10, tyOk147, agg147, cells147, fadr147_0, fld147_0, fadr147_1, fld147_1, fadr147_2, fld147_2, fadr147_3, fld147_3, fadr147_4, fld147_4, fadr147_5, fld147_5, fadr147_6, fld147_6, fadr147_7, fld147_7, fadr147_8, fld147_8, fadr147_9, fld147_9, fadr147_10, fld147_10]
theorem drawNew {H : AHeap} {x : AV} {L : List Int} (hx : IsL H x .u8 L) (hL : L.length ≤ 4000000) : ∃ (r : Nat) (Z : AHeap), Sound Try.prog 58 [x] H (.ptr r 0) Z ∧ H.length ≤ r ∧ Cur Z r x L ∧ Ext H Z := by
  suffices h : ∃ v Z, Sound Try.prog 58 [x] H v Z ∧ ∃ r, v = .ptr r 0 ∧ H.length ≤ r ∧ Cur Z r x L ∧ Ext H Z by
    obtain ⟨v, Z, h1, r, rfl, h3⟩ := h
    exact ⟨r, Z, h1, h3⟩
  refine Sound.runP (args := [x]) 32 [.tmp 2] Try.func58 rfl rfl rfl rfl (by simp) (fun v Z => ∃ r, v = .ptr r 0 ∧ H.length ≤ r ∧ Cur Z r x L ∧ Ext H Z) ?_
  have lx := fun e => hx.len e
  have x1 : x.cells = [x] ∧ x.one = true := by
    rcases hx.kind with ⟨_, _, _, rfl⟩ | rfl <;> exact ⟨rfl, rfl⟩
  simp -implicitDefEqProofs only [↓w_seq, ↓w_region, ↓ops_cons, ↓g_assign, ↓ops_nil, ev_const, ↓g_move, ↓g_len, Try.underlying22, Nat.reduceLT, ev_tab, ne_eq, reduceCtorEq, not_false_eq_true, upd_ne, par0, upd_eq, lx, ↓g_binOp, of_int, ↓w_block, onS_some, b_add]
  refine w_loop (ι := Nat) (fun i s => ∃ (T : Nat → AV), s = ⟨tab 32 T, H⟩ ∧ i ≤ L.length ∧ T 0 = x ∧ (∃ h : Int, T 3 = .sc (.int .i64 h)) ∧ T 4 = .sc (.int .i64 i)) (fun i => L.length - i) ?_ (i := 0) ?_
  · rintro i s ⟨T, rfl, a1, a2, ⟨h, a3⟩, a4⟩
    have hend : Cur (H ++ [cur x 0 h]) H.length x L := ⟨⟨0, h, at_end _ _⟩, (Ext.more H _).isL hx⟩
    by_cases hi : i < L.length
    · have k1 : (i : Int) < L.length := by omega
      have k2 : (0 : Int) ≤ i := by omega
      have e1 : IntKind.i64.wrap ((i : Int) + 1) = i + 1 := w64 (by omega) (by omega)
      by_cases h4 : i < 4000
      · have k3 : (i : Int) < 4000 := by omega
        obtain ⟨q, o, rfl, hq⟩ := hx.get hi
        simp -implicitDefEqProofs only [↓w_seq, ↓w_region, ↓ops_cons, ↓g_move, ↓g_len, Try.underlying22, Nat.reduceLT, ev_tab, a4, ne_eq, reduceCtorEq, not_false_eq_true, upd_ne, a2, upd_eq, lx, ↓g_binOp, Nat.reduceEqDiff, onS_some, b_lss, k1, decide_true, yielded_tab, dstAt_s, dstAt_0, ybv_some, boolOf_b, ↓g_guard_t, ev_const, of_int, k3, ↓g_pick, of_bool, pick_b, if_true, ↓ops_nil, ↓w_cond, ↓w_skip, ↓w_block, a3, b_mul, ↓g_indexAddr, adr_sl, k2, cells5, tyOk5, and_self, Int.toNat_natCast, Nat.mul_one, Nat.zero_add, ↓g_load, ↓g_convert, Try.underlying5, Try.underlying3, ↓g_assign, b_add, e1, rd_def, agg5, hq, rd_ints, hi, c_int, b_and, ↓w_exit, ↓g_buildV, List.map_cons, List.map_nil, ↓g_box, ↓w_ret, retP_1, res_tmp, alK_some, onB_true]
        refine ⟨i + 1, by omega, _, rfl, by omega, ?_, ?_, ?_⟩
        · simp -implicitDefEqProofs only [ne_eq, reduceCtorEq, not_false_eq_true, upd_ne, a2]
        · simp -implicitDefEqProofs only [ne_eq, Nat.reduceEqDiff, not_false_eq_true, upd_ne, upd_eq]
          exact ⟨_, rfl⟩
        · simp -implicitDefEqProofs only [upd_eq] <;> rfl
      · have k3 : ¬ (i : Int) < 4000 := by omega
        simp -implicitDefEqProofs only [↓w_seq, ↓w_region, ↓ops_cons, ↓g_move, ↓g_len, Try.underlying22, Nat.reduceLT, ev_tab, a4, ne_eq, reduceCtorEq, not_false_eq_true, upd_ne, a2, upd_eq, lx, ↓g_binOp, Nat.reduceEqDiff, onS_some, b_lss, k1, decide_true, yielded_tab, dstAt_s, dstAt_0, ybv_some, boolOf_b, ↓g_guard_t, ev_const, of_int, k3, decide_false, ↓g_pick, of_bool, pick_b, if_true, ↓ops_nil, ↓w_cond, ↓w_skip, ↓w_block, a3, b_mul, ↓g_indexAddr, ↓g_load, ↓g_convert, Try.underlying5, Try.underlying3, ↓g_assign, b_add, ↓w_exit, ↓g_buildV, List.map_cons, List.map_nil, bdCur _ _ x1.1, ↓g_box, ↓w_ret, retP_1, res_tmp, alK_some, cells_agg, List.all_cons, x1, one_int, List.all_nil, Bool.and_self, true_and, onB_false]
        exact ⟨_, rfl, Nat.le_refl _, hend, Ext.more _ _⟩
    · have k1 : ¬ (i : Int) < L.length := by omega
      simp -implicitDefEqProofs only [↓w_seq, ↓w_region, ↓ops_cons, ↓g_move, ↓g_len, Try.underlying22, Nat.reduceLT, ev_tab, a4, ne_eq, reduceCtorEq, not_false_eq_true, upd_ne, a2, upd_eq, lx, ↓g_binOp, Nat.reduceEqDiff, onS_some, b_lss, k1, decide_false, yielded_tab, dstAt_s, dstAt_0, ybv_some, boolOf_b, Bool.not_true, ↓g_guard_f, ↓g_pick, ev_const, of_bool, pick_b, if_false, ↓ops_nil, ↓w_cond, ↓w_skip, ↓w_block, a3, of_int, b_mul, ↓g_indexAddr, ↓g_load, ↓g_convert, Try.underlying5, Try.underlying3, ↓g_assign, b_add, ↓w_exit, ↓g_buildV, List.map_cons, List.map_nil, bdCur _ _ x1.1, ↓g_box, ↓w_ret, retP_1, res_tmp, alK_some, cells_agg, List.all_cons, x1, one_int, List.all_nil, Bool.and_self, true_and, if_true, onB_false]
      exact ⟨_, rfl, Nat.le_refl _, hend, Ext.more _ _⟩
  · refine ⟨_, rfl, by omega, ?_, ?_, ?_⟩
    · simp -implicitDefEqProofs only [ne_eq, reduceCtorEq, not_false_eq_true, upd_ne, par0]
    · simp -implicitDefEqProofs only [ne_eq, Nat.reduceEqDiff, not_false_eq_true, upd_ne, upd_eq]
      exact ⟨_, rfl⟩
    · simp -implicitDefEqProofs only [upd_eq, Int.cast_ofNat_Int] <;> rfl
/-- Twelve numbers below 10000. -/
theorem drawPlaces {H : AHeap} {x : AV} {L : List Int} (hx : IsL H x .u8 L) (hL : L.length ≤ 4000000) : ∃ (l : List Nat) (q : Nat) (Z : AHeap), l.length = 12 ∧ (∀ a ∈ l, a < 10000) ∧ H.length ≤ q ∧ Z[q]? = some ⟨ints .i64 (l.map fun a : Nat => (a : Int)), true, true⟩ ∧ Sound Try.prog 19 [x] H (.sl q 0 12 1) Z ∧ Ext H Z := by
  suffices h : ∃ v Z, Sound Try.prog 19 [x] H v Z ∧ ∃ (l : List Nat) (q : Nat), l.length = 12 ∧ (∀ a ∈ l, a < 10000) ∧ H.length ≤ q ∧ Z[q]? = some ⟨ints .i64 (l.map fun a : Nat => (a : Int)), true, true⟩ ∧ v = .sl q 0 12 1 ∧ Ext H Z by
    obtain ⟨v, Z, h1, l, q, h2, h3, h4, h5, rfl, h6⟩ := h
    exact ⟨l, q, Z, h2, h3, h4, h5, h1, h6⟩
  refine Sound.runP (args := [x]) 21 [.tmp 2] Try.func19 rfl rfl rfl rfl (by simp) (fun v Z => ∃ (l : List Nat) (q : Nat), l.length = 12 ∧ (∀ a ∈ l, a < 10000) ∧ H.length ≤ q ∧ Z[q]? = some ⟨ints .i64 (l.map fun a : Nat => (a : Int)), true, true⟩ ∧ v = .sl q 0 12 1 ∧ Ext H Z) ?_
  simp -implicitDefEqProofs only [↓w_seq, ↓w_region, ↓ops_cons, ↓g_assign, ↓ops_nil, ev_const, ↓g_move, Nat.reduceLT, ev_tab, ne_eq, reduceCtorEq, not_false_eq_true, upd_ne, par0]
  obtain ⟨r, Z0, n1, n2, n3, n4⟩ := drawNew hx hL
  refine call1S (by simp -implicitDefEqProofs only [List.map_cons, Nat.reduceLT, ev_tab, upd_eq, List.map_nil] <;> rfl) n1 ?_
  simp -implicitDefEqProofs only [↓ops_cons, ↓g_assign, ↓ops_nil, ↓w_seq, ↓w_region, Nat.reduceLT, ev_tab, upd_eq, ↓g_move]
  obtain ⟨v, Z1, v1, v2, v3⟩ := drawByte n3 hL
  refine call1S (by simp -implicitDefEqProofs only [List.map_cons, Nat.reduceLT, ev_tab, upd_eq, List.map_nil] <;> rfl) v2 ?_
  simp -implicitDefEqProofs only [↓ops_nil, ↓w_seq, ↓w_region, ↓ops_cons, ↓g_buildSlice, Try.underlying26, List.map_nil, bs3_0, ↓g_assign, Nat.reduceLT, ev_tab, upd_eq, ↓w_block, ev_const, of_int, alK_some, ints_one, true_and]
  have c0 := n3.dr v3
  have hr := c0.lt
  refine w_loop (ι := Nat) (fun i s => ∃ (T : Nat → AV) (Z : AHeap) (l : List Nat) (q : Nat), s = ⟨tab 21 T, Z⟩ ∧ i ≤ 12 ∧ l.length = i ∧ (∀ a ∈ l, a < 10000) ∧ Dr r x Z1 Z ∧ Z1.length ≤ q ∧ Z[q]? = some ⟨ints .i64 (l.map fun a : Nat => (a : Int)), true, true⟩ ∧ T 3 = .ptr r 0 ∧ T 4 = .sl q 0 i 1 ∧ T 5 = .sc (.int .i64 i)) (fun i => 12 - i) ?_ (i := 0) ?_
  · rintro i s ⟨T, Z, l, q, rfl, a0, a1, ab, a2, a3, a4, a5, a6, a7⟩
    by_cases h : i < 12
    · have k1 : (i : Int) < 12 := by omega
      have e1 : IntKind.i64.wrap ((i : Int) + 1) = i + 1 := w64 (by omega) (by omega)
      simp -implicitDefEqProofs only [↓w_seq, ↓w_region, ↓ops_cons, ↓g_move, ↓g_binOp, Nat.reduceLT, ev_tab, a7, upd_eq, ev_const, of_int, b_lss, k1, decide_true, ↓ops_nil, ↓w_cond, ↓w_skip, ↓w_block, ne_eq, Nat.reduceEqDiff, not_false_eq_true, upd_ne, a6, a5, ↓w_exit, ↓g_assign, ↓w_ret, retP_1, res_tmp, onS_some, if_true, onB_true]
      obtain ⟨m, Y, m1, m2, m3⟩ := drawBelow (c0.dr a2) hL 10000 (by omega) (by omega)
      refine call1S (by simp -implicitDefEqProofs only [List.map_cons, Nat.reduceLT, ev_tab, upd_eq, ev_const, of_int, List.map_nil, Int.cast_ofNat_Int] <;> rfl) m2 ?_
      have hY := m3.at (c0.dr a2) a4
      have hq : q < Y.length := at_lt hY
      have hY2 : ∀ g : Reg, (Y ++ [g])[q]? = some ⟨ints .i64 (l.map fun a : Nat => (a : Int)), true, true⟩ := fun g => (at_more _ _ _ hq).trans hY
      have hll : (l.map fun a : Nat => (a : Int)).length = i := by rw [List.length_map, a1]
      have k3 : i ≤ (l.map fun a : Nat => (a : Int)).length := by omega
      have k4 : (i + 1) * 8 ≤ 140737488355328 := by omega
      have k5 : i + 1 ≤ 140737488355328 := by omega
      have k6 : (l.map fun a : Nat => (a : Int)).take i = l.map fun a : Nat => (a : Int) := List.take_of_length_le (by omega)
      have hmm : (l ++ [m]).map (fun a : Nat => (a : Int)) = (l.map fun a : Nat => (a : Int)) ++ [(m : Int)] := by simp
      generalize hA : (l.map fun a : Nat => (a : Int)) = A at *
      simp -implicitDefEqProofs only [↓ops_cons, ↓g_buildSlice, Try.underlying26, List.map_cons, Nat.reduceLT, ev_tab, upd_eq, List.map_nil, bs3_1, ↓g_append, ne_eq, Nat.reduceEqDiff, not_false_eq_true, upd_ne, apS26, ↓g_assign, ↓ops_nil, ↓w_region, ↓g_move, ↓g_binOp, a7, ev_const, of_int, b_add, e1, onS_some, alK_some, ints_one, hY2, src_sl, at_end, at_ints, Nat.zero_add, List.length_cons, List.length_nil, Nat.le_refl, List.drop_zero, List.take_succ_cons, List.take_zero, if_true, ap_ints, k3, k4, k5, and_self, List.length_append, k6, true_and]
      refine ⟨i + 1, by omega, _, _, l ++ [m], Y.length + 1, rfl, by omega, by simp [a1], ?_, ((((a2.trans m3).more hr _).kill a3 hr).more hr _), ?_, ?_, ?_, ?_, ?_⟩
      · intro b hb
        rcases List.mem_append.1 hb with hb | hb
        · exact ab b hb
        · simp at hb
          omega
      · have := (a2.trans m3).1
        omega
      · have := at_end (killReg (Y ++ [⟨ints .i64 [(m : Int)], true, true⟩]) q) ⟨ints .i64 (A ++ [(m : Int)]), true, true⟩
        rw [hmm]
        rwa [kill_len, List.length_append, List.length_singleton] at this
      · simp -implicitDefEqProofs only [ne_eq, Nat.reduceEqDiff, not_false_eq_true, upd_ne, a5]
      · simp -implicitDefEqProofs only [ne_eq, Nat.reduceEqDiff, not_false_eq_true, upd_ne, upd_eq]
      · simp -implicitDefEqProofs only [upd_eq] <;> rfl
    · have k1 : ¬ (i : Int) < 12 := by omega
      have hi : i = 12 := by omega
      subst hi
      simp -implicitDefEqProofs only [↓w_seq, ↓w_region, Nat.reduceSub, ↓ops_cons, ↓g_move, ↓g_binOp, Nat.reduceLT, ev_tab, a7, Int.cast_ofNat_Int, upd_eq, ev_const, of_int, b_lss, Int.reduceLT, decide_false, ↓ops_nil, ↓w_cond, ↓w_skip, ↓w_block, ne_eq, Nat.reduceEqDiff, not_false_eq_true, upd_ne, a6, a5, ↓w_exit, ↓g_assign, ↓w_ret, retP_1, res_tmp, onS_some, if_true, onB_false]
      have e0 : Ext H Z1 := Dr.ext n4 v3 n2
      exact ⟨l, q, a1, ab, Nat.le_trans e0.1 a3, a4, rfl, Dr.ext e0 a2 n2⟩
  · refine ⟨_, _, [], Z1.length, rfl, by omega, rfl, by simp, Dr.start c0 _, Nat.le_refl _, at_end _ _, ?_, ?_, ?_⟩ <;> simp -implicitDefEqProofs only [ne_eq, Nat.reduceEqDiff, not_false_eq_true, upd_ne, upd_eq, Int.cast_ofNat_Int] <;> rfl
theorem drawSome {H : AHeap} {r : Nat} {x : AV} {L : List Int} (c : Cur H r x L) (hL : L.length ≤ 4000000) : ∃ (z : ByteArray) (Z : AHeap), z.size ≤ 200 ∧ Sound Try.prog 57 [.ptr r 0] H (.sc (.string z)) Z ∧ Dr r x H Z := by
  suffices h : ∃ v Z, Sound Try.prog 57 [.ptr r 0] H v Z ∧ ∃ z : ByteArray, z.size ≤ 200 ∧ v = .sc (.string z) ∧ Dr r x H Z by
    obtain ⟨v, Z, h1, n, h2, rfl, h3⟩ := h
    exact ⟨n, Z, h2, h1, h3⟩
  refine Sound.runP (args := [.ptr r 0]) 10 [.tmp 2] Try.func57 rfl rfl rfl rfl (by simp) (fun v Z => ∃ z : ByteArray, z.size ≤ 200 ∧ v = .sc (.string z) ∧ Dr r x H Z) ?_
  simp -implicitDefEqProofs only [↓w_seq, ↓w_region, ↓ops_cons, ↓g_assign, ↓ops_nil, ev_const, of_str, ↓g_move, ↓g_buildSlice, Try.underlying26, Nat.reduceLT, ev_tab, ne_eq, reduceCtorEq, not_false_eq_true, upd_ne, par0, List.map_cons, of_int, List.map_nil, bs3_13, alK_some, ints_one, true_and]
  obtain ⟨j, Z1, j1, j2, j3⟩ := drawPickInt (c.app _) hL (.at (at_end _ ⟨ints .i64 [0, 1, 3, 9, 54, 55, 56, 63, 64, 65, 119, 120, 200], true, true⟩) rfl) (by decide) (by decide)
  refine call1S (by simp -implicitDefEqProofs only [List.map_cons, Nat.reduceLT, ev_tab, ne_eq, Nat.reduceEqDiff, not_false_eq_true, upd_ne, upd_eq, List.map_nil, List.length_cons, List.length_nil, Nat.zero_add, Nat.reduceAdd] <;> rfl) j2 ?_
  have hj : ∀ j < 13, ∃ n : Nat, n ≤ 200 ∧ ([0, 1, 3, 9, 54, 55, 56, 63, 64, 65, 119, 120, 200] : List Int).getD j 0 = n := by
    decide
  obtain ⟨n, n1, n2⟩ := hj j j1
  rw [n2]
  simp -implicitDefEqProofs only [↓ops_cons, ↓g_assign, ↓ops_nil, ↓w_seq, ↓w_region, Nat.reduceLT, ev_tab, upd_eq, ↓g_move, ne_eq, reduceCtorEq, not_false_eq_true, upd_ne, par0, Nat.reduceEqDiff]
  obtain ⟨z, Z2, z1, z2, z3⟩ := drawText ((c.app _).dr j3) hL n (by omega)
  refine call1S (by simp -implicitDefEqProofs only [List.map_cons, Nat.reduceLT, ev_tab, ne_eq, Nat.reduceEqDiff, not_false_eq_true, upd_ne, upd_eq, List.map_nil] <;> rfl) z2 ?_
  simp -implicitDefEqProofs only [↓ops_cons, ↓g_assign, ↓ops_nil, ↓w_ret, Nat.reduceLT, ev_tab, upd_eq, retP_1, res_tmp, onS_some]
  exact ⟨z, by omega, rfl, (j3.app).trans z3⟩
theorem drawTextOf {H : AHeap} {x : AV} {L : List Int} (hx : IsL H x .u8 L) (hL : L.length ≤ 4000000) : ∃ (z : ByteArray) (Z : AHeap), z.size ≤ 200 ∧ Sound Try.prog 9 [x] H (.sc (.string z)) Z ∧ Ext H Z := by
  suffices h : ∃ v Z, Sound Try.prog 9 [x] H v Z ∧ ∃ z : ByteArray, z.size ≤ 200 ∧ v = .sc (.string z) ∧ Ext H Z by
    obtain ⟨v, Z, h1, n, h2, rfl, h3⟩ := h
    exact ⟨n, Z, h2, h1, h3⟩
  refine Sound.runP (args := [x]) 6 [.tmp 2] Try.func9 rfl rfl rfl rfl (by simp) (fun v Z => ∃ z : ByteArray, z.size ≤ 200 ∧ v = .sc (.string z) ∧ Ext H Z) ?_
  obtain ⟨r, Z0, n1, n2, n3, n4⟩ := drawNew hx hL
  obtain ⟨z, Z1, z1, z2, z3⟩ := drawSome n3 hL
  simp -implicitDefEqProofs only [↓w_seq, ↓w_region, ↓ops_cons, ↓g_assign, ↓ops_nil, ev_const, of_str, ↓g_move, Nat.reduceLT, ev_tab, ne_eq, reduceCtorEq, not_false_eq_true, upd_ne, par0]
  refine call1S (by simp -implicitDefEqProofs only [List.map_cons, Nat.reduceLT, ev_tab, upd_eq, List.map_nil] <;> rfl) n1 ?_
  simp -implicitDefEqProofs only [↓ops_cons]
  refine call1S (by simp -implicitDefEqProofs only [List.map_cons, Nat.reduceLT, ev_tab, upd_eq, List.map_nil] <;> rfl) z2 ?_
  simp -implicitDefEqProofs only [↓ops_cons, ↓g_assign, ↓ops_nil, ↓w_ret, Nat.reduceLT, ev_tab, upd_eq, retP_1, res_tmp, onS_some]
  exact ⟨z, z1, rfl, Dr.ext n4 z3 n2⟩
end Go.Proofs.Ytknmbiebnpojjaa.Sim
namespace Go.Proofs.Ytknmbiebnpojjaa.Sim
open Go
set_option maxRecDepth 100000
set_option maxHeartbeats 4000000
set_option linter.unusedSimpArgs false
set_option linter.unusedVariables false
theorem bigS {H : AHeap} {x : AV} {L : List Int} (hx : IsL H x .u8 L) : Sound Try.prog 8 [x] H (.sc (.bool (decide ((1048576 : Int) < L.length)))) H := by
  refine Sound.run 6 [.tmp 2] Try.func8 rfl rfl rfl rfl (by simp) ?_
  have lx := fun e => hx.len e
  simp -implicitDefEqProofs only [↓w_seq, ↓w_region, ↓ops_cons, ↓g_assign, ↓ops_nil, ev_const, of_bool, ↓g_move, ↓g_len, Try.underlying22, Nat.reduceLT, ev_tab, ne_eq, reduceCtorEq, not_false_eq_true, upd_ne, par0, upd_eq, lx, ↓g_binOp, of_int, ↓w_ret, ret_one, and_true, onS_some, b_gtr]
theorem bigNo {L : List Int} (h : L.length ≤ 1048576) : decide ((1048576 : Int) < L.length) = false := decide_eq_false (by omega)
theorem bigYes {L : List Int} (h : ¬ L.length ≤ 1048576) : decide ((1048576 : Int) < L.length) = true := decide_eq_true (by omega)
end Go.Proofs.Ytknmbiebnpojjaa.Sim
namespace Go.Proofs.Ytknmbiebnpojjaa.Sim
open Go
set_option maxRecDepth 100000
set_option maxHeartbeats 4000000
set_option linter.unusedSimpArgs false
set_option linter.unusedVariables false
theorem bN_at3 {z : ByteArray} {A R : List Int} {v : Int} (hz : nums z = A ++ v :: R) : A.length < z.size ∧ bN z A.length = v.toNat := by
  refine ⟨?_, ?_⟩
  · rw [← nums_len, hz, List.length_append, List.length_cons]; omega
  · rw [bN, byteAt_nums, hz, List.getD_eq_getElem?_getD, List.getElem?_append_right (Nat.le_refl _), Nat.sub_self]
    rfl
theorem rdv_go {z : ByteArray} (A R : List Int) : ∀ (f i m n : Nat) (B : List Int), nums z = A ++ B ++ varN n ++ R → B.length = i → m + n * 128 ^ i ≤ 1000000000 → (i = 0 ∨ 0 < n) → n < 128 ^ f → (0 < n ∨ 0 < f) → rdv z A.length f i m = some (m + n * 128 ^ i, (A ++ B ++ varN n).length)
  | 0, i, m, n, B, hz, hB, hm, hi, hf, h0 => by
    have : n = 0 := by simpa using hf
    omega
  | f + 1, i, m, n, B, hz, hB, hm, hi, hf, _ => by
    have hAB : A.length + i = (A ++ B).length := by rw [List.length_append, hB]
    by_cases h : 127 < n
    · have hv : varN n = ((n % 128 + 128 : Nat) : Int) :: varN (n / 128) := varN_big h
      rw [hv] at hz ⊢
      obtain ⟨s1, b1⟩ := bN_at3 (z := z) (A := A ++ B) (v := ((n % 128 + 128 : Nat) : Int)) (R := varN (n / 128) ++ R) (by rw [hz]; simp)
      have hb : bN z (A.length + i) = n % 128 + 128 := by rw [hAB, b1]; omega
      have hp : 128 ^ (i + 1) = 128 ^ i * 128 := Nat.pow_succ ..
      have e1 : n % 128 * 128 ^ i + n / 128 * 128 ^ (i + 1) = n * 128 ^ i := by
        rw [hp, Nat.mul_comm (128 ^ i) 128, ← Nat.mul_assoc, ← Nat.add_mul]
        congr 1
        omega
      have := rdv_go A R f (i + 1) (m + n % 128 * 128 ^ i) (n / 128) (B ++ [((n % 128 + 128 : Nat) : Int)]) (by rw [hz]; simp) (by rw [List.length_append, hB]; rfl) (by omega) (.inr (by omega)) (by rw [Nat.pow_succ] at hf; omega) (.inl (by omega))
      rw [rdv, if_pos (by omega), hb, if_pos (by omega), show (n % 128 + 128) % 128 = n % 128 by omega, this]
      simp only [Option.some.injEq, Prod.mk.injEq]
      refine ⟨by omega, ?_⟩
      simp only [List.length_append, List.length_cons, List.length_nil]
      omega
    · have hv : varN n = [(n : Int)] := varN_small h
      rw [hv] at hz ⊢
      obtain ⟨s1, b1⟩ := bN_at3 (z := z) (A := A ++ B) (v := (n : Int)) (R := R) (by rw [hz]; simp)
      have hb : bN z (A.length + i) = n := by rw [hAB, b1]; omega
      have hn : n % 128 = n := by omega
      rw [rdv, if_pos (by omega), hb, if_neg h, hn, if_neg (by omega)]
      simp only [Option.some.injEq, Prod.mk.injEq, true_and]
      simp only [List.length_append, List.length_cons, List.length_nil]
      omega
theorem rdv_back {z : ByteArray} {A R : List Int} {n : Nat} (hn : n ≤ 1000000) (hz : nums z = A ++ varN n ++ R) : rdv z A.length 5 0 0 = some (n, (A ++ varN n).length) := by
  have := rdv_go A R 5 0 0 n [] (by simpa using hz) rfl (by omega) (.inl rfl) (by omega) (.inr (by omega))
  simpa using this
theorem nums_pt (i t f : Nat) (d : ByteArray) : nums (ptT i t f d) = varN i ++ (varN t ++ (varN f ++ (varN d.size ++ nums d))) := by
  rw [ptT, nums_son]
  intro x hx
  simp only [List.mem_append] at hx
  rcases hx with h | h | h | h | h
  · exact varN_range _ x h
  · exact varN_range _ x h
  · exact varN_range _ x h
  · exact varN_range _ x h
  · exact nums_range d x h
theorem readBack (i t f : Nat) (d : ByteArray) (h : okPc i t f d) (hd : d.size ≤ 1000) : Fn Try.prog 40 [.sc (.string (ptT i t f d))] (.tup [prt i t f d, .sc (.bool true)]) := by
  have hn := nums_pt i t f d
  have hsz := ptT_size i t f d
  have h' := h
  obtain ⟨⟨_, q1⟩, ⟨_, q2⟩, ⟨_, q3⟩⟩ := h'
  have i5 := varN_5 i (by omega)
  have t5 := varN_5 t (by omega)
  have f5 := varN_5 f (by omega)
  have d5 := varN_5 d.size (by omega)
  have r1 := rdv_back (A := []) (n := i) (by omega) (hn.trans (by simp; rfl))
  have r2 := rdv_back (A := varN i) (n := t) (by omega) (hn.trans (by simp; rfl))
  have r3 := rdv_back (A := varN i ++ varN t) (n := f) (by omega) (hn.trans (by simp; rfl))
  have r4 := rdv_back (A := varN i ++ varN t ++ varN f) (n := d.size) (by omega) (hn.trans (by simp; rfl))
  have hnd : ((ptT i t f d).extract (varN i ++ varN t ++ varN f ++ varN d.size).length ((varN i ++ varN t ++ varN f ++ varN d.size).length + d.size)) = d := by
    apply nums_inj
    have l1 : nums (ptT i t f d) = (varN i ++ varN t ++ varN f ++ varN d.size) ++ nums d := by rw [hn]; simp
    rw [nums_extract, List.take_of_length_le (by rw [l1, List.length_append, nums_len]; omega), l1, List.drop_left]
  simp only [List.nil_append] at r1
  have l2 : (varN i ++ varN t).length = (varN i).length + (varN t).length := List.length_append
  have l3 : (varN i ++ varN t ++ varN f).length = (varN i).length + (varN t).length + (varN f).length := by rw [List.length_append, l2]
  have l4 : (varN i ++ varN t ++ varN f ++ varN d.size).length = (varN i).length + (varN t).length + (varN f).length + (varN d.size).length := by rw [List.length_append, l3]
  have h4 : rsh (ptT i t f d) (varN i ++ varN t ++ varN f).length = some (d, (varN i ++ varN t ++ varN f ++ varN d.size).length + d.size) := by
    rw [rsh, r4]
    simp only
    rw [if_neg (by omega), hnd]
  have h4' : rsV (rsh (ptT i t f d) (varN i ++ varN t ++ varN f).length) = .tup [.sc (.string d), .sc (.int .i64 (((varN i ++ varN t ++ varN f ++ varN d.size).length + d.size : Nat) : Int)), .sc (.bool true)] := by rw [h4]; rfl
  exact rpOkI (ptT i t f d) (by omega) i t f _ _ _ _ d true true true true (rvV_some r1) (by omega) (rvV_some r2) (by omega) (rvV_some r3) (by omega) h4' (by omega) rfl rfl rfl rfl ⟨h, hd⟩ rfl
end Go.Proofs.Ytknmbiebnpojjaa.Sim
namespace Go.Proofs.Ytknmbiebnpojjaa.Sim
open Go
set_option maxRecDepth 100000
set_option maxHeartbeats 4000000
set_option linter.unusedSimpArgs false
set_option linter.unusedVariables false
def Fit (z T : ByteArray) (l : List Bool) : Prop := T.size = z.size ∧ l.length = z.size ∧ ∀ j, j < z.size → l.getD j false = true → byteAt T j = byteAt z j
theorem fillK_get (l : List Bool) (f j : Nat) (hj : j < l.length) : ∀ k, (fillK l f k).getD j false = if f ≤ j ∧ j < f + k then true else l.getD j false
  | 0 => by rw [if_neg (by omega)]; rfl
  | k + 1 => by
    have h : fillK l f (k + 1) = (fillK l f k).set (f + k) true := rfl
    have hl := fillK_len l f k
    rw [h, List.getD_eq_getElem?_getD]
    by_cases e : f + k = j
    · rw [e, List.getElem?_set_self (by omega), if_pos (by omega)]
      rfl
    · rw [List.getElem?_set_ne e, ← List.getD_eq_getElem?_getD, fillK_get l f j hj k]
      by_cases c : f ≤ j ∧ j < f + k
      · rw [if_pos c, if_pos (by omega)]
      · rw [if_neg c, if_neg (by omega)]
theorem putT_size (z : ByteArray) (f : Nat) (y : ByteArray) (h : f + y.size ≤ z.size) : (putT z f y).size = z.size := by
  rw [putT, ByteArray.size_append, ByteArray.size_append, ByteArray.size_extract, ByteArray.size_extract]
  omega
theorem putT_get (z : ByteArray) (f : Nat) (y : ByteArray) (h : f + y.size ≤ z.size) (j : Nat) (hj : j < z.size) : byteAt (putT z f y) j = if f ≤ j ∧ j < f + y.size then byteAt y (j - f) else byteAt z j := by
  have hn : nums (putT z f y) = (nums z).take f ++ (nums y ++ (nums z).drop (f + y.size)) := by
    rw [putT, nums_append, nums_append, nums_extract, nums_extract, List.drop_zero, List.take_of_length_le (i := z.size) (by rw [nums_len]; exact Nat.le_refl _), List.append_assoc]
  have l1 : ((nums z).take f).length = f := by rw [List.length_take, nums_len]; omega
  rw [byteAt_nums, hn, byteAt_nums, byteAt_nums, List.getD_eq_getElem?_getD, List.getD_eq_getElem?_getD, List.getD_eq_getElem?_getD]
  by_cases c1 : f ≤ j
  · rw [List.getElem?_append_right (by omega), l1]
    by_cases c2 : j < f + y.size
    · rw [if_pos ⟨c1, c2⟩, List.getElem?_append_left (by rw [nums_len]; omega)]
    · rw [if_neg (by omega), List.getElem?_append_right (by rw [nums_len]; omega), nums_len, List.getElem?_drop, show f + y.size + (j - f - y.size) = j by omega]
  · rw [if_neg (by omega), List.getElem?_append_left (by omega), List.getElem?_take_of_lt (by omega)]
theorem fit_put {z T : ByteArray} {l : List Bool} (h : Fit z T l) (f : Nat) (y : ByteArray) (hf : f + y.size ≤ z.size) (hy : ∀ k, k < y.size → byteAt y k = byteAt z (f + k)) : Fit z (putT T f y) (fillK l f y.size) ∧ ¬ ∃ k, k < y.size ∧ conf l T f y k := by
  obtain ⟨h1, h2, h3⟩ := h
  refine ⟨⟨by rw [putT_size _ _ _ (by omega)]; exact h1, by rw [fillK_len]; exact h2, fun j hj hl => ?_⟩, ?_⟩
  · rw [fillK_get l f j (by omega)] at hl
    rw [putT_get T f y (by omega) j (by omega)]
    by_cases c : f ≤ j ∧ j < f + y.size
    · rw [if_pos c, hy _ (by omega), show f + (j - f) = j by omega]
    · rw [if_neg c] at hl ⊢
      exact h3 j hj hl
  · rintro ⟨k, hk, c1, c2⟩
    exact c2 ((h3 _ (by omega) c1).trans (hy k hk).symm)
theorem fit_0 (z : ByteArray) : Fit z (zT z.size) (List.replicate z.size false) := ⟨zT_size _, List.length_replicate .., fun j hj h => by
  rw [List.getD_eq_getElem?_getD, List.getElem?_replicate] at h
  split at h <;> cases h⟩
theorem fit_end {z T : ByteArray} {l : List Bool} (h : Fit z T l) (ha : ∀ j, j < z.size → l.getD j false = true) : T = z := by
  apply nums_inj
  apply List.ext_getElem?
  intro j
  by_cases hj : j < z.size
  · have h1 : j < T.size := by rw [h.1]; exact hj
    have := h.2.2 j hj (ha j hj)
    rw [byteAt_nums, byteAt_nums, List.getD_eq_getElem?_getD, List.getD_eq_getElem?_getD, List.getElem?_eq_getElem (by rw [nums_len]; exact h1), List.getElem?_eq_getElem (by rw [nums_len]; exact hj)] at this
    rw [List.getElem?_eq_getElem (by rw [nums_len]; exact h1), List.getElem?_eq_getElem (by rw [nums_len]; exact hj)]
    exact congrArg some this
  · rw [List.getElem?_eq_none (by rw [nums_len, h.1]; omega), List.getElem?_eq_none (by rw [nums_len]; omega)]
/-! the parts of a text -/
section
variable (i : Int) (z : ByteArray) (s : Nat)
theorem cut_get : ∀ n j, j < n → (cutP i z s n)[j]? = some (cutAt i z s j)
  | 0, j, h => by omega
  | n + 1, j, h => by
    have hc : cutP i z s (n + 1) = cutP i z s n ++ [cutAt i z s n] := rfl
    rw [hc]
    rcases Nat.lt_or_ge j n with k | k
    · rw [List.getElem?_append_left (by rw [cutP_len]; exact k)]
      exact cut_get n j k
    · have : j = n := by omega
      subst this
      rw [List.getElem?_append_right (by rw [cutP_len]; exact Nat.le_refl _), cutP_len, Nat.sub_self]
      rfl
variable {i z s}
theorem cut_le {j : Nat} (hs : 1 ≤ s) (h : j < cutN z s) : j * s ≤ z.size := by
  rcases (cutN_lt hs).1 h with h | rfl
  · omega
  · omega
theorem cut_size {j : Nat} (hs : 1 ≤ s) (h : j < cutN z s) : (cutAt i z s j).z.size = min (j * s + s) z.size - j * s := by
  have := cut_le hs h
  show (z.extract (j * s) (min (j * s + s) z.size)).size = _
  rw [ByteArray.size_extract]
  omega
theorem cut_byte {j k : Nat} (hs : 1 ≤ s) (h : j < cutN z s) (hk : k < (cutAt i z s j).z.size) : byteAt (cutAt i z s j).z k = byteAt z (j * s + k) := by
  rw [cut_size hs h] at hk
  show byteAt (z.extract (j * s) (min (j * s + s) z.size)) k = _
  rw [byteAt_nums, byteAt_nums, nums_extract, List.getD_eq_getElem?_getD, List.getD_eq_getElem?_getD, List.getElem?_drop, List.getElem?_take_of_lt (by omega)]
def Cov (i : Int) (z : ByteArray) (s : Nat) (l : List Bool) (j : Nat) : Prop := ∀ k, k < (cutAt i z s j).z.size → l.getD (j * s + k) false = true
theorem cov_all {l : List Bool} (hs : 1 ≤ s) (h : ∀ j, j < cutN z s → Cov i z s l j) : ∀ j, j < z.size → l.getD j false = true := by
  intro j hj
  have e : j / s * s + j % s = j := by rw [Nat.mul_comm]; exact Nat.div_add_mod j s
  have hm : j % s < s := Nat.mod_lt _ (by omega)
  have hlt : j / s < cutN z s := (cutN_lt hs).2 (.inl (by omega))
  have := h (j / s) hlt (j % s) (by rw [cut_size hs hlt]; omega)
  rwa [e] at this
theorem cov_put {l : List Bool} {a b : Nat} (hs : 1 ≤ s) (ha : a < cutN z s) (hb : b < cutN z s) (hl : l.length = z.size) (h : Cov i z s l a ∨ a = b) : Cov i z s (fillK l (b * s) (cutAt i z s b).z.size) a := by
  intro k hk
  have h1 := cut_size (i := i) hs ha
  have h2 := cut_size (i := i) hs hb
  have h3 := cut_le hs ha
  rw [fillK_get _ _ _ (by omega)]
  split
  · rfl
  · rename_i hc
    rcases h with h | rfl
    · exact h k hk
    · omega
theorem cut_fit {j : Nat} (hs : 1 ≤ s) (h : j < cutN z s) {T : ByteArray} {l : List Bool} (hF : Fit z T l) : Fit z (putT T (j * s) (cutAt i z s j).z) (fillK l (j * s) (cutAt i z s j).z.size) ∧ ¬ ∃ k, k < (cutAt i z s j).z.size ∧ conf l T (j * s) (cutAt i z s j).z k :=
  fit_put hF _ _ (by rw [cut_size hs h]; have := cut_le hs h; omega) fun k hk => cut_byte hs h hk
theorem cut_ok {j : Nat} (hs : 1 ≤ s) (h : j < cutN z s) (hi : 0 ≤ i ∧ i ≤ 65535) (hz : z.size ≤ 4000) : okPc i z.size ((j * s : Nat) : Int) (cutAt i z s j).z := by
  have h1 := cut_size (i := i) hs h
  have h2 := cut_le hs h
  refine ⟨hi, by omega, by omega, ?_⟩
  omega
end
end Go.Proofs.Ytknmbiebnpojjaa.Sim
namespace Go.Proofs.Ytknmbiebnpojjaa.Sim
open Go
set_option linter.unusedSimpArgs false
set_option linter.unusedVariables false
theorem entry {P : Program} {f : FuncId} {v : Value} {ags : List AV} {H0 H' : AHeap} (hs : Sound P f ags H0 (.sc v) H') (w : World) (cargs : Array Value) (ρ0 : Ren)
    (hreg : ∀ r g l, H0[r]? = some g → ρ0 r = some l → RegOk ρ0 w.heap.size w l g ∧ g.own = false) (hdom : ∀ r l, ρ0 r = some l → ∃ g, H0[r]? = some g)
    (hA : LR ρ0 ags cargs.toList) (hg : Gl w.heap.size w := by exact Gl.none rfl) : Calls P f cargs w fun e w' => e = .returned v ∧ RowKit.Below w.heap.size w w' := by
  obtain ⟨_, hlen, h3⟩ := hs
  have hR : Rel H'.length ρ0 w.heap.size (hf H0) w := by
    refine ⟨⟨Nat.le_refl _, hg⟩, ?_, ?_, ?_, ?_, ?_⟩
    · intro r l h
      obtain ⟨g, hg⟩ := hdom r l h
      obtain ⟨⟨c, e, fz, hb, _⟩, _⟩ := hreg r g l hg h
      exact (Array.getElem?_eq_some_iff.1 hb).1
    · intro r l h
      obtain ⟨g, hg⟩ := hdom r l h
      exact .inl ⟨g, hg⟩
    · intro r g h
      exact Nat.lt_of_lt_of_le (List.getElem?_eq_some_iff.1 h).1 hlen
    · intro r g l hg _ h
      exact (hreg r g l hg h).1
    · intro r1 r2 g1 g2 l1 l2 a1 _ _ _ c1 _ k1 _ _
      have := (hreg r1 g1 l1 a1 k1).2
      rw [this] at c1
      cases c1
  refine (h3 H'.length ρ0 w.heap.size w cargs (Nat.le_refl _) hR hA).mono ?_
  rintro e w' ⟨cv, ρ', rfl, hvr, hR', hG⟩
  refine ⟨by rw [hvr.sc_inv], hG.os, hG.tape, hG.output, hG.size, fun k hk => hG.frame k hk fun r g l hg _ ho hρ => ?_⟩
  have := (hreg r g l hg hρ).2
  rw [this] at ho
  cases ho
theorem add_spot {a : Addr} (h : a.spot = none) (i : Nat) : a.add i = ⟨a.block, a.off + i, none⟩ := by
  unfold Addr.add
  split
  · rename_i h0
    subst h0
    cases a
    simp_all
  · rfl
theorem param_ints {w : World} {a : Addr} {len cap : Nat} {zs : List Int} {k : IntKind} (hsp : a.spot = none) (hsh : ∃ row cells, w.shape? a.block = some (row, cells)) (hl : len ≤ cap) (hz : zs.length = cap)
    (hcell : ∀ i, i < zs.length → w.cell? (a.add i) = some (.int k (zs.getD i 0))) : ∃ (l : Loc) (off : Nat), (∀ ρ : Ren, RegOk ρ w.heap.size w l ⟨ints k (zs.take len), false, true⟩) ∧ ∀ (ρ : Ren) (r : Nat), ρ r = some l → VR ρ (.sl r 0 (zs.take len).length 1) (.slice (some a) len cap) := by
  obtain ⟨row, cells, hsh⟩ := hsh
  unfold World.shape? at hsh
  split at hsh
  case h_2 => cases hsh
  rename_i c elem fz hb
  have hbl : a.block < w.heap.size := (Array.getElem?_eq_some_iff.1 hb).1
  have hlen : (zs.take len).length = len := by rw [List.length_take]; omega
  rw [hlen]
  have ea : a = ⟨a.block, a.off, none⟩ := by cases a; simp_all
  rcases Nat.eq_zero_or_pos cap with h0 | h0
  · have hl0 : len = 0 := by omega
    subst hl0
    subst h0
    refine ⟨⟨a.block, 0, c.size⟩, 0, fun ρ => ⟨c, elem, fz, hb, rfl, by simp [ints], ?_, ⟨fun h => (by cases h), fun _ => hbl⟩⟩, fun ρ r h => ?_⟩
    · simp only [List.take_zero, ints, List.map_nil, List.length_nil]
      exact LR.nil
    · rw [ea]
      exact .sl0 h
  · have hc : ∀ i, i < cap → c[a.off + i]? = some (.int k (zs.getD i 0)) := by
      intro i hi
      have := hcell i (by omega)
      rw [add_spot hsp] at this
      rw [← this]
      simp [World.cell?, hb]
    have hfit : a.off + cap ≤ c.size := by
      have := (Array.getElem?_eq_some_iff.1 (hc (cap - 1) (by omega))).1
      omega
    refine ⟨⟨a.block, a.off, c.size⟩, 0, fun ρ => ⟨c, elem, fz, hb, rfl, by simp [ints]; omega, ?_, ⟨fun h => (by cases h), fun _ => hbl⟩⟩, fun ρ r h => ?_⟩
    · refine ⟨by simp [ints]; omega, ?_⟩
      intro i x y hx hy
      have hi : i < len := by
        have := (List.getElem?_eq_some_iff.1 hx).1
        simp [ints] at this
        omega
      have hx2 : x = .sc (.int k (zs.getD i 0)) := by
        simp only [ints, List.getElem?_map, List.getElem?_take, hi, if_true] at hx
        have hzi : i < zs.length := by omega
        rw [List.getElem?_eq_getElem hzi] at hx
        simp at hx
        rw [← hx]
        simp [hzi]
      have hy2 : y = .int k (zs.getD i 0) := by
        rw [List.getElem?_take] at hy
        split at hy
        · rw [List.getElem?_drop, Array.getElem?_toList, hc i (by omega)] at hy
          injection hy with hy
          exact hy.symm
        · cases hy
      rw [hx2, hy2]
      exact .sc _
    · rw [ea]
      have := VR.sl (ρ := ρ) (r := r) (off := 0) (len := len) (sz := 1) (cap := cap) (l := ⟨a.block, a.off, c.size⟩) h hl (by simp; omega)
      simpa using this
/-- A slice that is given holds its block. -/
theorem okWide_shape {P : Program} {w : World} {r : Reach} {b : Nat} {t e : TypeId} {a : Addr} {len cap : Nat} (ht : P.underlying t = some (.slice e)) (h : Value.okWide P w r b t (.slice (some a) len cap)) : a.spot = none ∧ ∃ row cells, w.shape? a.block = some (row, cells) := by
  unfold Value.okWide at h
  simp only [ht] at h
  unfold Cell.okWide at h
  simp only [ht] at h
  unfold Cell.ok at h
  simp only [ht] at h
  obtain ⟨_, _, _, h1, row, cells, h2, _⟩ := h
  exact ⟨h1, row, cells, h2⟩
theorem shut_nil {H : Type} {enc : TypeId × Value → H} {P : Program} {w : World} {base : Nat} {spare : Nat → Bool} {held : Bool} {t e : TypeId} (ht : P.underlying t = some (.slice e)) : DataW.Trod enc P w base spare held t (.slice none 0 0) .nil [] := ⟨1, by simp [DataW.trod_step, DataW.trodStep, Value.cells, ht]⟩
end Go.Proofs.Ytknmbiebnpojjaa.Sim
