/- Boxes: marks in them, as the laws ask. -/
import Derived.Test.YtheeehbaholjmaaFBox
namespace Go.Proofs.Ytheeehbaholjmaa.Sim
open Go
set_option maxRecDepth 100000
set_option maxHeartbeats 40000000
set_option linter.unusedSimpArgs false
set_option linter.unusedVariables false
def mkB (k : Nat) : Nat → List Bool
  | 0 => []
  | n + 1 => mkB k n ++ [decide ((((k + n) % 3 : Nat) : Int) = 0)]
theorem mkB_len (k : Nat) : ∀ n, (mkB k n).length = n
  | 0 => rfl
  | n + 1 => by rw [mkB, List.length_append, mkB_len k n]; rfl
theorem mkB_get (k : Nat) : ∀ n i, i < n → (mkB k n).getD i false = decide ((((k + i) % 3 : Nat) : Int) = 0)
  | 0, i, h => by omega
  | n + 1, i, h => by
    rw [mkB, List.getD_eq_getElem?_getD]
    by_cases hi : i < n
    · rw [List.getElem?_append_left (by rw [mkB_len]; exact hi), ← List.getD_eq_getElem?_getD]
      exact mkB_get k n i hi
    · have : i = n := by omega
      subst this
      rw [List.getElem?_append_right (by rw [mkB_len]; exact Nat.le_refl _), mkB_len, Nat.sub_self]
      rfl
theorem markBoolsS {H : AHeap} {r n : Nat} {l : List Bool} (hr : H[r]? = some ⟨bools l, true, true⟩) (hn : l.length = n) (hl : n ≤ 1000000000) : Sound Try.prog 68 [.sl r 0 n 1, .sc (.int .i64 1)] H (.sc (.int .i64 ((1 + n : Nat) : Int))) (H.set r ⟨bools (mkB 1 n), true, true⟩) := by
  refine Sound.run 21 [.tmp 4] Try.func68 rfl rfl rfl rfl (by simp) ?_
  have hrl : r < H.length := at_lt hr
  simp -implicitDefEqProofs only [↓w_seq, ↓w_region, ↓ops_cons, ↓g_assign, ↓ops_nil, ev_const, of_int, ↓w_block]
  refine w_loop (ι := Nat) (fun i s => ∃ (T : Nat → AV) (u : List Bool), s = ⟨tab 21 T, H.set r ⟨bools u, true, true⟩⟩ ∧ u.length = n ∧ i ≤ n ∧ u.take i = mkB 1 i ∧ T 0 = .sl r 0 n 1 ∧ T 1 = .sc (.int .i64 ((1 + i : Nat) : Int)) ∧ T 5 = .sc (.int .i64 i)) (fun i => n - i) ?_ (i := 0) ?_
  · rintro i s ⟨T, u, rfl, b1, a1, b2, a3, a4, a5⟩
    by_cases h : i < n
    · have k1 : (i : Int) < n := by omega
      have k2 : (0 : Int) ≤ i := by omega
      have e1 : IntKind.i64.wrap ((i : Int) + 1) = i + 1 := w64 (by omega) (by omega)
      have e2 : IntKind.i64.wrap (((1 + i : Nat) : Int) + 1) = ((1 + (i + 1) : Nat) : Int) := by rw [w64 (by omega) (by omega)]; omega
      have e3 : (((1 + i : Nat) : Int)).tmod 3 = (((1 + i) % 3 : Nat) : Int) := by rw [Int.tmod_eq_emod_of_nonneg (by omega)]; omega
      have sset : ∀ g : Reg, (H.set r g)[r]? = some g := fun g => List.getElem?_set_self hrl
      simp -implicitDefEqProofs only [↓w_seq, ↓w_region, ↓ops_cons, ↓g_move, ↓g_len, Try.underlying30, Nat.reduceLT, ev_tab, a5, ne_eq, reduceCtorEq, not_false_eq_true, upd_ne, a3, upd_eq, len_sl, ↓g_binOp, Nat.reduceEqDiff, ↓ops_nil, ↓w_cond, ↓w_skip, ↓w_block, a4, ev_const, of_int, b_rem, Int.reduceEq, e3, if_false, ↓g_indexAddr, adr_sl, k2, k1, cells4, tyOk4, and_self, Int.toNat_natCast, Nat.mul_one, Nat.zero_add, if_true, ↓g_store, b_add, e2, ↓g_assign, e1, onS_some, wr_def, sset, b_eql, wr_bools, b1, h, List.set_set, ↓w_exit, ↓w_ret, ret_one, b_lss, decide_true, onB_true]
      refine ⟨i + 1, by omega, _, _, rfl, ?_, by omega, ?_, ?_, ?_, ?_⟩
      · rw [List.length_set, b1]
      · rw [List.take_add_one, List.take_set_of_le (by omega), b2, List.getElem?_set_self (by omega)]
        rfl
      · simp -implicitDefEqProofs only [ne_eq, reduceCtorEq, not_false_eq_true, upd_ne, a3]
      · simp -implicitDefEqProofs only [ne_eq, Nat.reduceEqDiff, not_false_eq_true, upd_ne, upd_eq]
      · simp -implicitDefEqProofs only [upd_eq] <;> rfl
    · have k1 : ¬ (i : Int) < n := by omega
      have e : i = n := by omega
      subst e
      have hu : u = mkB 1 i := by
        rw [← b2, ← b1, List.take_length]
      rw [hu]
      simp -implicitDefEqProofs only [↓w_seq, ↓w_region, ↓ops_cons, ↓g_move, ↓g_len, Try.underlying30, Nat.reduceLT, ev_tab, a5, ne_eq, reduceCtorEq, not_false_eq_true, upd_ne, a3, upd_eq, len_sl, ↓g_binOp, Nat.reduceEqDiff, ↓ops_nil, ↓w_cond, ↓w_skip, ↓w_block, a4, ev_const, of_int, b_rem, Int.reduceEq, if_false, ↓g_indexAddr, adr_sl, k1, cells4, tyOk4, and_self, and_true, and_false, Nat.mul_one, Nat.zero_add, ↓g_store, b_add, ↓g_assign, onS_some, b_eql, ↓w_exit, ↓w_ret, ret_one, if_true, b_lss, decide_false, onB_false]
  · have hH : H = H.set r ⟨bools l, true, true⟩ := by
      have := (List.getElem?_eq_some_iff.1 hr).2
      rw [← this, List.set_getElem_self]
    refine ⟨_, l, congrArg (St.mk _) hH, hn, by omega, by simp [mkB], ?_, ?_, ?_⟩ <;> simp -implicitDefEqProofs only [ne_eq, reduceCtorEq, not_false_eq_true, upd_ne, par0, Nat.reduceEqDiff, par1, Nat.reduceAdd, Int.cast_ofNat_Int, upd_eq] <;> rfl
theorem heldBoolsS {H : AHeap} {x : AV} {n : Nat} (hx : IsB H x (mkB 1 n)) (hl : n ≤ 1000000000) : Sound Try.prog 69 [x, .sc (.int .i64 1)] H (.sc (.int .i64 ((1 + n : Nat) : Int))) H := by
  refine Sound.run 23 [.tmp 4] Try.func69 rfl rfl rfl rfl (by simp) ?_
  have lx := fun e => hx.len e
  have hlen := mkB_len 1 n
  simp only [hlen] at lx
  simp -implicitDefEqProofs only [↓w_seq, ↓w_region, Int.reduceNeg, ↓ops_cons, ↓g_assign, ↓ops_nil, ev_const, of_int, ↓w_block]
  refine w_loop (ι := Nat) (fun i s => ∃ T : Nat → AV, s = ⟨tab 23 T, H⟩ ∧ i ≤ n ∧ T 0 = x ∧ T 1 = .sc (.int .i64 ((1 + i : Nat) : Int)) ∧ T 5 = .sc (.int .i64 i)) (fun i => n - i) ?_ (i := 0) ?_
  · rintro i s ⟨T, rfl, a1, a3, a4, a5⟩
    by_cases h : i < n
    · have k1 : (i : Int) < n := by omega
      have k2 : (0 : Int) ≤ i := by omega
      have e1 : IntKind.i64.wrap ((i : Int) + 1) = i + 1 := w64 (by omega) (by omega)
      have e2 : IntKind.i64.wrap (((1 + i : Nat) : Int) + 1) = ((1 + (i + 1) : Nat) : Int) := by rw [w64 (by omega) (by omega)]; omega
      have e3 : (((1 + i : Nat) : Int)).tmod 3 = (((1 + i) % 3 : Nat) : Int) := by rw [Int.tmod_eq_emod_of_nonneg (by omega)]; omega
      obtain ⟨r, o, rfl, hr⟩ := hx.get (i := i) (by rw [hlen]; exact h)
      have hg := mkB_get 1 n i h
      simp -implicitDefEqProofs only [↓w_seq, ↓w_region, Int.reduceNeg, hlen, ↓ops_cons, ↓g_move, ↓g_len, Try.underlying30, Nat.reduceLT, ev_tab, a5, ne_eq, reduceCtorEq, not_false_eq_true, upd_ne, a3, upd_eq, len_sl, ↓g_binOp, Nat.reduceEqDiff, ↓ops_nil, ↓w_cond, ↓w_skip, ↓w_block, ↓g_indexAddr, adr_sl, k2, k1, cells4, tyOk4, and_self, Int.toNat_natCast, Nat.mul_one, Nat.zero_add, if_true, ↓g_load, a4, ev_const, of_int, b_rem, Int.reduceEq, e3, if_false, ↓g_assign, ↓w_ret, ret_one, and_true, b_add, e2, e1, onS_some, b_eql, rd_def, agg4, hr, rd_bools, h, hg, Try.underlying4, v_neq, beq_self_eq_true, Bool.not_true, onB_false, ↓w_exit, b_lss, decide_true, onB_true]
      refine ⟨i + 1, by omega, _, rfl, by omega, ?_, ?_, ?_⟩
      · simp -implicitDefEqProofs only [ne_eq, reduceCtorEq, not_false_eq_true, upd_ne, a3, hlen]
      · simp -implicitDefEqProofs only [ne_eq, Nat.reduceEqDiff, not_false_eq_true, upd_ne, upd_eq]
      · simp -implicitDefEqProofs only [upd_eq] <;> rfl
    · have k1 : ¬ (i : Int) < n := by omega
      have e : i = n := by omega
      subst e
      simp -implicitDefEqProofs only [↓w_seq, ↓w_region, Int.reduceNeg, ↓ops_cons, ↓g_move, ↓g_len, Try.underlying30, Nat.reduceLT, ev_tab, a5, ne_eq, reduceCtorEq, not_false_eq_true, upd_ne, a3, upd_eq, lx, ↓g_binOp, Nat.reduceEqDiff, ↓ops_nil, ↓w_cond, ↓w_skip, ↓w_block, ↓g_indexAddr, ↓g_load, a4, ev_const, of_int, b_rem, Int.reduceEq, if_false, ↓g_assign, ↓w_ret, ret_one, and_true, b_add, onS_some, b_eql, ↓w_exit, and_self, if_true, b_lss, k1, decide_false, onB_false]
  · refine ⟨_, rfl, by omega, ?_, ?_, ?_⟩ <;> simp -implicitDefEqProofs only [ne_eq, reduceCtorEq, not_false_eq_true, upd_ne, par0, Nat.reduceEqDiff, par1, Nat.reduceAdd, Int.cast_ofNat_Int, upd_eq] <;> rfl
theorem markBoolsN (H : AHeap) : Sound Try.prog 68 [.sc (.slice none 0 0), .sc (.int .i64 1)] H (.sc (.int .i64 1)) H := by
  refine Sound.run 21 [.tmp 4] Try.func68 rfl rfl rfl rfl (by simp) ?_
  simp -implicitDefEqProofs only [↓w_seq, ↓w_region, ↓ops_cons, ↓g_assign, ↓ops_nil, ev_const, of_int, ↓w_block]
  refine w_loop (ι := Nat) (fun i s => ∃ T : Nat → AV, s = ⟨tab 21 T, H⟩ ∧ T 0 = .sc (.slice none 0 0) ∧ T 1 = .sc (.int .i64 1) ∧ T 5 = .sc (.int .i64 0)) (fun i => i) ?_ (i := 0) ?_
  · rintro i s ⟨T, rfl, a3, a4, a5⟩
    simp -implicitDefEqProofs only [↓w_seq, ↓w_region, ↓ops_cons, ↓g_move, ↓g_len, Try.underlying30, Nat.reduceLT, ev_tab, a5, ne_eq, reduceCtorEq, not_false_eq_true, upd_ne, a3, upd_eq, len_nil, ↓g_binOp, Nat.reduceEqDiff, ↓ops_nil, ↓w_cond, ↓w_skip, ↓w_block, a4, ev_const, of_int, b_rem, Int.reduceEq, if_false, ↓g_indexAddr, ↓g_store, b_add, Int.reduceAdd, ↓g_assign, onS_some, b_eql, ↓w_exit, ↓w_ret, ret_one, and_self, if_true, b_lss, Int.reduceLT, decide_false, onB_false]
  · refine ⟨_, rfl, ?_, ?_, ?_⟩ <;> simp -implicitDefEqProofs only [ne_eq, reduceCtorEq, not_false_eq_true, upd_ne, par0, Nat.reduceEqDiff, par1, upd_eq] <;> rfl
theorem markBoxS {H : AHeap} {r n : Nat} {l : List Bool} (hr : H[r]? = some ⟨bools l, true, true⟩) (hn : l.length = n) (hl : n ≤ 1000000000) (i t : Int) (z : ByteArray) : ∃ Z : AHeap, Sound Try.prog 35 [bx i t z (.sl r 0 n 1), .sc (.int .i64 1)] H (.sc (.int .i64 ((1 + n : Nat) : Int))) Z ∧ Z.length = H.length + 1 ∧ (∀ q, q < H.length → q ≠ r → Z[q]? = H[q]?) ∧ Z[r]? = some ⟨bools (mkB 1 n), true, true⟩ := by
  suffices h : ∃ v Z, Sound Try.prog 35 [bx i t z (.sl r 0 n 1), .sc (.int .i64 1)] H v Z ∧ v = .sc (.int .i64 ((1 + n : Nat) : Int)) ∧ Z.length = H.length + 1 ∧ (∀ q, q < H.length → q ≠ r → Z[q]? = H[q]?) ∧ Z[r]? = some ⟨bools (mkB 1 n), true, true⟩ by
    obtain ⟨v, Z, h1, rfl, h2⟩ := h
    exact ⟨Z, h1, h2⟩
  unfold bx
  refine Sound.runP (args := [.agg [.sc (.int .i64 i), .sc (.int .i64 t), .sc (.string z), .sl r 0 n 1], .sc (.int .i64 1)]) 10 [.tmp 4] Try.func35 rfl rfl rfl rfl (by simp) (fun v Z => v = .sc (.int .i64 ((1 + n : Nat) : Int)) ∧ Z.length = H.length + 1 ∧ (∀ q, q < H.length → q ≠ r → Z[q]? = H[q]?) ∧ Z[r]? = some ⟨bools (mkB 1 n), true, true⟩) ?_
  have hm := markBoolsS (H := H ++ [⟨[.sc (.int .i64 i), .sc (.int .i64 t), .sc (.string z), .sl r 0 n 1], true, true⟩]) ((Ext.more H _).at hr) hn hl
  have hrl := at_lt hr
  simp -implicitDefEqProofs only [↓w_seq, ↓w_region, ne_eq, ↓ops_cons, ↓g_box, Nat.reduceLT, ev_tab, par0, cells_agg, ↓g_assign, ↓ops_nil, ev_const, of_int, ↓g_fieldAddrT, Nat.reduceEqDiff, not_false_eq_true, upd_ne, upd_eq, ↓g_load, ↓g_move, par1, alK_some, List.all_cons, one_int, one_str, one_sl, List.all_nil, Bool.and_self, fadr35_3, Nat.zero_add, onS_some, rd_def, tyOk30, agg30, cells30, hap_0, List.getElem?_cons_zero, rd_onec, List.getElem?_cons_succ, true_and]
  refine call1S (by simp -implicitDefEqProofs only [List.map_cons, Nat.reduceLT, ev_tab, ne_eq, Nat.reduceEqDiff, not_false_eq_true, upd_ne, upd_eq, List.map_nil] <;> rfl) hm ?_
  simp -implicitDefEqProofs only [↓ops_cons, ↓g_assign, ↓ops_nil, ↓w_seq, ↓w_region, Nat.reduceLT, ev_tab, upd_eq, ↓g_move, ↓w_ret, retP_1, res_tmp, List.length_set, List.length_append, List.length_cons, List.length_nil, Nat.zero_add, true_and, onS_some]
  refine ⟨fun q h1 h2 => ?_, ?_⟩
  · exact (List.getElem?_set_ne (fun e => h2 e.symm)).trans (at_more _ _ _ h1)
  · exact List.getElem?_set_self (by rw [List.length_append]; omega)
theorem markBoxN (H : AHeap) (i t : Int) (z : ByteArray) : ∃ Z : AHeap, Sound Try.prog 35 [bx i t z (.sc (.slice none 0 0)), .sc (.int .i64 1)] H (.sc (.int .i64 1)) Z ∧ Ext H Z := by
  suffices h : ∃ v Z, Sound Try.prog 35 [bx i t z (.sc (.slice none 0 0)), .sc (.int .i64 1)] H v Z ∧ v = .sc (.int .i64 1) ∧ Ext H Z by
    obtain ⟨v, Z, h1, rfl, h2⟩ := h
    exact ⟨Z, h1, h2⟩
  unfold bx
  refine Sound.runP (args := [.agg [.sc (.int .i64 i), .sc (.int .i64 t), .sc (.string z), .sc (.slice none 0 0)], .sc (.int .i64 1)]) 10 [.tmp 4] Try.func35 rfl rfl rfl rfl (by simp) (fun v Z => v = .sc (.int .i64 1) ∧ Ext H Z) ?_
  simp -implicitDefEqProofs only [↓w_seq, ↓w_region, ↓ops_cons, ↓g_box, Nat.reduceLT, ev_tab, par0, cells_agg, ↓g_assign, ↓ops_nil, ev_const, of_int, ↓g_fieldAddrT, ne_eq, Nat.reduceEqDiff, not_false_eq_true, upd_ne, upd_eq, ↓g_load, ↓g_move, par1, alK_some, List.all_cons, one_int, one_str, one_nil, List.all_nil, Bool.and_self, fadr35_3, Nat.zero_add, onS_some, rd_def, tyOk30, agg30, cells30, hap_0, List.getElem?_cons_zero, rd_onec, List.getElem?_cons_succ, true_and]
  refine call1S (by simp -implicitDefEqProofs only [List.map_cons, Nat.reduceLT, ev_tab, ne_eq, Nat.reduceEqDiff, not_false_eq_true, upd_ne, upd_eq, List.map_nil] <;> rfl) (markBoolsN _) ?_
  simp -implicitDefEqProofs only [↓ops_cons, ↓g_assign, ↓ops_nil, ↓w_seq, ↓w_region, Nat.reduceLT, ev_tab, upd_eq, ↓g_move, ↓w_ret, retP_1, res_tmp, onS_some, true_and]
  exact Ext.more _ _
theorem heldBoxS {H : AHeap} {x : AV} {n : Nat} (hx : IsB H x (mkB 1 n)) (hl : n ≤ 1000000000) (i t : Int) (z : ByteArray) : ∃ Z : AHeap, Sound Try.prog 36 [bx i t z x, .sc (.int .i64 1)] H (.sc (.int .i64 ((1 + n : Nat) : Int))) Z ∧ Ext H Z := by
  suffices h : ∃ v Z, Sound Try.prog 36 [bx i t z x, .sc (.int .i64 1)] H v Z ∧ v = .sc (.int .i64 ((1 + n : Nat) : Int)) ∧ Ext H Z by
    obtain ⟨v, Z, h1, rfl, h2⟩ := h
    exact ⟨Z, h1, h2⟩
  unfold bx
  refine Sound.runP (args := [.agg [.sc (.int .i64 i), .sc (.int .i64 t), .sc (.string z), x], .sc (.int .i64 1)]) 12 [.tmp 4] Try.func36 rfl rfl rfl rfl (by simp) (fun v Z => v = .sc (.int .i64 ((1 + n : Nat) : Int)) ∧ Ext H Z) ?_
  have x1 := hx.one
  have hm := heldBoolsS ((Ext.more H [⟨[.sc (.int .i64 i), .sc (.int .i64 t), .sc (.string z), x], true, true⟩]).isB hx) hl
  have k0 : ¬ ((1 + n : Nat) : Int) < 0 := by omega
  simp -implicitDefEqProofs only [↓w_seq, ↓w_region, Int.reduceNeg, ↓ops_cons, ↓g_box, Nat.reduceLT, ev_tab, par0, cells_agg, ↓g_assign, ↓ops_nil, ev_const, of_int, ↓g_fieldAddrT, ne_eq, Nat.reduceEqDiff, not_false_eq_true, upd_ne, upd_eq, ↓g_load, ↓g_move, par1, alK_some, List.all_cons, one_int, one_str, x1, List.all_nil, Bool.and_self, fadr35_3, Nat.zero_add, onS_some, rd_def, tyOk30, agg30, cells30, hap_0, List.getElem?_cons_zero, rd_onec, List.getElem?_cons_succ, true_and]
  refine call1S (by simp -implicitDefEqProofs only [List.map_cons, Nat.reduceLT, ev_tab, ne_eq, Nat.reduceEqDiff, not_false_eq_true, upd_ne, upd_eq, List.map_nil] <;> rfl) hm ?_
  simp -implicitDefEqProofs only [↓ops_cons, ↓g_assign, ↓ops_nil, ↓w_seq, ↓w_region, Int.reduceNeg, Nat.reduceLT, ev_tab, upd_eq, ↓g_move, ↓g_binOp, ev_const, of_int, b_lss, k0, decide_false, ↓w_cond, ↓w_ret, retP_1, res_tmp, onS_some, ↓w_skip, ne_eq, Nat.reduceEqDiff, not_false_eq_true, upd_ne, true_and, onB_false]
  exact Ext.more _ _
end Go.Proofs.Ytheeehbaholjmaa.Sim

