/- Whether a box is whole. -/
import Derived.Test.YtheeehbaholjmaaFBox
namespace Go.Proofs.Ytheeehbaholjmaa.Sim
open Go
set_option maxRecDepth 100000
set_option maxHeartbeats 4000000
set_option linter.unusedSimpArgs false
set_option linter.unusedVariables false
def allT (l : List Bool) : Prop := ∀ j, j < l.length → l.getD j false = true
def bwV (w : Bool) (z : ByteArray) : AV := .tup [.sc (.string (if w = true then z else ByteArray.empty)), .sc (.bool w)]
theorem bwI {H : AHeap} {x : AV} {l : List Bool} (hx : IsB H x l) (hl : l.length ≤ 1000000000) (i t : Int) (z : ByteArray) (w : Bool) (hw : w = true ↔ (okBx i t z l.length ∧ allT l)) : ∃ Z : AHeap, Sound Try.prog 18 [bx i t z x] H (bwV w z) Z ∧ Ext H Z := by
  suffices h : ∃ v Z, Sound Try.prog 18 [bx i t z x] H v Z ∧ v = bwV w z ∧ Ext H Z by
    obtain ⟨v, Z, h1, rfl, h2⟩ := h
    exact ⟨Z, h1, h2⟩
  refine Sound.runP (args := [bx i t z x]) 21 [.tmp 2, .tmp 3] Try.func18 rfl rfl rfl rfl (by simp) (fun v Z => v = bwV w z ∧ Ext H Z) ?_
  have x1 := hx.one
  have lx := fun e => hx.len e
  by_cases hp : okBx i t z l.length
  · obtain ⟨Z, z1, z2⟩ := boxOkI ((Ext.more H [⟨[.sc (.int .i64 i), .sc (.int .i64 t), .sc (.string z), x], true, true⟩]).isB hx) i t z true (by simp [hp])
    have e0 : Ext H Z := (Ext.more H _).trans z2
    have hZ := z2.at (hap_0 H [⟨[.sc (.int .i64 i), .sc (.int .i64 t), .sc (.string z), x], true, true⟩])
    unfold bx at z1 ⊢
    simp -implicitDefEqProofs only [↓w_seq, ↓w_region, ↓ops_cons, ↓g_box, Nat.reduceLT, ev_tab, par0, cells_agg, ↓g_assign, ↓ops_nil, ev_const, of_str, of_bool, ↓g_load, ne_eq, Nat.reduceEqDiff, not_false_eq_true, upd_ne, upd_eq, alK_some, List.all_cons, one_int, one_str, x1, List.all_nil, Bool.and_self, rd_def, tyOk35, agg35, cells35, hap_0, List.getElem?_cons_zero, rd_aggc, Nat.zero_add, List.length_cons, List.length_nil, Nat.reduceAdd, Nat.le_refl, List.drop_zero, List.take_succ_cons, List.take_zero, if_true, onS_some, true_and]
    refine call1S (by simp -implicitDefEqProofs only [List.map_cons, Nat.reduceLT, ev_tab, upd_eq, List.map_nil] <;> rfl) z1 ?_
    simp -implicitDefEqProofs only [↓ops_cons, ↓g_unOp, Nat.reduceLT, ev_tab, upd_eq, u_not, Bool.not_true, Option.map_some, ↓ops_nil, ↓w_cond, ↓w_seq, ↓w_region, ↓g_assign, ↓w_ret, ev_const, of_str, of_bool, retP_2, res_tmp, ne_eq, Nat.reduceEqDiff, not_false_eq_true, upd_ne, onS_some, ↓w_skip, ↓g_fieldAddrT, fadr35_3, Nat.zero_add, ↓g_load, ↓g_len, Try.underlying30, ↓g_move, ↓w_block, of_int, rd_def, tyOk30, agg30, cells30, hZ, rd_onec, List.getElem?_cons_succ, List.getElem?_cons_zero, lx, onB_false]
    refine w_loop (ι := Nat) (fun k s => ∃ T : Nat → AV, s = ⟨tab 21 T, Z⟩ ∧ k ≤ l.length ∧ (∀ j, j < k → l.getD j false = true) ∧ T 1 = .ptr H.length 0 ∧ T 10 = x ∧ T 11 = .sc (.int .i64 l.length) ∧ T 12 = .sc (.int .i64 k)) (fun k => l.length - k) ?_ (i := 0) ?_
    · rintro k s ⟨T, rfl, a1, a2, a3, a4, a5, a6⟩
      by_cases hk : k < l.length
      · have k1 : (k : Int) < l.length := by omega
        have k2 : (0 : Int) ≤ k := by omega
        have e1 : IntKind.i64.wrap ((k : Int) + 1) = k + 1 := w64 (by omega) (by omega)
        obtain ⟨r, o, rfl, hr⟩ := (e0.isB hx).get hk
        by_cases hb : l.getD k false = true
        · simp -implicitDefEqProofs only [↓w_seq, ↓w_region, ↓ops_cons, ↓g_binOp, Nat.reduceLT, ev_tab, a6, a5, b_lss, k1, decide_true, ↓ops_nil, ↓w_cond, upd_eq, ↓w_skip, ↓w_block, ↓g_indexAddr, Try.underlying30, ne_eq, Nat.reduceEqDiff, not_false_eq_true, upd_ne, a4, adr_sl, k2, cells4, tyOk4, and_self, Int.toNat_natCast, Nat.mul_one, Nat.zero_add, if_true, ↓g_load, ↓g_assign, ↓g_move, ↓g_unOp, ↓w_ret, ev_const, of_str, of_bool, retP_2, res_tmp, onS_some, of_int, b_add, e1, rd_def, agg4, hr, rd_bools, hk, hb, u_not, Bool.not_true, Option.map_some, onB_false, ↓w_exit, ↓g_fieldAddrT, a3, fadr35_2, tyOk9, agg9, cells9, onB_true]
          refine ⟨k + 1, by omega, _, rfl, by omega, ?_, ?_, ?_, ?_, ?_⟩
          · intro j hj
            rcases Nat.lt_or_ge j k with q | q
            · exact a2 j q
            · obtain rfl : j = k := by omega
              exact hb
          all_goals (simp -implicitDefEqProofs only [ne_eq, Nat.reduceEqDiff, not_false_eq_true, upd_ne, a3, a4, a5, upd_eq] <;> rfl)
        · have hb2 : l.getD k false = false := by simpa using hb
          have hwf : w = false := by
            cases w with
            | false => rfl
            | true => exact absurd ((hw.1 rfl).2 k hk) hb
          simp -implicitDefEqProofs only [↓w_seq, ↓w_region, bwV, hwf, Bool.false_eq_true, if_false, ↓ops_cons, ↓g_binOp, Nat.reduceLT, ev_tab, a6, a5, b_lss, k1, decide_true, ↓ops_nil, ↓w_cond, upd_eq, ↓w_skip, ↓w_block, ↓g_indexAddr, Try.underlying30, ne_eq, Nat.reduceEqDiff, not_false_eq_true, upd_ne, a4, adr_sl, k2, cells4, tyOk4, and_self, Int.toNat_natCast, Nat.mul_one, Nat.zero_add, if_true, ↓g_load, ↓g_assign, ↓g_move, ↓g_unOp, ↓w_ret, ev_const, of_str, of_bool, retP_2, res_tmp, onS_some, of_int, b_add, rd_def, agg4, hr, rd_bools, hk, hb2, u_not, Bool.not_false, Option.map_some, onB_true, ↓w_exit, ↓g_fieldAddrT, a3, fadr35_2, tyOk9, agg9, cells9]
          exact ⟨rfl, e0⟩
      · have k1 : ¬ (k : Int) < l.length := by omega
        have hwt : w = true := hw.2 ⟨hp, fun j hj => a2 j (by omega)⟩
        simp -implicitDefEqProofs only [↓w_seq, ↓w_region, bwV, hwt, if_true, ↓ops_cons, ↓g_binOp, Nat.reduceLT, ev_tab, a6, a5, b_lss, k1, decide_false, ↓ops_nil, ↓w_cond, upd_eq, ↓w_skip, ↓w_block, ↓g_indexAddr, Try.underlying30, ne_eq, Nat.reduceEqDiff, not_false_eq_true, upd_ne, a4, ↓g_load, ↓g_assign, ↓g_move, ↓g_unOp, ↓w_ret, ev_const, of_str, of_bool, retP_2, res_tmp, onS_some, of_int, b_add, ↓w_exit, ↓g_fieldAddrT, a3, fadr35_2, Nat.zero_add, rd_def, tyOk9, agg9, cells9, hZ, rd_onec, List.getElem?_cons_succ, List.getElem?_cons_zero, true_and, onB_false]
        exact e0
    · refine ⟨_, rfl, by omega, fun j hj => by omega, ?_, ?_, ?_, ?_⟩ <;> simp -implicitDefEqProofs only [ne_eq, Nat.reduceEqDiff, not_false_eq_true, upd_ne, upd_eq, Int.cast_ofNat_Int] <;> rfl
  · obtain ⟨Z, z1, z2⟩ := boxOkI ((Ext.more H [⟨[.sc (.int .i64 i), .sc (.int .i64 t), .sc (.string z), x], true, true⟩]).isB hx) i t z false (by simp [hp])
    have hwf : w = false := by
      cases w with
      | false => rfl
      | true => exact absurd (hw.1 rfl).1 hp
    unfold bx at z1 ⊢
    simp -implicitDefEqProofs only [↓w_seq, ↓w_region, ↓ops_cons, ↓g_box, Nat.reduceLT, ev_tab, par0, cells_agg, ↓g_assign, ↓ops_nil, ev_const, of_str, of_bool, ↓g_load, ne_eq, Nat.reduceEqDiff, not_false_eq_true, upd_ne, upd_eq, alK_some, List.all_cons, one_int, one_str, x1, List.all_nil, Bool.and_self, rd_def, tyOk35, agg35, cells35, hap_0, List.getElem?_cons_zero, rd_aggc, Nat.zero_add, List.length_cons, List.length_nil, Nat.reduceAdd, Nat.le_refl, List.drop_zero, List.take_succ_cons, List.take_zero, if_true, onS_some, true_and]
    refine call1S (by simp -implicitDefEqProofs only [List.map_cons, Nat.reduceLT, ev_tab, upd_eq, List.map_nil] <;> rfl) z1 ?_
    simp -implicitDefEqProofs only [↓ops_cons, ↓g_unOp, Nat.reduceLT, ev_tab, upd_eq, u_not, Bool.not_false, Option.map_some, ↓ops_nil, ↓w_cond, ↓w_seq, ↓w_region, bwV, hwf, Bool.false_eq_true, if_false, ↓g_assign, ↓w_ret, ev_const, of_str, of_bool, retP_2, res_tmp, ne_eq, Nat.reduceEqDiff, not_false_eq_true, upd_ne, onS_some, ↓w_skip, ↓g_fieldAddrT, fadr35_3, Nat.zero_add, ↓g_load, ↓g_len, Try.underlying30, ↓g_move, ↓w_block, of_int, rd_def, tyOk30, agg30, cells30, onB_true]
    exact ⟨rfl, (Ext.more H _).trans z2⟩
theorem bwS {H : AHeap} {x : AV} {l : List Bool} (hx : IsB H x l) (hl : l.length ≤ 1000000000) (i t : Int) (z : ByteArray) (w : Bool) (hw : w = true ↔ (okBx i t z l.length ∧ allT l)) : ∃ Z : AHeap, Sound Try.prog 16 [bx i t z x] H (bwV w z) Z ∧ Ext H Z := by
  suffices h : ∃ v Z, Sound Try.prog 16 [bx i t z x] H v Z ∧ v = bwV w z ∧ Ext H Z by
    obtain ⟨v, Z, h1, rfl, h2⟩ := h
    exact ⟨Z, h1, h2⟩
  refine Sound.runP (args := [bx i t z x]) 23 [.tmp 2, .tmp 3] Try.func16 rfl rfl rfl rfl (by simp) (fun v Z => v = bwV w z ∧ Ext H Z) ?_
  have x1 := hx.one
  have lx := fun e => hx.len e
  by_cases hp : okBx i t z l.length
  · obtain ⟨Z, z1, z2⟩ := boxOkS ((Ext.more H [⟨[.sc (.int .i64 i), .sc (.int .i64 t), .sc (.string z), x], true, true⟩]).isB hx) i t z true (by simp [hp])
    have e0 : Ext H Z := (Ext.more H _).trans z2
    have hZ := z2.at (hap_0 H [⟨[.sc (.int .i64 i), .sc (.int .i64 t), .sc (.string z), x], true, true⟩])
    unfold bx at z1 ⊢
    simp -implicitDefEqProofs only [↓w_seq, ↓w_region, ↓ops_cons, ↓g_box, Nat.reduceLT, ev_tab, par0, cells_agg, ↓g_assign, ↓ops_nil, ev_const, of_str, of_bool, ↓g_load, ne_eq, Nat.reduceEqDiff, not_false_eq_true, upd_ne, upd_eq, alK_some, List.all_cons, one_int, one_str, x1, List.all_nil, Bool.and_self, rd_def, tyOk35, agg35, cells35, hap_0, List.getElem?_cons_zero, rd_aggc, Nat.zero_add, List.length_cons, List.length_nil, Nat.reduceAdd, Nat.le_refl, List.drop_zero, List.take_succ_cons, List.take_zero, if_true, onS_some, true_and]
    refine call1S (by simp -implicitDefEqProofs only [List.map_cons, Nat.reduceLT, ev_tab, upd_eq, List.map_nil] <;> rfl) z1 ?_
    simp -implicitDefEqProofs only [↓ops_cons, ↓g_unOp, Nat.reduceLT, ev_tab, upd_eq, u_not, Bool.not_true, Option.map_some, ↓ops_nil, ↓w_cond, ↓w_seq, ↓w_region, ↓g_assign, ↓w_ret, ev_const, of_str, of_bool, retP_2, res_tmp, ne_eq, Nat.reduceEqDiff, not_false_eq_true, upd_ne, onS_some, ↓w_skip, ↓w_block, of_int, onB_false]
    refine w_loop (ι := Nat) (fun k s => ∃ T : Nat → AV, s = ⟨tab 23 T, Z⟩ ∧ k ≤ l.length ∧ (∀ j, j < k → l.getD j false = true) ∧ T 1 = .ptr H.length 0 ∧ T 4 = .sc (.int .i64 k)) (fun k => l.length - k) ?_ (i := 0) ?_
    · rintro k s ⟨T, rfl, a1, a2, a3, a4⟩
      by_cases hk : k < l.length
      · have k1 : (k : Int) < l.length := by omega
        have k2 : (0 : Int) ≤ k := by omega
        have e1 : IntKind.i64.wrap ((k : Int) + 1) = k + 1 := w64 (by omega) (by omega)
        obtain ⟨r, o, rfl, hr⟩ := (e0.isB hx).get hk
        by_cases hb : l.getD k false = true
        · simp -implicitDefEqProofs only [↓w_seq, ↓w_region, ↓ops_cons, ↓g_move, ↓g_fieldAddrT, Nat.reduceLT, ev_tab, a4, ne_eq, Nat.reduceEqDiff, not_false_eq_true, upd_ne, a3, fadr35_3, Nat.zero_add, ↓g_load, upd_eq, ↓g_len, Try.underlying30, ↓g_binOp, ↓ops_nil, ↓w_cond, ↓w_skip, ↓w_block, ↓g_indexAddr, ↓g_unOp, ↓g_assign, ↓w_ret, ev_const, of_str, of_bool, retP_2, res_tmp, onS_some, of_int, b_add, e1, rd_def, tyOk30, agg30, cells30, hZ, rd_onec, List.getElem?_cons_succ, List.getElem?_cons_zero, adr_sl, k2, k1, cells4, tyOk4, and_self, Int.toNat_natCast, Nat.mul_one, if_true, agg4, hr, rd_bools, hk, hb, u_not, Bool.not_true, Option.map_some, onB_false, ↓w_exit, fadr35_2, tyOk9, agg9, cells9, lx, b_lss, decide_true, onB_true]
          refine ⟨k + 1, by omega, _, rfl, by omega, ?_, ?_, ?_⟩
          · intro j hj
            rcases Nat.lt_or_ge j k with q | q
            · exact a2 j q
            · obtain rfl : j = k := by omega
              exact hb
          all_goals (simp -implicitDefEqProofs only [ne_eq, Nat.reduceEqDiff, not_false_eq_true, upd_ne, a3, upd_eq] <;> rfl)
        · have hb2 : l.getD k false = false := by simpa using hb
          have hwf : w = false := by
            cases w with
            | false => rfl
            | true => exact absurd ((hw.1 rfl).2 k hk) hb
          simp -implicitDefEqProofs only [↓w_seq, ↓w_region, bwV, hwf, Bool.false_eq_true, if_false, ↓ops_cons, ↓g_move, ↓g_fieldAddrT, Nat.reduceLT, ev_tab, a4, ne_eq, Nat.reduceEqDiff, not_false_eq_true, upd_ne, a3, fadr35_3, Nat.zero_add, ↓g_load, upd_eq, ↓g_len, Try.underlying30, ↓g_binOp, ↓ops_nil, ↓w_cond, ↓w_skip, ↓w_block, ↓g_indexAddr, ↓g_unOp, ↓g_assign, ↓w_ret, ev_const, of_str, of_bool, retP_2, res_tmp, onS_some, of_int, b_add, rd_def, tyOk30, agg30, cells30, hZ, rd_onec, List.getElem?_cons_succ, List.getElem?_cons_zero, adr_sl, k2, k1, cells4, tyOk4, and_self, Int.toNat_natCast, Nat.mul_one, if_true, agg4, hr, rd_bools, hk, hb2, u_not, Bool.not_false, Option.map_some, onB_true, ↓w_exit, fadr35_2, tyOk9, agg9, cells9, lx, b_lss, decide_true]
          exact ⟨rfl, e0⟩
      · have k1 : ¬ (k : Int) < l.length := by omega
        have hwt : w = true := hw.2 ⟨hp, fun j hj => a2 j (by omega)⟩
        simp -implicitDefEqProofs only [↓w_seq, ↓w_region, bwV, hwt, if_true, ↓ops_cons, ↓g_move, ↓g_fieldAddrT, Nat.reduceLT, ev_tab, a4, ne_eq, Nat.reduceEqDiff, not_false_eq_true, upd_ne, a3, fadr35_3, Nat.zero_add, ↓g_load, upd_eq, ↓g_len, Try.underlying30, ↓g_binOp, ↓ops_nil, ↓w_cond, ↓w_skip, ↓w_block, ↓g_indexAddr, ↓g_unOp, ↓g_assign, ↓w_ret, ev_const, of_str, of_bool, retP_2, res_tmp, onS_some, of_int, b_add, rd_def, tyOk30, agg30, cells30, hZ, rd_onec, List.getElem?_cons_succ, List.getElem?_cons_zero, ↓w_exit, fadr35_2, tyOk9, agg9, cells9, true_and, lx, b_lss, k1, decide_false, onB_false]
        exact e0
    · refine ⟨_, rfl, by omega, fun j hj => by omega, ?_, ?_⟩ <;> simp -implicitDefEqProofs only [ne_eq, Nat.reduceEqDiff, not_false_eq_true, upd_ne, upd_eq, Int.cast_ofNat_Int] <;> rfl
  · obtain ⟨Z, z1, z2⟩ := boxOkS ((Ext.more H [⟨[.sc (.int .i64 i), .sc (.int .i64 t), .sc (.string z), x], true, true⟩]).isB hx) i t z false (by simp [hp])
    have hwf : w = false := by
      cases w with
      | false => rfl
      | true => exact absurd (hw.1 rfl).1 hp
    unfold bx at z1 ⊢
    simp -implicitDefEqProofs only [↓w_seq, ↓w_region, ↓ops_cons, ↓g_box, Nat.reduceLT, ev_tab, par0, cells_agg, ↓g_assign, ↓ops_nil, ev_const, of_str, of_bool, ↓g_load, ne_eq, Nat.reduceEqDiff, not_false_eq_true, upd_ne, upd_eq, alK_some, List.all_cons, one_int, one_str, x1, List.all_nil, Bool.and_self, rd_def, tyOk35, agg35, cells35, hap_0, List.getElem?_cons_zero, rd_aggc, Nat.zero_add, List.length_cons, List.length_nil, Nat.reduceAdd, Nat.le_refl, List.drop_zero, List.take_succ_cons, List.take_zero, if_true, onS_some, true_and]
    refine call1S (by simp -implicitDefEqProofs only [List.map_cons, Nat.reduceLT, ev_tab, upd_eq, List.map_nil] <;> rfl) z1 ?_
    simp -implicitDefEqProofs only [↓ops_cons, ↓g_unOp, Nat.reduceLT, ev_tab, upd_eq, u_not, Bool.not_false, Option.map_some, ↓ops_nil, ↓w_cond, ↓w_seq, ↓w_region, bwV, hwf, Bool.false_eq_true, if_false, ↓g_assign, ↓w_ret, ev_const, of_str, of_bool, retP_2, res_tmp, ne_eq, Nat.reduceEqDiff, not_false_eq_true, upd_ne, onS_some, ↓w_skip, ↓w_block, of_int, onB_true]
    exact ⟨rfl, (Ext.more H _).trans z2⟩
end Go.Proofs.Ytheeehbaholjmaa.Sim

