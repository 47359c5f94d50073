/- The program's flight of a list. -/
import Derived.Test.YtcjjcpdfnndenaaFFlPl
import Derived.Test.YtcjjcpdfnndenaaFFlightLaw
namespace Go.Proofs.Ytcjjcpdfnndenaa.Sim
open Go
set_option maxRecDepth 100000
set_option maxHeartbeats 40000000
set_option linter.unusedSimpArgs false
set_option linter.unusedVariables false
theorem flOfI {H : AHeap} {x : AV} {l : List Int} (hx : IsL H x .i64 l) (hl : l.length ≤ 100000000) : ∃ (v : AV) (Z : AHeap), Sound Try.prog 39 [x] H (flt v (.sc (.slice none 0 0)) 0) Z ∧ Ext H Z ∧ Own Z v (flOf l) ∧ ∀ r o n k, v = .sl r o n k → H.length ≤ r := by
  suffices h : ∃ u Z, Sound Try.prog 39 [x] H u Z ∧ ∃ v, u = flt v (.sc (.slice none 0 0)) 0 ∧ Ext H Z ∧ Own Z v (flOf l) ∧ ∀ r o n k, v = .sl r o n k → H.length ≤ r by
    obtain ⟨u, Z, h1, v, rfl, h2⟩ := h
    exact ⟨v, Z, h1, h2⟩
  unfold flt
  refine Sound.runP (args := [x]) 30 [.cell 2 32] Try.func39 rfl rfl rfl rfl (by simp) (fun u Z => ∃ v, u = .agg [v, .sc (.slice none 0 0), .sc (.int .i64 0)] ∧ Ext H Z ∧ Own Z v (flOf l) ∧ ∀ r o n k, v = .sl r o n k → H.length ≤ r) ?_
  have x1 := hx.one
  obtain ⟨B, hB⟩ : ∃ B : Reg, B = ⟨[.sc (.slice none 0 0), .sc (.slice none 0 0), .sc (.int .i64 0)], true, true⟩ := ⟨_, rfl⟩
  have e0 := Ext.more H [B, B]
  have a0 := hap_0 H [B, B]
  have b0 := hap_k H [B, B] 1
  have lx := fun e => (e0.isL hx).len e
  have n0 : (H ++ [B, B]).length = H.length + 2 := by rw [List.length_append]; rfl
  simp -implicitDefEqProofs only [↓w_seq, ↓w_region, ↓ops_cons, ↓g_alloc, zero32, Option.map_some, ↓ops_nil, ↓g_buildV, List.map_nil, bz32, ↓g_store, Nat.reduceLT, ev_tab, upd_eq, ne_eq, Nat.reduceEqDiff, not_false_eq_true, upd_ne, ↓g_move, ↓g_len, Try.underlying22, reduceCtorEq, par0, ↓w_block, ev_const, of_int, alK_some, List.all_cons, one_nil, one_int, List.all_nil, Bool.and_self, wr_def, tyOk32, cells32, hap_0, List.getElem?_cons_zero, wr_c, Nat.zero_add, List.length_cons, List.length_nil, Nat.reduceAdd, Nat.le_refl, true_and, hset_0, List.set_cons_zero, onS_ite, onS_some, cells_agg, and_self, ovr_fm, ovr_fn, List.length_append, List.append_assoc, List.cons_append, List.nil_append]
  rw [← hB]
  generalize hZ0 : H ++ [B, B] = Z0 at *
  simp -implicitDefEqProofs only [lx, onS_some]
  refine w_loop (ι := Nat) (fun i st => ∃ (T : Nat → AV) (Z : AHeap) (v : AV), st = ⟨tab 30 T, Z⟩ ∧ i ≤ l.length ∧ H.length + 2 ≤ Z.length ∧ (∀ j, j < H.length → Z[j]? = H[j]?) ∧ Z[H.length]? = some B ∧ Z[H.length + 1]? = some ⟨[v, .sc (.slice none 0 0), .sc (.int .i64 0)], true, true⟩ ∧ Own Z v (inR (l.take i)) ∧ (∀ r o n k, v = .sl r o n k → H.length + 2 ≤ r) ∧ T 2 = .ptr H.length 0 ∧ T 3 = .ptr (H.length + 1) 0 ∧ T 7 = x ∧ T 8 = .sc (.int .i64 l.length) ∧ T 9 = .sc (.int .i64 i)) (fun i => l.length - i) ?_ (i := 0) ?_
  · rintro i st ⟨T, Z, v, rfl, a1, ez1, ez2, a2, w3, o3, o4, t2, t3, t7, t8, t9⟩
    have ez : Ext H Z := ⟨by omega, ez2⟩
    have z6 : H.length + 1 < Z.length := by omega
    by_cases h : i < l.length
    · have k1 : (i : Int) < l.length := by omega
      have k2 : (0 : Int) ≤ i := by omega
      have e1 : IntKind.i64.wrap ((i : Int) + 1) = i + 1 := w64 (by omega) (by omega)
      obtain ⟨r, o, hxr, hr⟩ := (ez.isL hx).get (i := i) h
      have hs := inR_s l i h
      have hll := inR_len (l.take i)
      have htl : (l.take i).length = i := by rw [List.length_take]; omega
      generalize inR (l.take i) = O at *
      generalize hv : l.getD i 0 = u at *
      have b1 : (O.length + 1) * 8 ≤ 140737488355328 := by omega
      have b2' : O.length + 1 ≤ 140737488355328 := by omega
      by_cases c1 : 0 ≤ u ∧ u ≤ 9999
      · rw [if_pos c1] at hs
        have w4 : ∀ Y : AHeap, (Z ++ Y)[H.length + 1]? = some ⟨[v, .sc (.slice none 0 0), .sc (.int .i64 0)], true, true⟩ := fun Y => (at_more _ _ _ z6).trans w3
        simp -implicitDefEqProofs only [↓w_seq, ↓w_region, hxr, ↓ops_cons, ↓g_binOp, Nat.reduceLT, ev_tab, t9, t8, b_lss, k1, decide_true, ↓ops_nil, ↓w_cond, upd_eq, ↓w_skip, ↓w_block, ↓g_indexAddr, Try.underlying22, ne_eq, Nat.reduceEqDiff, not_false_eq_true, upd_ne, t7, adr_sl, k2, cells3, tyOk3, and_self, Int.toNat_natCast, Nat.mul_one, Nat.zero_add, if_true, ↓g_load, ↓g_assign, ↓g_move, onS_some, rd_def, agg3, hr, rd_ints, h, hv, ↓w_exit, ↓g_fieldAddrT, t3, fadr32_0, tyOk22, agg22, cells22, onB_true]
        refine call1 (by simp -implicitDefEqProofs only [List.map_cons, Nat.reduceLT, ev_tab, upd_eq, ev_const, of_int, List.map_nil] <;> rfl) (inI u 0 9999) ?_
        rw [decide_eq_true c1]
        rcases o3 with ⟨rfl, hB0⟩ | ⟨q', rfl, hq'⟩
        · subst hB0
          have ws : ∀ Y g, ((Z ++ Y).set (H.length + 1) g)[H.length + 1]? = some g := fun Y g => List.getElem?_set_self (by rw [List.length_append]; omega)
          simp -implicitDefEqProofs only [↓ops_nil, ↓w_cond, Nat.reduceLT, ev_tab, upd_eq, ↓w_region, ↓ops_cons, ↓g_fieldAddrT, ne_eq, Nat.reduceEqDiff, not_false_eq_true, upd_ne, t3, fadr32_0, Nat.zero_add, ↓g_load, ↓g_move, ↓g_buildSlice, Try.underlying22, List.map_cons, List.map_nil, bs3_1, ↓g_append, ↓g_store, ↓g_binOp, t9, ev_const, of_int, b_add, e1, onS_some, wr_def, tyOk22, cells22, alK_some, ints_one, true_and, rd_def, agg22, w3, rd_onec, List.getElem?_cons_zero, apN22, src_sl, at_end, at_ints, List.length_cons, List.length_nil, Nat.le_refl, List.drop_zero, List.take_succ_cons, List.take_zero, if_true, ap_intsN, Nat.reduceMul, Nat.reduceLeDiff, and_self, reduceCtorEq, List.length_append, List.append_assoc, List.cons_append, List.nil_append, if_false, w4, wr_c, cells_sl, Nat.reduceAdd, List.all_cons, one_sl, List.all_nil, Bool.and_self, ovr_fm, ovr_fn, ↓w_skip, onB_true]
          refine ⟨i + 1, by omega, _, _, .sl (Z.length + 1) 0 1 1, rfl, by omega, by rw [List.length_set, List.length_append]; omega, fun j hj => (List.getElem?_set_ne (by omega)).trans ((at_more _ _ _ (by omega)).trans (ez2 j hj)), (List.getElem?_set_ne (by omega)).trans ((at_more _ _ _ (by omega)).trans a2), ws _ _, ?_, fun r o n k e => by (injection e with e1; omega), ?_, ?_, ?_, ?_, ?_⟩
          · rw [hs]
            exact .inr ⟨_, rfl, (List.getElem?_set_ne (by omega)).trans (hap_k _ _ 1)⟩
          all_goals (simp -implicitDefEqProofs only [ne_eq, Nat.reduceEqDiff, not_false_eq_true, upd_ne, t2, t3, t7, hxr, t8, upd_eq] <;> rfl)
        · have hq3 := o4 _ _ _ _ rfl
          have hql := at_lt hq'
          have hq2 : ∀ g : Reg, (Z ++ [g])[q']? = some ⟨ints .i64 O, true, true⟩ := fun g => (at_more _ _ _ hql).trans hq'
          have w6 : ∀ Y Y' : AHeap, (killReg (Z ++ Y) q' ++ Y')[H.length + 1]? = some ⟨[.sl q' 0 O.length 1, .sc (.slice none 0 0), .sc (.int .i64 0)], true, true⟩ := fun Y Y' => (at_more _ _ _ (by rw [kill_len, List.length_append]; omega)).trans ((kill_at _ _ _ (by omega)).trans (w4 Y))
          simp -implicitDefEqProofs only [↓ops_nil, ↓w_cond, Nat.reduceLT, ev_tab, upd_eq, ↓w_region, ↓ops_cons, ↓g_fieldAddrT, ne_eq, Nat.reduceEqDiff, not_false_eq_true, upd_ne, t3, fadr32_0, Nat.zero_add, ↓g_load, ↓g_move, ↓g_buildSlice, Try.underlying22, List.map_cons, List.map_nil, bs3_1, ↓g_append, ↓g_store, ↓g_binOp, t9, ev_const, of_int, b_add, e1, onS_some, wr_def, tyOk22, cells22, alK_some, ints_one, true_and, rd_def, agg22, w3, rd_onec, List.getElem?_cons_zero, apS22, hq2, src_sl, at_end, at_ints, List.length_cons, List.length_nil, Nat.le_refl, List.drop_zero, List.take_succ_cons, List.take_zero, if_true, ap_ints, b1, b2', and_self, List.length_append, List.take_length, w6, wr_c, cells_sl, Nat.reduceAdd, Nat.reduceLeDiff, List.all_cons, one_sl, List.all_nil, Bool.and_self, ovr_fm, ovr_fn, ↓w_skip, onB_true]
          refine ⟨i + 1, by omega, _, _, .sl (Z.length + 1) 0 (O.length + 1) 1, rfl, by omega, by rw [List.length_set, List.length_append, kill_len, List.length_append]; omega, fun j hj => (List.getElem?_set_ne (by omega)).trans ((at_more _ _ _ (by rw [kill_len, List.length_append]; omega)).trans ((kill_at _ _ _ (by omega)).trans ((at_more _ _ _ (by omega)).trans (ez2 j hj)))), (List.getElem?_set_ne (by omega)).trans ((at_more _ _ _ (by rw [kill_len, List.length_append]; omega)).trans ((kill_at _ _ _ (by omega)).trans ((at_more _ _ _ (by omega)).trans a2))), List.getElem?_set_self (by rw [List.length_append, kill_len, List.length_append]; omega), ?_, fun r o n k e => by (injection e with e1; omega), ?_, ?_, ?_, ?_, ?_⟩
          · rw [hs]
            refine .inr ⟨Z.length + 1, by rw [List.length_append]; rfl, (List.getElem?_set_ne (by omega)).trans ?_⟩
            have := at_end (killReg (Z ++ [⟨ints .i64 [u], true, true⟩]) q') ⟨ints .i64 (O ++ [u]), true, true⟩
            rwa [kill_len, List.length_append, List.length_singleton] at this
          all_goals (simp -implicitDefEqProofs only [ne_eq, Nat.reduceEqDiff, not_false_eq_true, upd_ne, t2, t3, t7, hxr, t8, upd_eq] <;> rfl)
      · rw [if_neg c1] at hs
        simp -implicitDefEqProofs only [↓w_seq, ↓w_region, hxr, ↓ops_cons, ↓g_binOp, Nat.reduceLT, ev_tab, t9, t8, b_lss, k1, decide_true, ↓ops_nil, ↓w_cond, upd_eq, ↓w_skip, ↓w_block, ↓g_indexAddr, Try.underlying22, ne_eq, Nat.reduceEqDiff, not_false_eq_true, upd_ne, t7, adr_sl, k2, cells3, tyOk3, and_self, Int.toNat_natCast, Nat.mul_one, Nat.zero_add, if_true, ↓g_load, ↓g_assign, ↓g_move, onS_some, rd_def, agg3, hr, rd_ints, h, hv, ↓w_exit, ↓g_fieldAddrT, t3, fadr32_0, tyOk22, agg22, cells22, onB_true]
        refine call1 (by simp -implicitDefEqProofs only [List.map_cons, Nat.reduceLT, ev_tab, upd_eq, ev_const, of_int, List.map_nil] <;> rfl) (inI u 0 9999) ?_
        rw [decide_eq_false c1]
        simp -implicitDefEqProofs only [↓ops_nil, ↓w_cond, Nat.reduceLT, ev_tab, upd_eq, ↓w_region, ↓ops_cons, ↓g_fieldAddrT, ne_eq, Nat.reduceEqDiff, not_false_eq_true, upd_ne, ↓g_load, ↓g_move, ↓g_buildSlice, Try.underlying22, List.map_cons, List.map_nil, bs3_1, ↓g_append, ↓g_store, ↓g_binOp, t9, ev_const, of_int, b_add, e1, onS_some, alK_some, ints_one, true_and, ↓w_skip, onB_false]
        refine ⟨i + 1, by omega, _, _, v, rfl, by omega, ez1, ez2, a2, w3, by rw [hs]; exact o3, o4, ?_, ?_, ?_, ?_, ?_⟩ <;> simp -implicitDefEqProofs only [ne_eq, Nat.reduceEqDiff, not_false_eq_true, upd_ne, t2, t3, t7, hxr, t8, upd_eq] <;> rfl
    · have k1 : ¬ (i : Int) < l.length := by omega
      have hi : l.take i = l := List.take_of_length_le (by omega)
      rw [hi] at o3
      have hfl := flOf_compact l
      have hsl := srtL_len (inR l)
      have hrl := inR_len l
      generalize inR l = O at *
      have zz : H.length + 2 ≤ Z.length := ez1
      rcases o3 with ⟨rfl, hB0⟩ | ⟨q', rfl, hq'⟩
      · have e0 : flOf l = [] := by rw [← hfl, hB0]; simp [srtL, Lib.compact, Lib.compactUpTo]
        have h1 := sortN Z
        have h2 := compactN Z
        subst hB
        simp -implicitDefEqProofs only [↓w_seq, ↓w_region, ↓ops_cons, ↓g_binOp, Nat.reduceLT, ev_tab, t9, t8, b_lss, k1, decide_false, ↓ops_nil, ↓w_cond, upd_eq, ↓w_skip, ↓w_block, ↓g_indexAddr, Try.underlying22, ne_eq, Nat.reduceEqDiff, not_false_eq_true, upd_ne, ↓g_load, ↓g_assign, ↓g_move, ↓w_exit, ↓g_fieldAddrT, t3, fadr32_0, Nat.zero_add, onS_some, rd_def, tyOk22, agg22, cells22, w3, rd_onec, List.getElem?_cons_zero, if_true, onB_false]
        refine call1S (by simp -implicitDefEqProofs only [List.map_cons, Nat.reduceLT, ev_tab, upd_eq, List.map_nil] <;> rfl) h1 ?_
        simp -implicitDefEqProofs only [↓ops_nil, ↓w_seq, ↓w_region, ↓ops_cons, ↓g_fieldAddrT, Nat.reduceLT, ev_tab, ne_eq, Nat.reduceEqDiff, not_false_eq_true, upd_ne, t3, fadr32_0, Nat.zero_add, ↓g_load, upd_eq, onS_some, rd_def, tyOk22, agg22, cells22, w3, rd_onec, List.getElem?_cons_zero]
        refine call1S (by simp -implicitDefEqProofs only [List.map_cons, Nat.reduceLT, ev_tab, upd_eq, List.map_nil] <;> rfl) h2 ?_
        have ws : ∀ g, (Z.set (H.length + 1) g)[H.length + 1]? = some g := fun g => List.getElem?_set_self (by omega)
        have wa : ∀ g, (Z.set (H.length + 1) g)[H.length]? = Z[H.length]? := fun g => List.getElem?_set_ne (by omega)
        have wb : ∀ Y : AHeap, ∀ g, Z.length = Y.length → (Y.set H.length g)[H.length]? = some g := fun Y g e => List.getElem?_set_self (by omega)
        simp -implicitDefEqProofs only [↓ops_cons, ↓g_fieldAddrT, Nat.reduceLT, ev_tab, ne_eq, Nat.reduceEqDiff, not_false_eq_true, upd_ne, t3, fadr32_0, Nat.zero_add, ↓g_store, upd_eq, ↓ops_nil, ↓w_seq, ↓w_region, ↓g_load, rd_def, tyOk32, agg32, cells32, t2, wr_def, ↓w_ret, retP_1, res_cell, onS_some, tyOk22, cells22, w3, wr_c, cells_nil, List.length_cons, List.length_nil, Nat.reduceAdd, Nat.reduceLeDiff, List.all_cons, one_nil, List.all_nil, Bool.and_self, and_self, ovr_fm, ovr_fn, if_true, ws, rd_aggc, Nat.le_refl, List.drop_zero, List.take_succ_cons, List.take_zero, wa, a2, true_and, onS_ite, cells_agg, one_int]
        rw [List.getElem?_set_self (by rw [List.length_set]; omega)]
        simp -implicitDefEqProofs only [rd_aggc, Nat.zero_add, List.length_cons, List.length_nil, Nat.reduceAdd, Nat.le_refl, List.drop_zero, List.take_succ_cons, List.take_zero, if_true, onS_some]
        exact ⟨_, rfl, ⟨by rw [List.length_set, List.length_set]; omega, fun j hj => by rw [List.getElem?_set_ne (by omega), List.getElem?_set_ne (by omega)]; exact ez2 j hj⟩, by rw [e0]; exact .inl ⟨rfl, rfl⟩, fun r o n k e => by cases e⟩
      · have hq3 := o4 _ _ _ _ rfl
        have hql := at_lt hq'
        have h1 := sortI hq' (by omega)
        obtain ⟨Y, hY⟩ : ∃ Y, Y = Z.set q' ⟨ints .i64 (srtL O), true, true⟩ := ⟨_, rfl⟩
        rw [← hY] at h1
        have hYl : Y.length = Z.length := by rw [hY, List.length_set]
        have y2 : ∀ j, j < H.length + 2 → Y[j]? = Z[j]? := fun j hj => by rw [hY]; exact List.getElem?_set_ne (by omega)
        have y3 := (y2 (H.length + 1) (by omega)).trans w3
        have yq : Y[q']? = some ⟨ints .i64 (srtL O), true, true⟩ := by rw [hY]; exact List.getElem?_set_self hql
        have h2 := compactI yq (by omega)
        rw [hfl, hsl] at h2
        obtain ⟨X, hX⟩ : ∃ X, X = Y.set q' ⟨ints .i64 (flOf l), true, true⟩ := ⟨_, rfl⟩
        rw [← hX] at h2
        have hXl : X.length = Z.length := by rw [hX, List.length_set, hYl]
        have x2 : ∀ j, j < H.length + 2 → X[j]? = Z[j]? := fun j hj => by rw [hX]; exact (List.getElem?_set_ne (by omega)).trans (y2 j hj)
        have x3 := (x2 (H.length + 1) (by omega)).trans w3
        have xa := (x2 H.length (by omega)).trans a2
        have xq : X[q']? = some ⟨ints .i64 (flOf l), true, true⟩ := by rw [hX]; exact List.getElem?_set_self (by omega)
        subst hB
        simp -implicitDefEqProofs only [↓w_seq, ↓w_region, ↓ops_cons, ↓g_binOp, Nat.reduceLT, ev_tab, t9, t8, b_lss, k1, decide_false, ↓ops_nil, ↓w_cond, upd_eq, ↓w_skip, ↓w_block, ↓g_indexAddr, Try.underlying22, ne_eq, Nat.reduceEqDiff, not_false_eq_true, upd_ne, ↓g_load, ↓g_assign, ↓g_move, ↓w_exit, ↓g_fieldAddrT, t3, fadr32_0, Nat.zero_add, onS_some, rd_def, tyOk22, agg22, cells22, w3, rd_onec, List.getElem?_cons_zero, if_true, onB_false]
        refine call1S (by simp -implicitDefEqProofs only [List.map_cons, Nat.reduceLT, ev_tab, upd_eq, List.map_nil] <;> rfl) h1 ?_
        simp -implicitDefEqProofs only [↓ops_nil, ↓w_seq, ↓w_region, ↓ops_cons, ↓g_fieldAddrT, Nat.reduceLT, ev_tab, ne_eq, Nat.reduceEqDiff, not_false_eq_true, upd_ne, t3, fadr32_0, Nat.zero_add, ↓g_load, upd_eq, onS_some, rd_def, tyOk22, agg22, cells22, y3, rd_onec, List.getElem?_cons_zero]
        refine call1S (by simp -implicitDefEqProofs only [List.map_cons, Nat.reduceLT, ev_tab, upd_eq, List.map_nil] <;> rfl) h2 ?_
        have ws : ∀ g, (X.set (H.length + 1) g)[H.length + 1]? = some g := fun g => List.getElem?_set_self (by omega)
        have wa : ∀ g, (X.set (H.length + 1) g)[H.length]? = X[H.length]? := fun g => List.getElem?_set_ne (by omega)
        simp -implicitDefEqProofs only [↓ops_cons, ↓g_fieldAddrT, Nat.reduceLT, ev_tab, ne_eq, Nat.reduceEqDiff, not_false_eq_true, upd_ne, t3, fadr32_0, Nat.zero_add, ↓g_store, upd_eq, ↓ops_nil, ↓w_seq, ↓w_region, ↓g_load, rd_def, tyOk32, agg32, cells32, t2, wr_def, ↓w_ret, retP_1, res_cell, onS_some, tyOk22, cells22, x3, wr_c, cells_sl, List.length_cons, List.length_nil, Nat.reduceAdd, Nat.reduceLeDiff, List.all_cons, one_sl, List.all_nil, Bool.and_self, and_self, ovr_fm, ovr_fn, if_true, ws, rd_aggc, Nat.le_refl, List.drop_zero, List.take_succ_cons, List.take_zero, wa, xa, true_and, onS_ite, cells_agg, one_nil, one_int]
        rw [List.getElem?_set_self (by rw [List.length_set]; omega)]
        simp -implicitDefEqProofs only [rd_aggc, Nat.zero_add, List.length_cons, List.length_nil, Nat.reduceAdd, Nat.le_refl, List.drop_zero, List.take_succ_cons, List.take_zero, if_true, onS_some]
        exact ⟨_, rfl, ⟨by rw [List.length_set, List.length_set]; omega, fun j hj => by rw [List.getElem?_set_ne (by omega), List.getElem?_set_ne (by omega), x2 j (by omega)]; exact ez2 j hj⟩, .inr ⟨q', rfl, by rw [List.getElem?_set_ne (by omega), List.getElem?_set_ne (by omega)]; exact xq⟩, fun r o n k e => by injection e with e1; omega⟩
  · refine ⟨_, _, .sc (.slice none 0 0), rfl, by omega, by omega, fun j hj => e0.2 j hj, a0, ?_, .inl ⟨rfl, rfl⟩, fun r o n k e => (by cases e), ?_, ?_, ?_, ?_, ?_⟩
    · rw [← hB]; exact b0
    all_goals (simp -implicitDefEqProofs only [ne_eq, Nat.reduceEqDiff, not_false_eq_true, upd_ne, upd_eq, Int.cast_ofNat_Int] <;> rfl)
end Go.Proofs.Ytcjjcpdfnndenaa.Sim

