/- A block of ChaCha20, as the reference makes it. -/
import Derived.Test.YtbmadanfpicmiaaFChaBlk
namespace Go.Proofs.Ytbmadanfpicmiaa.Sim
open Go
set_option maxRecDepth 100000
set_option maxHeartbeats 4000000
set_option linter.unusedSimpArgs false
set_option linter.unusedVariables false
theorem chaBlkS0 (own : Bool) (l : List Int) (hl : l.length = 16) (hw : Wd l) : ∃ v Z, Sound Try.prog 26 [.sl 0 0 16 1] [⟨ints .i64 l, own, true⟩] v Z ∧ (v = .sc (.string (chaBlk l)) ∧ Z[0]? = some ⟨ints .i64 l, own, true⟩) := by
  refine Sound.runP (args := [.sl 0 0 16 1]) 94 [.tmp 2] Try.func26 rfl rfl rfl rfl (by simp) (fun v Z => v = .sc (.string (chaBlk l)) ∧ Z[0]? = some ⟨ints .i64 l, own, true⟩) ?_
  have k0 : ∀ j : Nat, (0 : Int) ≤ (j : Int) := fun j => by omega
  simp -implicitDefEqProofs only [↓w_seq, ↓w_region, ↓ops_cons, ↓g_assign, ↓ops_nil, ev_const, of_str, ↓g_move, ↓g_len, Try.underlying26, Nat.reduceLT, ev_tab, ne_eq, reduceCtorEq, not_false_eq_true, upd_ne, par0, upd_eq, len_sl, Int.cast_ofNat_Int, ↓g_binOp, of_int, ↓w_cond, ↓w_ret, retP_1, res_tmp, List.getElem?_cons_zero, and_true, onS_some, ↓w_skip, ↓w_block, b_neq, decide_true, Bool.not_true, onB_false]
  refine w_loop (ι := Nat) (fun i s => ∃ T : Nat → AV, s = ⟨tab 94 T, [⟨ints .i64 l, own, true⟩]⟩ ∧ i ≤ 16 ∧ T 0 = .sl 0 0 16 1 ∧ T 3 = .sc (.int .i64 i)) (fun i => 16 - i) ?_ (i := 0) ?_
  · rintro i s ⟨T, rfl, a1, a2, a3⟩
    by_cases h : i < 16
    · have k1 : (i : Int) < 16 := by omega
      have e1 : IntKind.i64.wrap ((i : Int) + 1) = i + 1 := w64 (by omega) (by omega)
      have hwi := hw i
      simp -implicitDefEqProofs only [↓w_seq, ↓w_region, ↓ops_cons, ↓g_move, ↓g_binOp, Nat.reduceLT, ev_tab, a3, upd_eq, ev_const, of_int, b_lss, k1, decide_true, ↓ops_nil, ↓w_cond, ↓w_skip, ↓w_block, ↓g_indexAddr, Try.underlying26, ne_eq, reduceCtorEq, not_false_eq_true, upd_ne, a2, Nat.reduceEqDiff, adr_sl, k0, Int.cast_ofNat_Int, cells3, tyOk3, and_self, Int.toNat_natCast, Nat.mul_one, Nat.zero_add, if_true, ↓g_load, onS_some, rd_def, agg3, List.getElem?_cons_zero, rd_ints, hl, h, ↓w_exit, ↓g_buildSlice, List.map_nil, bs3_0, ↓g_append, ↓g_assign, alK_some, ints_one, List.length_cons, List.length_nil, List.cons_append, List.nil_append, apS26, List.getElem?_cons_succ, src_sl, at_ints, Nat.le_refl, List.drop_zero, ap_ints, true_and, Nat.reduceAdd, kill_s, kill_0, List.take_zero, onS_ite, onB_true]
      refine call1 (by simp -implicitDefEqProofs only [List.map_cons, Nat.reduceLT, ev_tab, upd_eq, ev_const, of_int, List.map_nil] <;> rfl) (inS _ 0 4294967295) ?_
      have e2 : decide (0 ≤ l.getD i 0 ∧ l.getD i 0 ≤ 4294967295) = true := decide_eq_true (by omega)
      rw [e2]
      simp -implicitDefEqProofs only [↓ops_cons, ↓g_unOp, Nat.reduceLT, ev_tab, upd_eq, u_not, Bool.not_true, Option.map_some, ↓ops_nil, ↓w_cond, ↓w_seq, ↓w_region, ↓g_assign, ↓w_ret, ev_const, of_str, retP_1, res_tmp, List.getElem?_cons_zero, and_true, onS_some, ↓w_skip, ↓g_move, ↓g_binOp, ne_eq, Nat.reduceEqDiff, not_false_eq_true, upd_ne, a3, of_int, b_add, e1, onB_false]
      refine ⟨i + 1, by omega, _, rfl, by omega, ?_, ?_⟩ <;> simp -implicitDefEqProofs only [ne_eq, reduceCtorEq, not_false_eq_true, upd_ne, a2, upd_eq] <;> rfl
    · have k1 : ¬ (i : Int) < 16 := by omega
      have ht : l.take 16 = l := List.take_of_length_le (by omega)
      simp -implicitDefEqProofs only [↓w_seq, ↓w_region, ↓ops_cons, ↓g_move, ↓g_binOp, Nat.reduceLT, ev_tab, a3, upd_eq, ev_const, of_int, b_lss, k1, decide_false, ↓ops_nil, ↓w_cond, ↓w_skip, ↓w_block, ↓g_indexAddr, Try.underlying26, ne_eq, reduceCtorEq, not_false_eq_true, upd_ne, a2, Nat.reduceEqDiff, adr_sl, Int.cast_ofNat_Int, cells3, tyOk3, and_self, and_true, and_false, Nat.mul_one, Nat.zero_add, if_false, ↓g_load, ↓w_exit, ↓g_buildSlice, List.map_nil, bs3_0, ↓g_append, ↓g_assign, alK_some, ints_one, List.length_cons, List.length_nil, List.cons_append, List.nil_append, apS26, List.getElem?_cons_succ, List.getElem?_cons_zero, src_sl, at_ints, hl, Nat.le_refl, List.drop_zero, ht, if_true, ap_ints, Nat.reduceMul, Nat.reduceLeDiff, Nat.reduceAdd, kill_s, kill_0, List.take_zero, onS_some, true_and, onB_false]
      refine w_loop (ι := Nat) (fun n s => ∃ T : Nat → AV, s = ⟨tab 94 T, [⟨ints .i64 l, own, true⟩, ⟨ints .i64 [], true, false⟩, ⟨ints .i64 (dbl l n), true, true⟩]⟩ ∧ n ≤ 10 ∧ T 0 = .sl 0 0 16 1 ∧ T 4 = .sl 2 0 16 1 ∧ T 5 = .sc (.int .i64 n)) (fun n => 10 - n) ?_ (i := 0) ?_
      · rintro n s ⟨T, rfl, b1, b2, b3, b4⟩
        have hdl : (dbl l n).length = 16 := by rw [dbl_len, hl]
        have hdw := dbl_wd hw n
        by_cases hn : n < 10
        · have k2 : (n : Int) < 10 := by omega
          have e1 : IntKind.i64.wrap ((n : Int) + 1) = n + 1 := w64 (by omega) (by omega)
          simp -implicitDefEqProofs only [↓w_seq, ↓w_region, ↓ops_cons, ↓g_move, ↓g_binOp, Nat.reduceLT, ev_tab, b4, upd_eq, ev_const, of_int, b_lss, k2, decide_true, ↓ops_nil, ↓w_cond, ↓w_skip, ↓w_block, ↓g_assign, ↓w_exit, ↓g_buildSlice, Try.underlying22, List.map_nil, bs5_0, alK_some, ints_one, List.length_cons, List.length_nil, Nat.zero_add, Nat.reduceAdd, List.cons_append, List.nil_append, true_and, if_true, onS_some, onB_true]
          refine w_loop (ι := Nat) (fun i s => ∃ T : Nat → AV, s = ⟨tab 94 T, [⟨ints .i64 l, own, true⟩, ⟨ints .i64 [], true, false⟩, ⟨ints .i64 (qts (dbl l n) i), true, true⟩]⟩ ∧ i ≤ 4 ∧ T 0 = .sl 0 0 16 1 ∧ T 4 = .sl 2 0 16 1 ∧ T 5 = .sc (.int .i64 n) ∧ T 6 = .sc (.int .i64 i)) (fun i => 4 - i) ?_ (i := 0) ?_
          · rintro i s ⟨T, rfl, c1, c2, c3, c4, c5⟩
            have hql : (qts (dbl l n) i).length = 16 := by rw [qts_len, hdl]
            by_cases hi : i < 4
            · have k3 : (i : Int) < 4 := by omega
              have f0 : IntKind.i64.wrap ((i : Int) + 1) = i + 1 := w64 (by omega) (by omega)
              have f1 : IntKind.i64.wrap (4 + (i : Int)) = ((4 + i : Nat) : Int) := by rw [w64 (by omega) (by omega)]; omega
              have f2 : IntKind.i64.wrap (8 + (i : Int)) = ((8 + i : Nat) : Int) := by rw [w64 (by omega) (by omega)]; omega
              have f3 : IntKind.i64.wrap (12 + (i : Int)) = ((12 + i : Nat) : Int) := by rw [w64 (by omega) (by omega)]; omega
              simp -implicitDefEqProofs only [↓w_seq, ↓w_region, ↓ops_cons, ↓g_move, ↓g_binOp, Nat.reduceLT, ev_tab, c5, upd_eq, ev_const, of_int, b_lss, k3, decide_true, ↓ops_nil, ↓w_cond, ↓w_skip, ↓w_block, ne_eq, Nat.reduceEqDiff, not_false_eq_true, upd_ne, c3, b_add, f1, f2, f3, onS_some, ↓w_exit, ↓g_assign, c4, ↓g_buildSlice, Try.underlying22, List.map_nil, bs5_0, alK_some, ints_one, List.length_cons, List.length_nil, Nat.zero_add, Nat.reduceAdd, List.cons_append, List.nil_append, true_and, if_false, if_true, onB_true]
              have hQ := quarterS [⟨ints .i64 l, own, true⟩, ⟨ints .i64 [], true, false⟩, ⟨ints .i64 (qts (dbl l n) i), true, true⟩] 2 (qts (dbl l n) i) i (4 + i) (8 + i) (12 + i) (qts_wd hdw i) rfl (by omega) (by omega) (by omega) (by omega)
              rw [hql, qa1 _ i hi] at hQ
              refine call1S (by simp -implicitDefEqProofs only [List.map_cons, Nat.reduceLT, ev_tab, ne_eq, Nat.reduceEqDiff, not_false_eq_true, upd_ne, upd_eq, List.map_nil] <;> rfl) hQ ?_
              simp -implicitDefEqProofs only [↓ops_nil, ↓w_region, List.set_cons_succ, List.set_cons_zero, ↓ops_cons, ↓g_move, ↓g_binOp, Nat.reduceLT, ev_tab, ne_eq, Nat.reduceEqDiff, not_false_eq_true, upd_ne, c5, upd_eq, ev_const, of_int, b_add, f0, ↓g_assign, onS_some]
              refine ⟨i + 1, by omega, _, rfl, by omega, ?_, ?_, ?_, ?_⟩ <;> simp -implicitDefEqProofs only [ne_eq, reduceCtorEq, not_false_eq_true, upd_ne, c2, Nat.reduceEqDiff, c3, c4, upd_eq] <;> rfl
            · have k3 : ¬ (i : Int) < 4 := by omega
              have hi4 : i = 4 := by omega
              subst hi4
              simp -implicitDefEqProofs only [↓w_seq, ↓w_region, Nat.reduceSub, ↓ops_cons, ↓g_move, ↓g_binOp, Nat.reduceLT, ev_tab, c5, Int.cast_ofNat_Int, upd_eq, ev_const, of_int, b_lss, Int.reduceLT, decide_false, ↓ops_nil, ↓w_cond, ↓w_skip, ↓w_block, ne_eq, Nat.reduceEqDiff, not_false_eq_true, upd_ne, c3, b_add, Int.reduceAdd, onS_some, ↓w_exit, ↓g_assign, c4, ↓g_buildSlice, Try.underlying22, List.map_nil, bs5_0, alK_some, ints_one, List.length_cons, List.length_nil, Nat.zero_add, Nat.reduceAdd, List.cons_append, List.nil_append, true_and, if_false, if_true, onB_false]
              refine w_loop (ι := Nat) (fun i s => ∃ T : Nat → AV, s = ⟨tab 94 T, [⟨ints .i64 l, own, true⟩, ⟨ints .i64 [], true, false⟩, ⟨ints .i64 (qts (dbl l n) (4 + i)), true, true⟩]⟩ ∧ i ≤ 4 ∧ T 0 = .sl 0 0 16 1 ∧ T 4 = .sl 2 0 16 1 ∧ T 5 = .sc (.int .i64 n) ∧ T 7 = .sc (.int .i64 i)) (fun i => 4 - i) ?_ (i := 0) ?_
              · rintro i s ⟨T, rfl, d1, d2, d3, d4, d5⟩
                have hql : (qts (dbl l n) (4 + i)).length = 16 := by rw [qts_len, hdl]
                by_cases hi : i < 4
                · have k3 : (i : Int) < 4 := by omega
                  have f0 : IntKind.i64.wrap ((i : Int) + 1) = ((i + 1 : Nat) : Int) := by rw [w64 (by omega) (by omega)]; omega
                  have f02 : IntKind.i64.wrap ((i : Int) + 2) = ((i + 2 : Nat) : Int) := by rw [w64 (by omega) (by omega)]; omega
                  have f03 : IntKind.i64.wrap ((i : Int) + 3) = ((i + 3 : Nat) : Int) := by rw [w64 (by omega) (by omega)]; omega
                  have g1 : ((i + 1 : Nat) : Int).tmod 4 = (((i + 1) % 4 : Nat) : Int) := by rw [Int.tmod_eq_emod_of_nonneg (by omega)]; omega
                  have g2 : ((i + 2 : Nat) : Int).tmod 4 = (((i + 2) % 4 : Nat) : Int) := by rw [Int.tmod_eq_emod_of_nonneg (by omega)]; omega
                  have g3 : ((i + 3 : Nat) : Int).tmod 4 = (((i + 3) % 4 : Nat) : Int) := by rw [Int.tmod_eq_emod_of_nonneg (by omega)]; omega
                  have f1 : IntKind.i64.wrap (4 + (((i + 1) % 4 : Nat) : Int)) = ((4 + (i + 1) % 4 : Nat) : Int) := by rw [w64 (by omega) (by omega)]; omega
                  have f2 : IntKind.i64.wrap (8 + (((i + 2) % 4 : Nat) : Int)) = ((8 + (i + 2) % 4 : Nat) : Int) := by rw [w64 (by omega) (by omega)]; omega
                  have f3 : IntKind.i64.wrap (12 + (((i + 3) % 4 : Nat) : Int)) = ((12 + (i + 3) % 4 : Nat) : Int) := by rw [w64 (by omega) (by omega)]; omega
                  simp -implicitDefEqProofs only [↓w_seq, ↓w_region, ↓ops_cons, ↓g_move, ↓g_binOp, Nat.reduceLT, ev_tab, d5, upd_eq, ev_const, of_int, b_lss, k3, decide_true, ↓ops_nil, ↓w_cond, ↓w_skip, ↓w_block, ne_eq, Nat.reduceEqDiff, not_false_eq_true, upd_ne, d3, b_add, f0, f02, f03, onS_some, b_rem, Int.reduceEq, g3, if_false, f3, g2, f2, g1, f1, ↓w_exit, d4, ↓g_assign, ↓g_buildSlice, Try.underlying22, List.map_nil, bs5_0, alK_some, ints_one, List.length_cons, List.length_nil, Nat.zero_add, Nat.reduceAdd, List.cons_append, List.nil_append, true_and, if_true, onB_true]
                  have hQ := quarterS [⟨ints .i64 l, own, true⟩, ⟨ints .i64 [], true, false⟩, ⟨ints .i64 (qts (dbl l n) (4 + i)), true, true⟩] 2 (qts (dbl l n) (4 + i)) i (4 + (i + 1) % 4) (8 + (i + 2) % 4) (12 + (i + 3) % 4) (qts_wd hdw (4 + i)) rfl (by omega) (by omega) (by omega) (by omega)
                  rw [hql, qa2 _ i hi] at hQ
                  refine call1S (by simp -implicitDefEqProofs only [List.map_cons, Nat.reduceLT, ev_tab, ne_eq, Nat.reduceEqDiff, not_false_eq_true, upd_ne, upd_eq, List.map_nil] <;> rfl) hQ ?_
                  simp -implicitDefEqProofs only [↓ops_nil, ↓w_region, List.set_cons_succ, List.set_cons_zero, ↓ops_cons, ↓g_move, ↓g_binOp, Nat.reduceLT, ev_tab, ne_eq, Nat.reduceEqDiff, not_false_eq_true, upd_ne, d5, upd_eq, ev_const, of_int, b_add, f0, ↓g_assign, onS_some]
                  refine ⟨i + 1, by omega, _, rfl, by omega, ?_, ?_, ?_, ?_⟩ <;> simp -implicitDefEqProofs only [ne_eq, reduceCtorEq, not_false_eq_true, upd_ne, d2, Nat.reduceEqDiff, d3, d4, upd_eq] <;> rfl
                · have k3 : ¬ (i : Int) < 4 := by omega
                  have hi4 : i = 4 := by omega
                  subst hi4
                  simp -implicitDefEqProofs only [↓w_seq, ↓w_region, Nat.reduceSub, Nat.reduceAdd, ↓ops_cons, ↓g_move, ↓g_binOp, Nat.reduceLT, ev_tab, d5, Int.cast_ofNat_Int, upd_eq, ev_const, of_int, b_lss, Int.reduceLT, decide_false, ↓ops_nil, ↓w_cond, ↓w_skip, ↓w_block, ne_eq, Nat.reduceEqDiff, not_false_eq_true, upd_ne, d3, b_add, Int.reduceAdd, onS_some, b_rem, Int.reduceEq, if_false, ↓w_exit, d4, e1, ↓g_assign, ↓g_buildSlice, Try.underlying22, List.map_nil, bs5_0, alK_some, ints_one, List.length_cons, List.length_nil, Nat.zero_add, List.cons_append, List.nil_append, true_and, if_true, onB_false]
                  refine ⟨n + 1, by omega, _, rfl, by omega, ?_, ?_, ?_⟩ <;> simp -implicitDefEqProofs only [ne_eq, reduceCtorEq, not_false_eq_true, upd_ne, d2, Nat.reduceEqDiff, d3, upd_eq] <;> rfl
              · refine ⟨_, rfl, by omega, ?_, ?_, ?_, ?_⟩ <;> simp -implicitDefEqProofs only [ne_eq, reduceCtorEq, not_false_eq_true, upd_ne, c2, Nat.reduceEqDiff, c3, c4, upd_eq, Int.cast_ofNat_Int] <;> rfl
          · refine ⟨_, rfl, by omega, ?_, ?_, ?_, ?_⟩ <;> simp -implicitDefEqProofs only [ne_eq, reduceCtorEq, not_false_eq_true, upd_ne, b2, Nat.reduceEqDiff, b3, b4, upd_eq, Int.cast_ofNat_Int] <;> rfl
        · have k2 : ¬ (n : Int) < 10 := by omega
          have hn10 : n = 10 := by omega
          subst hn10
          generalize hX : dbl l 10 = X at *
          simp -implicitDefEqProofs only [↓w_seq, ↓w_region, Nat.reduceSub, ↓ops_cons, ↓g_move, ↓g_binOp, Nat.reduceLT, ev_tab, b4, Int.cast_ofNat_Int, upd_eq, ev_const, of_int, b_lss, Int.reduceLT, decide_false, ↓ops_nil, ↓w_cond, ↓w_skip, ↓w_block, ↓g_assign, ↓w_exit, ↓g_buildSlice, Try.underlying22, List.map_nil, bs5_0, alK_some, ints_one, List.length_cons, List.length_nil, Nat.zero_add, Nat.reduceAdd, List.cons_append, List.nil_append, true_and, if_true, onS_some, onB_false]
          refine w_loop (ι := Nat) (fun i s => ∃ (T : Nat → AV) (G : AHeap), s = ⟨tab 94 T, ⟨ints .i64 l, own, true⟩ :: ⟨ints .i64 [], true, false⟩ :: ⟨ints .i64 X, true, true⟩ :: (G ++ [⟨ints .u8 (sumL X l i), true, true⟩])⟩ ∧ i ≤ 16 ∧ T 0 = .sl 0 0 16 1 ∧ T 4 = .sl 2 0 16 1 ∧ T 8 = .sl (G.length + 1 + 1 + 1) 0 (4 * i) 1 ∧ T 9 = .sc (.int .i64 i)) (fun i => 16 - i) ?_ (i := 0) ?_
          · rintro i s ⟨T, G, rfl, d1, d2, d3, d4, d5⟩
            have hsl := sumL_len X l i
            by_cases hi : i < 16
            · have k3 : (i : Int) < 16 := by omega
              have f0 : IntKind.i64.wrap ((i : Int) + 1) = i + 1 := w64 (by omega) (by omega)
              have hx := hdw i
              have hy := hw i
              have f1 : IntKind.i64.wrap (X.getD i 0 + l.getD i 0) = X.getD i 0 + l.getD i 0 := w64 (by omega) (by omega)
              simp -implicitDefEqProofs only [↓w_seq, ↓w_region, ↓ops_cons, ↓g_move, ↓g_binOp, Nat.reduceLT, ev_tab, d5, upd_eq, ev_const, of_int, b_lss, k3, decide_true, ↓ops_nil, ↓w_cond, ↓w_skip, ↓w_block, ↓w_exit, ↓g_convert, Try.underlying22, Try.underlying9, ne_eq, Nat.reduceEqDiff, not_false_eq_true, upd_ne, d4, ↓g_assign, ↓w_ret, retP_1, res_tmp, onS_some, c_text, isU5, and_self, at_def, List.getElem?_cons_succ, at_end, at_ints, Nat.zero_add, List.drop_zero, if_true, List.getElem?_cons_zero, and_true, onB_true]
              refine drawn [(3, 0), (7, 0)] follows (by kernel_rfl) (by kernel_rfl) ?_
              simp -implicitDefEqProofs only [↓dops_cons, ↓g_move, ↓g_indexAddr, Try.underlying26, Nat.reduceLT, ev_tab, ne_eq, Nat.reduceEqDiff, not_false_eq_true, upd_ne, d3, d5, upd_eq, adr_sl, k0, Int.cast_ofNat_Int, k3, cells3, tyOk3, and_self, Int.toNat_natCast, Nat.mul_one, Nat.zero_add, if_true, ↓g_load, reduceCtorEq, d2, ↓g_binOp, onS_some, rd_def, agg3, List.getElem?_cons_zero, rd_ints, hl, hi, List.getElem?_cons_succ, hdl, b_add, f1]
              refine call1 (by simp -implicitDefEqProofs only [List.map_cons, Nat.reduceLT, ev_tab, upd_eq, List.map_nil] <;> rfl) (cutAll _) ?_
              simp -implicitDefEqProofs only [↓dops_cons, ↓g_assign, ↓dops_p, Nat.reduceLT, ev_tab, upd_eq, ↓w_region, ↓ops_cons, ↓g_move, ↓g_convert, Try.underlying3, Try.underlying5, ne_eq, Nat.reduceEqDiff, not_false_eq_true, upd_ne, d4, ↓g_binOp, ev_const, of_int, b_shr, Int.reduceLT, Int.reduceToNat, bits_i64, Nat.reduceLeDiff, Nat.min_eq_left, Int.reducePow, if_false, ↓g_buildSlice, Try.underlying22, List.map_cons, List.map_nil, ↓g_append, apS22, ↓ops_nil, d5, b_add, onS_some, c_int, bs5_4, alK_some, ints_one, List.cons_append, List.getElem?_cons_succ, at_a, List.length_cons, List.length_append, List.length_nil, Nat.zero_add, src_sl, at_b, at_ints, Nat.reduceAdd, Nat.le_refl, List.drop_zero, List.take_succ_cons, List.take_zero, if_true, ap_ints, Nat.mul_one, and_self, kill_s, onS_ite, true_and]
              refine ⟨pairs_cons (same_H rfl) (pairs_cons (same_H rfl) (pairs_nil)), ?_⟩
              generalize hv : X.getD i 0 + l.getD i 0 = v at *
              have u0 : IntKind.u8.wrap (v % 4294967296) = v / 1 % 256 := by rw [IntKind.wrap_u8]; omega
              have u1 : IntKind.u8.wrap (v % 4294967296 / 256) = v / 256 % 256 := by rw [IntKind.wrap_u8]; omega
              have u2 : IntKind.u8.wrap (v % 4294967296 / 65536) = v / 65536 % 256 := by rw [IntKind.wrap_u8]; omega
              have u3 : IntKind.u8.wrap (v % 4294967296 / 16777216) = v / 16777216 % 256 := by rw [IntKind.wrap_u8]; omega
              have hcs : (sumL X l i).take (4 * i) ++ [v / 1 % 256, v / 256 % 256, v / 65536 % 256, v / 16777216 % 256] = sumL X l (i + 1) := by rw [List.take_of_length_le (by omega), sumL, hv, lo4]
              simp -implicitDefEqProofs only [hsl, Nat.le_refl, true_and, u0, u1, u2, u3, f0, hcs]
              refine ⟨by omega, i + 1, by omega, _, _, rfl, by omega, ?_, ?_, ?_, ?_⟩
              · simp -implicitDefEqProofs only [ne_eq, reduceCtorEq, not_false_eq_true, upd_ne, d2]
              · simp -implicitDefEqProofs only [ne_eq, Nat.reduceEqDiff, not_false_eq_true, upd_ne, d3]
              · simp -implicitDefEqProofs only [ne_eq, Nat.reduceEqDiff, not_false_eq_true, upd_ne, upd_eq, kill_len, List.length_append, List.length_cons, List.length_nil, Nat.zero_add]
                rfl
              · simp -implicitDefEqProofs only [upd_eq] <;> rfl
            · have k3 : ¬ (i : Int) < 16 := by omega
              have hi16 : i = 16 := by omega
              subst hi16
              have ht64 : (sumL X l 16).take 64 = sumL X l 16 := List.take_of_length_le (by omega)
              simp -implicitDefEqProofs only [↓w_seq, ↓w_region, Nat.reduceSub, ↓ops_cons, ↓g_move, ↓g_binOp, Nat.reduceLT, ev_tab, d5, Int.cast_ofNat_Int, upd_eq, ev_const, of_int, b_lss, Int.reduceLT, decide_false, ↓ops_nil, ↓w_cond, ↓w_skip, ↓w_block, ↓w_exit, ↓g_convert, Try.underlying22, Try.underlying9, ne_eq, Nat.reduceEqDiff, not_false_eq_true, upd_ne, d4, Nat.reduceMul, ↓g_assign, ↓w_ret, retP_1, res_tmp, onS_some, c_text, isU5, and_self, at_def, List.getElem?_cons_succ, at_end, at_ints, Nat.zero_add, hsl, Nat.le_refl, List.drop_zero, ht64, if_true, Option.bind_some, bytesA_ints, Option.map_some, List.getElem?_cons_zero, and_true, onB_false]
              rw [chaBlk, blkL, hX]
          · refine ⟨_, [], rfl, by omega, ?_, ?_, ?_, ?_⟩ <;> simp -implicitDefEqProofs only [ne_eq, reduceCtorEq, not_false_eq_true, upd_ne, b2, Nat.reduceEqDiff, b3, upd_eq, List.length_nil, Nat.zero_add, Nat.reduceAdd, Nat.reduceMul, Int.cast_ofNat_Int] <;> rfl
      · refine ⟨_, rfl, by omega, ?_, ?_, ?_⟩ <;> simp -implicitDefEqProofs only [ne_eq, reduceCtorEq, not_false_eq_true, upd_ne, a2, Nat.reduceEqDiff, upd_eq, Int.cast_ofNat_Int] <;> rfl
  · refine ⟨_, rfl, by omega, ?_, ?_⟩ <;> simp -implicitDefEqProofs only [ne_eq, reduceCtorEq, not_false_eq_true, upd_ne, par0, upd_eq, Int.cast_ofNat_Int] <;> rfl
end Go.Proofs.Ytbmadanfpicmiaa.Sim

