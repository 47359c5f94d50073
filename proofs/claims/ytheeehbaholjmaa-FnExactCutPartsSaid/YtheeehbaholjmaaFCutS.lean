/- A text cut into parts, as the reference cuts it. -/
import Derived.Test.YtheeehbaholjmaaFCutP
namespace Go.Proofs.Ytheeehbaholjmaa.Sim
open Go
set_option maxRecDepth 100000
set_option maxHeartbeats 4000000
set_option linter.unusedSimpArgs false
set_option linter.unusedVariables false
theorem cutPS (i : Int) (z : ByteArray) (s : Nat) (h : okCut i z s) (H : AHeap) : ∃ (q : Nat) (Z : AHeap), Sound Try.prog 20 [.sc (.int .i64 i), .sc (.string z), .sc (.int .i64 s)] H (.tup [.sl q 0 (cutN z s) 4, .sc (.bool true)]) Z ∧ Ext H Z ∧ H.length ≤ q ∧ Z[q]? = some ⟨rows pcs (cutP i z s (cutN z s)), true, true⟩ := by
  suffices hh : ∃ v Z, Sound Try.prog 20 [.sc (.int .i64 i), .sc (.string z), .sc (.int .i64 s)] H v Z ∧ ∃ q, v = .tup [.sl q 0 (cutN z s) 4, .sc (.bool true)] ∧ Ext H Z ∧ H.length ≤ q ∧ Z[q]? = some ⟨rows pcs (cutP i z s (cutN z s)), true, true⟩ by
    obtain ⟨v, Z, h1, q, rfl, h2⟩ := hh
    exact ⟨q, Z, h1, h2⟩
  refine Sound.runP (args := [.sc (.int .i64 i), .sc (.string z), .sc (.int .i64 s)]) 60 [.tmp 6, .tmp 7] Try.func20 rfl rfl rfl rfl (by simp) (fun v Z => ∃ q, v = .tup [.sl q 0 (cutN z s) 4, .sc (.bool true)] ∧ Ext H Z ∧ H.length ≤ q ∧ Z[q]? = some ⟨rows pcs (cutP i z s (cutN z s)), true, true⟩) ?_
  obtain ⟨h1, h2, h3⟩ := h
  have hs : 1 ≤ s := by omega
  have hNle := cutN_le hs h3
  have k3 : ¬ (4000 : Int) < z.size := by omega
  simp -implicitDefEqProofs only [↓w_seq, ↓w_region, ↓ops_cons, ↓g_assign, ↓ops_nil, ev_const, of_bool, ↓g_buildSlice, Try.underlying39, List.map_nil, bs27_0, Nat.reduceLT, ev_tab, upd_eq, ↓g_move, ne_eq, reduceCtorEq, not_false_eq_true, upd_ne, par0, alK_some, List.all_nil, true_and]
  refine call1 (by simp -implicitDefEqProofs only [List.map_cons, Nat.reduceLT, ev_tab, upd_eq, ev_const, of_int, List.map_nil] <;> rfl) (inS i 0 65535) ?_
  rw [decide_eq_true h1]
  simp -implicitDefEqProofs only [↓ops_cons, ↓g_unOp, Nat.reduceLT, ev_tab, upd_eq, u_not, Bool.not_true, Option.map_some, ↓g_move, onS_some, yielded_tab, dstAt_s, dstAt_0, ybv_some, boolOf_b, ↓g_guard_t, ne_eq, Nat.reduceEqDiff, not_false_eq_true, upd_ne, par2]
  refine call1 (by simp -implicitDefEqProofs only [List.map_cons, Nat.reduceLT, ev_tab, upd_eq, ev_const, of_int, List.map_nil] <;> rfl) (inS s 1 1000) ?_
  rw [decide_eq_true h2]
  simp -implicitDefEqProofs only [↓ops_cons, yielded_tab, dstAt_s, dstAt_0, Nat.reduceLT, ybv_some, ne_eq, Nat.reduceEqDiff, not_false_eq_true, upd_ne, upd_eq, boolOf_b, ↓g_guard_t, ↓g_unOp, ev_tab, u_not, Bool.not_true, Option.map_some, ↓g_pick, ev_const, of_bool, pick_b, reduceCtorEq, if_false, ↓g_move, onS_some, par1, ↓g_len, Try.underlying9, len_str, ↓g_binOp, of_int, ↓ops_nil, ↓w_cond, ↓w_seq, ↓w_region, ↓g_assign, ↓w_ret, retP_2, res_tmp, ↓w_skip, ↓w_block, b_gtr, k3, decide_false, onB_false]
  refine w_loop (ι := Nat) (fun j st => ∃ (T : Nat → AV) (Z : AHeap) (q : Nat), st = ⟨tab 60 T, Z⟩ ∧ j ≤ cutN z s ∧ Ext H Z ∧ H.length ≤ q ∧ Z[q]? = some ⟨rows pcs (cutP i z s j), true, true⟩ ∧ T 0 = .sc (.int .i64 i) ∧ T 1 = .sc (.string z) ∧ T 2 = .sc (.int .i64 s) ∧ T 8 = .sl q 0 j 4 ∧ T 9 = .sc (.int .i64 ((j * s : Nat) : Int))) (fun j => cutN z s - j) ?_ (i := 0) ?_
  · rintro j st ⟨T, Z, q, rfl, a0, a1, a2, a3, b0, b1, b2, b3, b4⟩
    by_cases hj : j < cutN z s
    · have hc := (cutN_lt hs).1 hj
      have hjs : j * s ≤ z.size := by
        rcases hc with hc | rfl
        · omega
        · omega
      have e1 : IntKind.i64.wrap (((j * s : Nat) : Int) + (s : Int)) = (((j + 1) * s : Nat) : Int) := by
        rw [Nat.add_mul, Nat.one_mul, w64 (by omega) (by omega)]
        omega
      have e0 : ((j + 1) * s) = j * s + s := by rw [Nat.add_mul, Nat.one_mul]
      have q1 : (0 : Int) ≤ ((j * s : Nat) : Int) := by omega
      have q2 : (0 : Int) ≤ ((min (j * s + s) z.size : Nat) : Int) := by omega
      have q3 : j * s ≤ min (j * s + s) z.size := by omega
      have q4 : min (j * s + s) z.size ≤ z.size := by omega
      have hrow : [AV.sc (.int .i64 i), .sc (.int .i64 z.size), .sc (.int .i64 ((j * s : Nat) : Int)), .sc (.string (z.extract (j * s) (min (j * s + s) z.size)))] = rows pcs [cutAt i z s j] := rfl
      have ha3 : ∀ g : Reg, (Z ++ [g])[q]? = some ⟨rows pcs (cutP i z s j), true, true⟩ := fun g => (at_more _ _ _ (at_lt a3)).trans a3
      have hap := fun (G : AHeap) r => ap39 (H := G) (B := 40) (r := r) (len := j) (l := cutP i z s j) (k := [cutAt i z s j]) (cutP_len i z s j).symm (by omega) (by simp) rfl
      have hat := fun o => at_rows pcsE [cutAt i z s j] o 1
      have hlen4 : (rows pcs [cutAt i z s j]).length = 4 := rfl
      have hall := rows_all pcsE [cutAt i z s j]
      have hcond : ((j * s : Nat) : Int) < z.size ∨ (¬ ((j * s : Nat) : Int) < z.size ∧ (((j : Nat) : Int) = 0) = True) := by
        by_cases h0 : ((j * s : Nat) : Int) < z.size
        · exact .inl h0
        · refine .inr ⟨h0, eq_true ?_⟩
          rcases hc with hc | rfl
          · exact absurd (by omega) h0
          · rfl
      have hend : (((j + 1) * s : Nat) : Int) ≤ z.size ∧ min (j * s + s) z.size = (j + 1) * s ∨ (z.size : Int) < (((j + 1) * s : Nat) : Int) ∧ min (j * s + s) z.size = z.size := by omega
      have q5 : (0 : Int) ≤ (z.size : Int) := by omega
      generalize hm : min (j * s + s) z.size = m at *
      rcases hend with ⟨w1, w2⟩ | ⟨w1, w2⟩
      · have w3 : ¬ (z.size : Int) < (((j + 1) * s : Nat) : Int) := by omega
        subst w2
        rcases hcond with c1 | ⟨c1, c2⟩
        · simp -implicitDefEqProofs only [↓w_seq, ↓w_region, ↓ops_cons, ↓g_move, ↓g_len, Try.underlying9, Nat.reduceLT, ev_tab, b4, ne_eq, Nat.reduceEqDiff, not_false_eq_true, upd_ne, b1, upd_eq, len_str, ↓g_binOp, onS_some, b_lss, c1, decide_true, yielded_tab, dstAt_s, dstAt_0, ybv_some, boolOf_b, Bool.not_false, ↓g_guard_f, ↓g_pick, ev_const, of_bool, pick_b, if_true, ↓ops_nil, ↓w_cond, ↓w_skip, ↓w_block, b2, b_add, e1, ↓g_assign, b3, reduceCtorEq, b0, ↓g_slice, Option.map_some, cut_str, bnd_int, q1, Int.toNat_natCast, ↓g_buildV, List.map_cons, List.map_nil, cells_int, ↓g_buildSlice, Try.underlying39, ↓g_append, apS39, b_gtr, w3, decide_false, q2, cutS_some, q3, q4, and_self, cells_str, bds27, hrow, hlen4, bs27_1, alK_some, hall, ha3, src_slR, at_end, Nat.reduceMul, hat, List.length_cons, List.length_nil, Nat.zero_add, Nat.le_refl, List.take_succ_cons, List.take_zero, hap, List.length_append, true_and, onB_false, ↓w_exit, ↓w_ret, retP_2, res_tmp, onB_true]
          refine ⟨j + 1, by omega, _, _, Z.length + 1, rfl, by omega, ((a1.add _).kill a2).add _, ?_, ?_, ?_, ?_, ?_, ?_, ?_⟩
          · have := a1.1
            omega
          · have := at_end (killReg (Z ++ [⟨rows pcs [cutAt i z s j], true, true⟩]) q) ⟨rows pcs (cutP i z s j ++ [cutAt i z s j]), true, true⟩
            rwa [kill_len, List.length_append, List.length_singleton] at this
          all_goals (simp -implicitDefEqProofs only [ne_eq, reduceCtorEq, not_false_eq_true, upd_ne, b0, Nat.reduceEqDiff, b1, b2, upd_eq] <;> rfl)
        · simp -implicitDefEqProofs only [↓w_seq, ↓w_region, ↓ops_cons, ↓g_move, ↓g_len, Try.underlying9, Nat.reduceLT, ev_tab, b4, ne_eq, Nat.reduceEqDiff, not_false_eq_true, upd_ne, b1, upd_eq, len_str, ↓g_binOp, onS_some, b_lss, c1, decide_false, yielded_tab, dstAt_s, dstAt_0, ybv_some, boolOf_b, ↓g_guard_t, b3, Try.underlying39, len_sl, ev_const, of_int, ↓g_pick, of_bool, pick_b, reduceCtorEq, if_false, ↓ops_nil, ↓w_cond, ↓w_skip, ↓w_block, b2, b_add, e1, ↓g_assign, b0, ↓g_slice, Option.map_some, cut_str, bnd_int, q1, Int.toNat_natCast, if_true, ↓g_buildV, List.map_cons, List.map_nil, cells_int, ↓g_buildSlice, ↓g_append, apS39, b_gtr, w3, q2, cutS_some, q3, q4, and_self, cells_str, bds27, hrow, hlen4, bs27_1, alK_some, hall, ha3, src_slR, at_end, Nat.reduceMul, hat, List.length_cons, List.length_nil, Nat.zero_add, Nat.le_refl, List.take_succ_cons, List.take_zero, hap, List.length_append, true_and, onB_false, ↓w_exit, ↓w_ret, retP_2, res_tmp, b_eql, c2, decide_true, onB_true]
          refine ⟨j + 1, by omega, _, _, Z.length + 1, rfl, by omega, ((a1.add _).kill a2).add _, ?_, ?_, ?_, ?_, ?_, ?_, ?_⟩
          · have := a1.1
            omega
          · have := at_end (killReg (Z ++ [⟨rows pcs [cutAt i z s j], true, true⟩]) q) ⟨rows pcs (cutP i z s j ++ [cutAt i z s j]), true, true⟩
            rwa [kill_len, List.length_append, List.length_singleton] at this
          all_goals (simp -implicitDefEqProofs only [ne_eq, reduceCtorEq, not_false_eq_true, upd_ne, b0, Nat.reduceEqDiff, b1, b2, upd_eq] <;> rfl)
      · subst w2
        rcases hcond with c1 | ⟨c1, c2⟩
        · simp -implicitDefEqProofs only [↓w_seq, ↓w_region, ↓ops_cons, ↓g_move, ↓g_len, Try.underlying9, Nat.reduceLT, ev_tab, b4, ne_eq, Nat.reduceEqDiff, not_false_eq_true, upd_ne, b1, upd_eq, len_str, ↓g_binOp, onS_some, b_lss, c1, decide_true, yielded_tab, dstAt_s, dstAt_0, ybv_some, boolOf_b, Bool.not_false, ↓g_guard_f, ↓g_pick, ev_const, of_bool, pick_b, if_true, ↓ops_nil, ↓w_cond, ↓w_skip, ↓w_block, b2, b_add, e1, ↓g_assign, b3, reduceCtorEq, b0, ↓g_slice, Option.map_some, cut_str, bnd_int, q1, Int.toNat_natCast, ↓g_buildV, List.map_cons, List.map_nil, cells_int, ↓g_buildSlice, Try.underlying39, ↓g_append, apS39, q2, cutS_some, q3, q4, and_self, cells_str, bds27, hrow, hlen4, bs27_1, alK_some, hall, ha3, src_slR, at_end, Nat.reduceMul, hat, List.length_cons, List.length_nil, Nat.zero_add, Nat.le_refl, List.take_succ_cons, List.take_zero, hap, List.length_append, true_and, b_gtr, w1, onB_true, ↓w_exit, ↓w_ret, retP_2, res_tmp]
          refine ⟨j + 1, by omega, _, _, Z.length + 1, rfl, by omega, ((a1.add _).kill a2).add _, ?_, ?_, ?_, ?_, ?_, ?_, ?_⟩
          · have := a1.1
            omega
          · have := at_end (killReg (Z ++ [⟨rows pcs [cutAt i z s j], true, true⟩]) q) ⟨rows pcs (cutP i z s j ++ [cutAt i z s j]), true, true⟩
            rwa [kill_len, List.length_append, List.length_singleton] at this
          all_goals (simp -implicitDefEqProofs only [ne_eq, reduceCtorEq, not_false_eq_true, upd_ne, b0, Nat.reduceEqDiff, b1, b2, upd_eq] <;> rfl)
        · simp -implicitDefEqProofs only [↓w_seq, ↓w_region, ↓ops_cons, ↓g_move, ↓g_len, Try.underlying9, Nat.reduceLT, ev_tab, b4, ne_eq, Nat.reduceEqDiff, not_false_eq_true, upd_ne, b1, upd_eq, len_str, ↓g_binOp, onS_some, b_lss, c1, decide_false, yielded_tab, dstAt_s, dstAt_0, ybv_some, boolOf_b, ↓g_guard_t, b3, Try.underlying39, len_sl, ev_const, of_int, ↓g_pick, of_bool, pick_b, reduceCtorEq, if_false, ↓ops_nil, ↓w_cond, ↓w_skip, ↓w_block, b2, b_add, e1, ↓g_assign, b0, ↓g_slice, Option.map_some, cut_str, bnd_int, q1, Int.toNat_natCast, if_true, ↓g_buildV, List.map_cons, List.map_nil, cells_int, ↓g_buildSlice, ↓g_append, apS39, q2, cutS_some, q3, q4, and_self, cells_str, bds27, hrow, hlen4, bs27_1, alK_some, hall, ha3, src_slR, at_end, Nat.reduceMul, hat, List.length_cons, List.length_nil, Nat.zero_add, Nat.le_refl, List.take_succ_cons, List.take_zero, hap, List.length_append, true_and, b_gtr, w1, decide_true, onB_true, ↓w_exit, ↓w_ret, retP_2, res_tmp, b_eql, c2]
          refine ⟨j + 1, by omega, _, _, Z.length + 1, rfl, by omega, ((a1.add _).kill a2).add _, ?_, ?_, ?_, ?_, ?_, ?_, ?_⟩
          · have := a1.1
            omega
          · have := at_end (killReg (Z ++ [⟨rows pcs [cutAt i z s j], true, true⟩]) q) ⟨rows pcs (cutP i z s j ++ [cutAt i z s j]), true, true⟩
            rwa [kill_len, List.length_append, List.length_singleton] at this
          all_goals (simp -implicitDefEqProofs only [ne_eq, reduceCtorEq, not_false_eq_true, upd_ne, b0, Nat.reduceEqDiff, b1, b2, upd_eq] <;> rfl)
    · have hjn : j = cutN z s := by omega
      have hn : ¬ (j * s < z.size ∨ j = 0) := fun h => hj ((cutN_lt hs).2 h)
      have c1 : ¬ ((j * s : Nat) : Int) < z.size := fun h => hn (.inl (by omega))
      have hjs : j * s ≠ 0 := by
        have : j ≠ 0 := fun h => hn (.inr h)
        exact Nat.mul_ne_zero this (by omega)
      have c2 : ¬ ((j : Nat) : Int) = 0 := by
        have : j ≠ 0 := fun h => hn (.inr h)
        omega
      subst hjn
      simp -implicitDefEqProofs only [↓w_seq, ↓w_region, ↓ops_cons, ↓g_move, ↓g_len, Try.underlying9, Nat.reduceLT, ev_tab, b4, ne_eq, Nat.reduceEqDiff, not_false_eq_true, upd_ne, b1, upd_eq, len_str, ↓g_binOp, onS_some, b_lss, c1, decide_false, yielded_tab, dstAt_s, dstAt_0, ybv_some, boolOf_b, ↓g_guard_t, b3, Try.underlying39, len_sl, ev_const, of_int, ↓g_pick, of_bool, pick_b, reduceCtorEq, if_false, ↓ops_nil, ↓w_cond, ↓w_skip, ↓w_block, b2, b_add, ↓g_assign, b0, ↓g_slice, Option.map_some, cut_str, bnd_int, ↓g_buildV, List.map_cons, List.map_nil, cells_int, ↓g_buildSlice, ↓g_append, apS39, b_gtr, onB_dec, ↓w_exit, ↓w_ret, retP_2, res_tmp, if_true, b_eql, c2, onB_false]
      exact ⟨q, rfl, a1, a2, a3⟩
  · refine ⟨_, _, H.length, rfl, by omega, Ext.more _ _, Nat.le_refl _, at_end _ _, ?_, ?_, ?_, ?_, ?_⟩
    all_goals (simp -implicitDefEqProofs only [ne_eq, reduceCtorEq, not_false_eq_true, upd_ne, par0, Nat.reduceEqDiff, par1, par2, upd_eq, Nat.zero_mul, Int.cast_ofNat_Int] <;> rfl)
end Go.Proofs.Ytheeehbaholjmaa.Sim

