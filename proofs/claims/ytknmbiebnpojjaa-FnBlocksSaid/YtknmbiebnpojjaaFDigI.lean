/- A text's digest, as the program makes it. -/
import Derived.Test.YtknmbiebnpojjaaFBlockI
import Derived.Test.YtknmbiebnpojjaaFPad
namespace Go.Proofs.Ytknmbiebnpojjaa.Sim
open Go
set_option maxRecDepth 100000
set_option maxHeartbeats 4000000
set_option linter.unusedSimpArgs false
set_option linter.unusedVariables false
theorem startI : FnL Try.prog 11 [] .i64 (wis start.l) := by
  refine FnL.run 2 [.tmp 0] Try.func11 rfl rfl rfl rfl (by simp) flats_nil ?_
  have h : ints .i64 [1779033703, 3144134277, 1013904242, 2773480762, 1359893119, 2600822924, 528734635, 1541459225] = ints .i64 (wis start.l) := rfl
  simp -implicitDefEqProofs only [↓w_seq, ↓w_region, ↓ops_cons, ↓g_assign, ↓ops_nil, ev_const, ↓g_buildSlice, Try.underlying26, List.map_cons, of_int, List.map_nil, bs3_8, h, ↓w_ret, Nat.reduceLT, ev_tab, upd_eq, alK_some, ints_one, List.length_nil, List.nil_append, true_and]
  refine retL_one (by decide) 0 ?_ rfl
  simp -implicitDefEqProofs only [upd_eq]
  rfl
theorem blockA (G : AHeap) (r : Nat) (s : S8) (z : ByteArray) (hz : z.size = 64) (own : Bool) (hG : G[r]? = some ⟨ints .i64 (wis s.l), own, true⟩) : Sound Try.prog 12 [.sl r 0 8 1, .sc (.string z)] G (.sl G.length 0 8 1) (G ++ [⟨ints .i64 (wis (blk s z).l), true, true⟩]) := by
  obtain ⟨Z, h1, h2, h3⟩ := blockI own s z hz
  refine Sound.move1 [r] 2 _ h1 (by simp) h3 (FlatReg.ints _ _ _ _) rfl (by simp) ?_ (.cons (.sl rfl) (.cons (.flat (.sc _)) .nil)) (.sl (if_pos rfl))
  intro i x hx
  match i, hx with
  | 0, hx =>
    simp at hx
    subst hx
    exact ⟨_, rfl, h2, hG, FlatReg.ints _ _ _ _⟩
  | n + 1, hx => simp at hx
theorem digI (z : ByteArray) (hz : z.size ≤ 1000000000) : Fn Try.prog 14 [.sc (.string z)] (.sc (.string (dig z))) := by
  refine Fn.run 37 [.tmp 2] Try.func14 rfl rfl rfl rfl (by simp) (flats_cons (.sc _) flats_nil) (.sc _) ?_
  have hpl := padT_le z
  obtain ⟨m, hm, hm1⟩ := padT_64 z
  have hd : (padT z).size / 64 = m := by omega
  simp -implicitDefEqProofs only [↓w_seq, ↓w_region, ↓ops_cons, ↓g_assign, ↓ops_nil, ev_const, of_str]
  refine call1L (by simp -implicitDefEqProofs only [List.map_nil] <;> rfl) startI ?_
  simp -implicitDefEqProofs only [↓ops_cons, ↓g_assign, ↓ops_nil, ↓w_seq, ↓w_region, List.length_nil, Nat.reduceLT, ev_tab, upd_eq, List.nil_append, ↓g_move, ne_eq, reduceCtorEq, not_false_eq_true, upd_ne, par0]
  refine call1 (by simp -implicitDefEqProofs only [List.map_cons, Nat.reduceLT, ev_tab, upd_eq, List.map_nil] <;> rfl) (padI z hz) ?_
  simp -implicitDefEqProofs only [↓ops_cons, ↓g_assign, ↓ops_nil, ↓w_seq, ↓w_region, Nat.reduceLT, ev_tab, upd_eq, ↓w_block, ev_const, of_int]
  refine w_loop (ι := Nat) (fun n s => ∃ (T : Nat → AV) (G : AHeap) (r : Nat), s = ⟨tab 37 T, G⟩ ∧ n ≤ m ∧ G[r]? = some ⟨ints .i64 (wis (blks (padT z) n).l), true, true⟩ ∧ T 3 = .sl r 0 8 1 ∧ T 4 = .sc (.string (padT z)) ∧ T 5 = .sc (.int .i64 ((64 * n : Nat) : Int))) (fun n => m - n) ?_ (i := 0) ?_
  · rintro n s ⟨T, G, r, rfl, a1, a2, a3, a4, a5⟩
    by_cases h : n < m
    · have k1 : ((64 * n : Nat) : Int) < (padT z).size := by omega
      have e1 : IntKind.i64.wrap (((64 * n : Nat) : Int) + 64) = ((64 * n + 64 : Nat) : Int) := by rw [w64 (by omega) (by omega)]; omega
      have k2 : (0 : Int) ≤ ((64 * n : Nat) : Int) := by omega
      have k3 : (0 : Int) ≤ ((64 * n + 64 : Nat) : Int) := by omega
      have k4 : 64 * n ≤ 64 * n + 64 := by omega
      have k5 : 64 * n + 64 ≤ (padT z).size := by omega
      simp -implicitDefEqProofs only [↓w_seq, ↓w_region, ↓ops_cons, ↓g_move, ↓g_len, Try.underlying9, Nat.reduceLT, ev_tab, a5, ne_eq, Nat.reduceEqDiff, not_false_eq_true, upd_ne, a4, upd_eq, len_str, ↓g_binOp, ↓ops_nil, ↓w_cond, ↓w_skip, ↓w_block, a3, ev_const, of_int, b_add, e1, ↓g_slice, Option.map_some, cut_str, bnd_int, k2, Int.toNat_natCast, if_true, onS_some, k3, cutS_some, k4, k5, and_self, ↓w_exit, ↓g_assign, of_str, Try.underlying26, len_sl, Int.cast_ofNat_Int, b_lss, k1, decide_true, onB_true]
      have hx : ((padT z).extract (64 * n) (64 * n + 64)).size = 64 := by rw [ByteArray.size_extract]; omega
      refine call1S (by simp -implicitDefEqProofs only [List.map_cons, Nat.reduceLT, ev_tab, ne_eq, Nat.reduceEqDiff, not_false_eq_true, upd_ne, upd_eq, List.map_nil] <;> rfl) (blockA G r (blks (padT z) n) _ hx true a2) ?_
      simp -implicitDefEqProofs only [↓ops_cons, ↓g_assign, ↓ops_nil, ↓w_region, Nat.reduceLT, ev_tab, upd_eq, ↓g_move, ↓g_binOp, ne_eq, Nat.reduceEqDiff, not_false_eq_true, upd_ne, a5, ev_const, of_int, b_add, e1, onS_some]
      refine ⟨n + 1, by omega, _, _, G.length, rfl, by omega, ?_, ?_, ?_, ?_⟩
      · rw [List.getElem?_append_right (by omega), Nat.sub_self]
        rfl
      · simp -implicitDefEqProofs only [ne_eq, Nat.reduceEqDiff, not_false_eq_true, upd_ne, upd_eq]
      · simp -implicitDefEqProofs only [ne_eq, Nat.reduceEqDiff, not_false_eq_true, upd_ne, a4]
      · simp -implicitDefEqProofs only [upd_eq] <;> rfl
    · have k1 : ¬ ((64 * n : Nat) : Int) < (padT z).size := by omega
      have hn : n = m := by omega
      subst hn
      have hdl : digL z = wby (blks (padT z) n).l := by rw [digL, hd]
      have hl8 : (blks (padT z) n).l.length = 8 := rfl
      rw [dig, hdl]
      generalize (blks (padT z) n).l = L at *
      simp -implicitDefEqProofs only [↓w_seq, ↓w_region, ↓ops_cons, ↓g_move, ↓g_len, Try.underlying9, Nat.reduceLT, ev_tab, a5, ne_eq, Nat.reduceEqDiff, not_false_eq_true, upd_ne, a4, upd_eq, len_str, ↓g_binOp, ↓ops_nil, ↓w_cond, ↓w_skip, ↓w_block, a3, ev_const, of_int, b_add, ↓g_slice, Option.map_some, cut_str, bnd_int, onS_some, ↓w_exit, ↓g_assign, of_str, Try.underlying26, len_sl, Int.cast_ofNat_Int, if_true, b_lss, k1, decide_false, onB_false]
      refine w_loop (ι := Nat) (fun i s => ∃ T : Nat → AV, s = ⟨tab 37 T, G⟩ ∧ i ≤ 8 ∧ T 6 = .sc (.string (strOfNums (wby (L.take i)))) ∧ T 25 = .sl r 0 8 1 ∧ T 26 = .sc (.int .i64 8) ∧ T 27 = .sc (.int .i64 i)) (fun i => 8 - i) ?_ (i := 0) ?_
      · rintro i s ⟨T, rfl, b1, b2, b3, b4, b5⟩
        by_cases hi : i < 8
        · have j1 : (i : Int) < 8 := by omega
          have j0 : (0 : Int) ≤ i := by omega
          have e1 : IntKind.i64.wrap ((i : Int) + 1) = i + 1 := w64 (by omega) (by omega)
          simp -implicitDefEqProofs only [↓w_seq, ↓w_region, ↓ops_cons, ↓g_binOp, Nat.reduceLT, ev_tab, b5, b4, b_lss, j1, decide_true, ↓ops_nil, ↓w_cond, upd_eq, ↓w_skip, ↓w_block, ↓g_indexAddr, Try.underlying26, ne_eq, Nat.reduceEqDiff, not_false_eq_true, upd_ne, b3, adr_sl, j0, Int.cast_ofNat_Int, cells3, tyOk3, and_self, Int.toNat_natCast, Nat.mul_one, Nat.zero_add, if_true, ↓g_load, ↓g_assign, ↓g_move, b2, onS_some, rd_def, agg3, a2, rd_ints, wis_len, hl8, hi, wis_get, ↓w_exit, ↓w_ret, ret_one, onB_true]
          refine call1 (by simp -implicitDefEqProofs only [List.map_cons, Nat.reduceLT, ev_tab, upd_eq, ev_const, of_int, List.map_nil, Int.cast_ofNat_Int] <;> rfl) (highFirst (wi (L.getD i 0)) 4 (wi_0 _) (by have := wi_lt (L.getD i 0); omega) (by decide)) ?_
          simp -implicitDefEqProofs only [↓ops_cons, ↓g_binOp, Nat.reduceLT, ev_tab, ne_eq, Nat.reduceEqDiff, not_false_eq_true, upd_ne, upd_eq, t_add, son_size, wby_len, List.length_take, hl8, hiL_len, Nat.reduceLeDiff, son_append, wby_take L i (by omega), ↓g_assign, ↓ops_nil, ↓w_region, b5, ev_const, of_int, b_add, e1, ↓g_move, onS_some, onS_ite]
          refine ⟨by omega, i + 1, by omega, _, rfl, by omega, ?_, ?_, ?_, ?_⟩ <;> simp -implicitDefEqProofs only [ne_eq, Nat.reduceEqDiff, not_false_eq_true, upd_ne, upd_eq, b3, b4] <;> rfl
        · have j1 : ¬ (i : Int) < 8 := by omega
          have hi8 : i = 8 := by omega
          subst hi8
          simp -implicitDefEqProofs only [↓w_seq, ↓w_region, Nat.reduceSub, ↓ops_cons, ↓g_binOp, Nat.reduceLT, ev_tab, b5, Int.cast_ofNat_Int, b4, b_lss, Int.reduceLT, decide_false, ↓ops_nil, ↓w_cond, upd_eq, ↓w_skip, ↓w_block, ↓g_indexAddr, Try.underlying26, ne_eq, Nat.reduceEqDiff, not_false_eq_true, upd_ne, b3, adr_sl, Int.reduceLE, cells3, tyOk3, and_self, and_true, and_false, Int.reduceToNat, Nat.mul_one, Nat.zero_add, if_false, ↓g_load, ↓g_assign, ↓g_move, b2, ↓w_exit, ↓w_ret, ret_one, if_true, onS_some, onB_false]
          rw [List.take_of_length_le (by omega)]
      · refine ⟨_, rfl, by omega, ?_, ?_, ?_, ?_⟩ <;> simp -implicitDefEqProofs only [ne_eq, Nat.reduceEqDiff, not_false_eq_true, upd_ne, upd_eq, List.take_zero, Int.cast_ofNat_Int] <;> rfl
  · refine ⟨_, _, 0, rfl, by omega, rfl, ?_, ?_, ?_⟩ <;> simp -implicitDefEqProofs only [ne_eq, Nat.reduceEqDiff, not_false_eq_true, upd_ne, upd_eq, Nat.reduceMul, Int.cast_ofNat_Int] <;> rfl
end Go.Proofs.Ytknmbiebnpojjaa.Sim

