/- Draws: a state of ChaCha20, and what both sides make of it. -/
import Derived.Test.YtbmadanfpicmiaaFDraw4
import Derived.Test.YtbmadanfpicmiaaFChaBlkG
namespace Go.Proofs.Ytbmadanfpicmiaa.Sim
open Go
set_option maxRecDepth 100000
set_option maxHeartbeats 4000000
set_option linter.unusedSimpArgs false
set_option linter.unusedVariables false
theorem wordsP {H : AHeap} {r m : Nat} {l : List Int} {own : Bool} (n : Int) (hw : Wd l) (hH : H[r]? = some ⟨ints .i64 l, own, true⟩) (hm : m ≤ l.length) (hl : l.length ≤ 1000000000000) : Sound Try.prog 46 [.sl r 0 m 1, .sc (.int .i64 n)] H (.sc (.bool (decide ((m : Int) = n)))) H := by
  refine Sound.run 21 [.tmp 4] Try.func46 rfl rfl rfl rfl (by simp) ?_
  simp -implicitDefEqProofs only [↓w_seq, ↓w_region, ↓ops_cons, ↓g_assign, ↓ops_nil, ev_const, of_bool, ↓g_move, ↓g_len, Try.underlying26, Nat.reduceLT, ev_tab, ne_eq, reduceCtorEq, not_false_eq_true, upd_ne, par0, upd_eq, len_sl, ↓w_block, of_int, onS_some]
  refine w_loop (ι := Nat) (fun i s => ∃ T : Nat → AV, s = ⟨tab 21 T, H⟩ ∧ i ≤ m ∧ T 0 = .sl r 0 m 1 ∧ T 1 = .sc (.int .i64 n) ∧ T 7 = .sl r 0 m 1 ∧ T 8 = .sc (.int .i64 m) ∧ T 9 = .sc (.int .i64 i)) (fun i => m - i) ?_ (i := 0) ?_
  · rintro i s ⟨T, rfl, a1, a2, a3, a4, a5, a6⟩
    by_cases h : i < m
    · have k1 : (i : Int) < m := by omega
      have k2 : (0 : Int) ≤ i := by omega
      have k3 : i < l.length := by omega
      have e1 : IntKind.i64.wrap ((i : Int) + 1) = i + 1 := w64 (by omega) (by omega)
      have hb := hw i
      simp -implicitDefEqProofs only [↓w_seq, ↓w_region, ↓ops_cons, ↓g_binOp, Nat.reduceLT, ev_tab, a6, a5, b_lss, k1, decide_true, ↓ops_nil, ↓w_cond, upd_eq, ↓w_skip, ↓w_block, ↓g_indexAddr, Try.underlying26, ne_eq, Nat.reduceEqDiff, not_false_eq_true, upd_ne, a4, adr_sl, k2, cells3, tyOk3, and_self, Int.toNat_natCast, Nat.mul_one, Nat.zero_add, if_true, ↓g_load, ↓g_assign, ↓g_move, onS_some, rd_def, agg3, hH, rd_ints, k3, ↓w_exit, ↓g_len, reduceCtorEq, a2, len_sl, a3, ↓w_ret, ret_one, and_true, b_eql, onB_true]
      refine call1 (by simp -implicitDefEqProofs only [List.map_cons, Nat.reduceLT, ev_tab, upd_eq, ev_const, of_int, List.map_nil] <;> rfl) (inI _ 0 4294967295) ?_
      have e2 : decide (0 ≤ l.getD i 0 ∧ l.getD i 0 ≤ 4294967295) = true := decide_eq_true ⟨hb.1, by omega⟩
      simp -implicitDefEqProofs only [↓ops_cons, ↓g_unOp, e2, Nat.reduceLT, ev_tab, upd_eq, u_not, Bool.not_true, Option.map_some, ↓ops_nil, ↓w_cond, ↓w_seq, ↓w_region, ↓g_assign, ↓w_ret, ev_const, of_bool, ret_one, and_true, ↓w_skip, ↓g_binOp, ne_eq, Nat.reduceEqDiff, not_false_eq_true, upd_ne, a6, of_int, b_add, e1, ↓g_move, onS_some, onB_false]
      refine ⟨i + 1, by omega, _, rfl, by omega, ?_, ?_, ?_, ?_, ?_⟩
      · simp -implicitDefEqProofs only [ne_eq, reduceCtorEq, not_false_eq_true, upd_ne, a2]
      · simp -implicitDefEqProofs only [ne_eq, Nat.reduceEqDiff, not_false_eq_true, upd_ne, a3]
      · simp -implicitDefEqProofs only [ne_eq, Nat.reduceEqDiff, not_false_eq_true, upd_ne, a4]
      · simp -implicitDefEqProofs only [ne_eq, Nat.reduceEqDiff, not_false_eq_true, upd_ne, a5]
      · simp -implicitDefEqProofs only [upd_eq] <;> rfl
    · have k1 : ¬ (i : Int) < m := by omega
      simp -implicitDefEqProofs only [↓w_seq, ↓w_region, ↓ops_cons, ↓g_binOp, Nat.reduceLT, ev_tab, a6, a5, b_lss, k1, decide_false, ↓ops_nil, ↓w_cond, upd_eq, ↓w_skip, ↓w_block, ↓g_indexAddr, Try.underlying26, ne_eq, Nat.reduceEqDiff, not_false_eq_true, upd_ne, a4, adr_sl, cells3, tyOk3, and_self, and_true, and_false, Nat.mul_one, Nat.zero_add, if_false, ↓g_load, ↓g_assign, ↓g_move, ↓w_exit, ↓g_len, reduceCtorEq, a2, len_sl, a3, ↓w_ret, ret_one, onS_some, b_eql, if_true, onB_false]
  · refine ⟨_, rfl, by omega, ?_, ?_, ?_, ?_, ?_⟩ <;> simp -implicitDefEqProofs only [ne_eq, reduceCtorEq, not_false_eq_true, upd_ne, par0, Nat.reduceEqDiff, par1, upd_eq, Int.cast_ofNat_Int] <;> rfl
def ChaArg (Z : AHeap) (y : AV) : Prop := (∃ r l, y = .sl r 0 16 1 ∧ l.length = 16 ∧ Z[r]? = some ⟨ints .i64 l, true, true⟩) ∨ ∃ r l, y = .sl r 0 15 1 ∧ l.length = 16 ∧ Wd l ∧ Z[r]? = some ⟨ints .i64 l, true, true⟩
theorem ChaArg.ext {H Z : AHeap} {y : AV} (a : Ext H Z) (h : ChaArg H y) : ChaArg Z y := by
  rcases h with ⟨r, l, h1, h2, h3⟩ | ⟨r, l, h1, h2, h3, h4⟩
  · exact .inl ⟨r, l, h1, h2, a.at h3⟩
  · exact .inr ⟨r, l, h1, h2, h3, a.at h4⟩
theorem chaBoth {Z : AHeap} {y : AV} (h : ChaArg Z y) : ∃ z : ByteArray, Sound Try.prog 19 [y] Z (.sc (.string z)) Z ∧ Sound Try.prog 26 [y] Z (.sc (.string z)) Z := by
  rcases h with ⟨r, l, rfl, h2, h3⟩ | ⟨r, l, rfl, h2, h3, h4⟩
  · have hI := blkGI (l := l) (by omega) h3
    have hS := blkGS (l := l) (by omega) h3
    rw [h2] at hI hS
    exact ⟨_, hI, hS⟩
  · refine ⟨ByteArray.empty, ?_, ?_⟩
    · refine Sound.run 89 [.tmp 2] Try.func19 rfl rfl rfl rfl (by simp) ?_
      have hW := wordsP 16 h3 h4 (m := 15) (by omega) (by omega)
      simp -implicitDefEqProofs only [↓w_seq, ↓w_region, ↓ops_cons, ↓g_assign, ↓ops_nil, ev_const, of_str, ↓g_move, Nat.reduceLT, ev_tab, ne_eq, reduceCtorEq, not_false_eq_true, upd_ne, par0]
      refine call1S (by simp -implicitDefEqProofs only [List.map_cons, Nat.reduceLT, ev_tab, upd_eq, ev_const, of_int, List.map_nil] <;> rfl) hW ?_
      simp -implicitDefEqProofs only [↓ops_cons, ↓g_unOp, Int.cast_ofNat_Int, Int.reduceEq, decide_false, Nat.reduceLT, ev_tab, upd_eq, u_not, Bool.not_false, Option.map_some, ↓ops_nil, ↓w_cond, ↓w_seq, ↓w_region, ↓g_assign, ↓w_ret, ev_const, of_str, ret_one, and_true, ↓w_skip, ↓g_buildV, List.map_cons, of_int, List.map_nil, bd64, ne_eq, Nat.reduceEqDiff, not_false_eq_true, upd_ne, ↓g_alloc, zero65, ↓g_store, ↓g_buildSlice, Try.underlying26, bs3_0, ↓g_move, ↓g_append, reduceCtorEq, par0, ↓w_block, alK_some, ints_one, apS26, at_end, src_sl, true_and, wr_def, tyOk65, cells65, onS_some, onB_true]
      try rfl
    · refine Sound.run 94 [.tmp 2] Try.func26 rfl rfl rfl rfl (by simp) ?_
      simp -implicitDefEqProofs only [↓w_seq, ↓w_region, ↓ops_cons, ↓g_assign, ↓ops_nil, ev_const, of_str, ↓g_move, ↓g_len, Try.underlying26, Nat.reduceLT, ev_tab, ne_eq, reduceCtorEq, not_false_eq_true, upd_ne, par0, upd_eq, len_sl, Int.cast_ofNat_Int, ↓g_binOp, of_int, ↓w_cond, ↓w_ret, ret_one, and_true, ↓w_skip, ↓w_block, onS_some, b_neq, Int.reduceEq, decide_false, Bool.not_false, onB_true]
      try rfl
theorem drawChaBlock {H : AHeap} {x : AV} {L : List Int} (hx : IsL H x .u8 L) (hL : L.length ≤ 1048576) : ∃ (y : AV) (Z : AHeap), ChaArg Z y ∧ Sound Try.prog 33 [x] H y Z ∧ Ext H Z := by
  suffices h : ∃ v Z, Sound Try.prog 33 [x] H v Z ∧ ChaArg Z v ∧ Ext H Z by
    obtain ⟨v, Z, h1, h2, h3⟩ := h
    exact ⟨v, Z, h2, h1, h3⟩
  refine Sound.runP (args := [x]) 40 [.tmp 2] Try.func33 rfl rfl rfl rfl (by simp) (fun v Z => ChaArg Z v ∧ Ext H Z) ?_
  simp -implicitDefEqProofs only [↓w_seq, ↓w_region, ↓ops_cons, ↓g_assign, ↓ops_nil, ev_const, ↓g_move, Nat.reduceLT, ev_tab, ne_eq, reduceCtorEq, not_false_eq_true, upd_ne, par0]
  obtain ⟨r, Z0, n1, n2, n3, n4⟩ := drawNew hx hL
  refine call1S (by simp -implicitDefEqProofs only [List.map_cons, Nat.reduceLT, ev_tab, upd_eq, List.map_nil] <;> rfl) n1 ?_
  simp -implicitDefEqProofs only [↓ops_cons, ↓g_assign, ↓ops_nil, ↓w_seq, ↓w_region, Nat.reduceLT, ev_tab, upd_eq, ↓g_move]
  obtain ⟨j, Z1, j1, j2, j3⟩ := drawBelow n3 hL 8 (by omega) (by omega)
  refine call1S (by simp -implicitDefEqProofs only [List.map_cons, Nat.reduceLT, ev_tab, upd_eq, ev_const, of_int, List.map_nil, Int.cast_ofNat_Int] <;> rfl) j2 ?_
  simp -implicitDefEqProofs only [↓ops_cons, ↓g_assign, ↓ops_nil, ↓w_seq, ↓w_region, Nat.reduceLT, ev_tab, upd_eq, ↓g_move, ne_eq, reduceCtorEq, not_false_eq_true, upd_ne, par0]
  have e1 : Ext H Z1 := Dr.ext n4 j3 n2
  obtain ⟨k, n, m, Z2, k1, k2⟩ := drawChaStart (e1.isL hx) hL
  refine call1S (by simp -implicitDefEqProofs only [List.map_cons, Nat.reduceLT, ev_tab, upd_eq, List.map_nil] <;> rfl) k1 ?_
  simp -implicitDefEqProofs only [↓ops_cons, ↓g_move, ↓g_extract, Nat.reduceLT, ev_tab, upd_eq, ext_0, ne_eq, Nat.reduceEqDiff, not_false_eq_true, upd_ne, ext_1, ext_2, ↓g_assign, ↓ops_nil, ↓w_seq, ↓w_region, onS_some]
  have e2 := e1.trans k2
  by_cases hb : chaB k n m
  · have hS := chaS_ok k n m hb Z2
    have hl := chaL_len k n m
    have hwd := chaL_wd k n m hb.2.2.1 hb.2.2.2
    generalize chaL k n m = l at *
    refine call1S (by simp -implicitDefEqProofs only [List.map_cons, Nat.reduceLT, ev_tab, ne_eq, Nat.reduceEqDiff, not_false_eq_true, upd_ne, upd_eq, List.map_nil] <;> rfl) hS ?_
    by_cases h0 : (j : Int) = 0
    · simp -implicitDefEqProofs only [↓ops_cons, ↓g_move, ↓g_extract, h0, Nat.reduceLT, ev_tab, upd_eq, ext_0, ne_eq, Nat.reduceEqDiff, not_false_eq_true, upd_ne, ext_1, ↓g_assign, ↓ops_nil, ↓w_seq, ↓w_region, ↓g_unOp, ↓w_cond, ↓g_makeSlice, Try.underlying26, ev_const, of_int, Int.reduceLE, mk3, Int.reduceToNat, ↓w_ret, retP_1, res_tmp, onS_some, alK_some, ints_one, List.length_append, List.length_cons, List.length_nil, Nat.zero_add, true_and, ↓w_skip, ↓w_block, ↓g_binOp, b_eql, decide_true, ↓g_slice, Option.map_none, Option.map_some, Int.reduceEq, decide_false, ↓g_indexAddr, ↓g_store, onB_false, onB_true, u_not, Bool.not_true, cut_sl, bnd_none, bnd_int, if_true, cutL_some, Nat.reduceLeDiff, cells3, tyOk3, and_self, Nat.mul_one, Nat.reduceSub]
      exact ⟨.inr ⟨_, l, rfl, hl, hwd, at_end _ _⟩, e2.add _⟩
    · by_cases h1 : (j : Int) = 1
      · simp -implicitDefEqProofs only [↓ops_cons, ↓g_move, ↓g_extract, h1, Nat.reduceLT, ev_tab, upd_eq, ext_0, ne_eq, Nat.reduceEqDiff, not_false_eq_true, upd_ne, ext_1, ↓g_assign, ↓ops_nil, ↓w_seq, ↓w_region, ↓g_unOp, ↓w_cond, ↓g_makeSlice, Try.underlying26, ev_const, of_int, Int.reduceLE, mk3, Int.reduceToNat, ↓w_ret, retP_1, res_tmp, onS_some, alK_some, ints_one, List.length_append, List.length_cons, List.length_nil, Nat.zero_add, true_and, ↓w_skip, ↓w_block, ↓g_binOp, b_eql, Int.reduceEq, decide_false, ↓g_slice, Option.map_none, Option.map_some, decide_true, ↓g_indexAddr, ↓g_store, onB_true, onB_false, u_not, Bool.not_true, adr_sl, Int.cast_ofNat_Int, Int.reduceLT, cells3, tyOk3, and_self, Nat.mul_one, if_true, wr_def, at_end, wr_ints, hl]
        refine ⟨.inl ⟨Z2.length, l.set 3 4294967296, rfl, by rw [List.length_set, hl], ?_⟩, ?_⟩
        · rw [hset_0]
          exact at_end _ _
        · exact (e2.add _).set e2.1 _
      · simp -implicitDefEqProofs only [↓ops_cons, ↓g_move, ↓g_extract, Nat.reduceLT, ev_tab, upd_eq, ext_0, ne_eq, Nat.reduceEqDiff, not_false_eq_true, upd_ne, ext_1, ↓g_assign, ↓ops_nil, ↓w_seq, ↓w_region, ↓g_unOp, ↓w_cond, ↓g_makeSlice, Try.underlying26, ev_const, of_int, Int.reduceLE, mk3, Int.reduceToNat, ↓w_ret, retP_1, res_tmp, onS_some, alK_some, ints_one, List.length_append, List.length_cons, List.length_nil, Nat.zero_add, true_and, ↓w_skip, ↓w_block, ↓g_binOp, b_eql, h0, decide_false, ↓g_slice, Option.map_none, Option.map_some, h1, ↓g_indexAddr, ↓g_store, onB_false, u_not, Bool.not_true]
        exact ⟨.inl ⟨_, l, rfl, hl, at_end _ _⟩, e2.add _⟩
  · have hS := chaS_no k n m hb Z2
    refine call1S (by simp -implicitDefEqProofs only [List.map_cons, Nat.reduceLT, ev_tab, ne_eq, Nat.reduceEqDiff, not_false_eq_true, upd_ne, upd_eq, List.map_nil] <;> rfl) hS ?_
    simp -implicitDefEqProofs only [↓ops_cons, ↓g_move, ↓g_extract, Nat.reduceLT, ev_tab, upd_eq, ext_0, ne_eq, Nat.reduceEqDiff, not_false_eq_true, upd_ne, ext_1, ↓g_assign, ↓ops_nil, ↓w_seq, ↓w_region, ↓g_unOp, ↓w_cond, ↓g_makeSlice, Try.underlying26, ev_const, of_int, Int.reduceLE, mk3, Int.reduceToNat, ↓w_ret, retP_1, res_tmp, onS_some, alK_some, ints_one, List.length_append, List.length_cons, List.length_nil, Nat.zero_add, true_and, ↓w_skip, ↓w_block, ↓g_binOp, b_eql, ↓g_slice, Option.map_none, Option.map_some, ↓g_indexAddr, ↓g_store, onB_dec, u_not, Bool.not_false, onB_true]
    exact ⟨.inl ⟨_, List.replicate 16 0, rfl, rfl, at_b _ _ _⟩, (e2.add _).add _⟩
end Go.Proofs.Ytbmadanfpicmiaa.Sim

