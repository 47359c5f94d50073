/- A block of ChaCha20, whatever is given. -/
import Derived.Test.YtbmadanfpicmiaaFStream
import Derived.Test.YtbmadanfpicmiaaFLawInts
import Derived.Test.YtbmadanfpicmiaaFToInts
namespace Go.Proofs.Ytbmadanfpicmiaa.Sim
open Go
set_option maxRecDepth 100000
set_option maxHeartbeats 4000000
set_option linter.unusedSimpArgs false
set_option linter.unusedVariables false
def AllW (l : List Int) : Prop := ∀ i, i < l.length → 0 ≤ l.getD i 0 ∧ l.getD i 0 ≤ 4294967295
theorem AllW.wd {l : List Int} (h : AllW l) : Wd l := by
  intro i
  by_cases hi : i < l.length
  · have := h i hi
    omega
  · rw [List.getD_eq_getElem?_getD, List.getElem?_eq_none (by omega)]
    simp
open Classical in
noncomputable def chaG (l : List Int) : ByteArray := if l.length = 16 ∧ AllW l then chaBlk l else ByteArray.empty
theorem wordsB {H : AHeap} {x : AV} {l : List Int} (n : Int) (hA : ¬ AllW l) (hx : IsL H x .i64 l) (hl : l.length ≤ 1000000000000) : Sound Try.prog 46 [x, .sc (.int .i64 n)] H (.sc (.bool false)) H := by
  refine Sound.run 21 [.tmp 4] Try.func46 rfl rfl rfl rfl (by simp) ?_
  have lx := fun e => hx.len e
  simp -implicitDefEqProofs only [↓w_seq, ↓w_region, ↓ops_cons, ↓g_assign, ↓ops_nil, ev_const, of_bool, ↓g_move, ↓g_len, Try.underlying26, Nat.reduceLT, ev_tab, ne_eq, reduceCtorEq, not_false_eq_true, upd_ne, par0, upd_eq, lx, ↓w_block, of_int, onS_some]
  refine w_loop (ι := Nat) (fun i s => ∃ T : Nat → AV, s = ⟨tab 21 T, H⟩ ∧ i ≤ l.length ∧ (∀ j, j < i → 0 ≤ l.getD j 0 ∧ l.getD j 0 ≤ 4294967295) ∧ T 0 = x ∧ T 1 = .sc (.int .i64 n) ∧ T 7 = x ∧ T 8 = .sc (.int .i64 l.length) ∧ T 9 = .sc (.int .i64 i)) (fun i => l.length - i) ?_ (i := 0) ?_
  · rintro i s ⟨T, rfl, a1, a0, a2, a3, a4, a5, a6⟩
    by_cases h : i < l.length
    · have k1 : (i : Int) < l.length := by omega
      have k2 : (0 : Int) ≤ i := by omega
      obtain ⟨r, o, rfl, hr⟩ := hx.get (i := i) h
      have e1 : IntKind.i64.wrap ((i : Int) + 1) = i + 1 := w64 (by omega) (by omega)
      simp -implicitDefEqProofs only [↓w_seq, ↓w_region, ↓ops_cons, ↓g_binOp, Nat.reduceLT, ev_tab, a6, a5, b_lss, k1, decide_true, ↓ops_nil, ↓w_cond, upd_eq, ↓w_skip, ↓w_block, ↓g_indexAddr, Try.underlying26, ne_eq, Nat.reduceEqDiff, not_false_eq_true, upd_ne, a4, adr_sl, k2, cells3, tyOk3, and_self, Int.toNat_natCast, Nat.mul_one, Nat.zero_add, if_true, ↓g_load, ↓g_assign, ↓g_move, onS_some, rd_def, agg3, hr, rd_ints, h, ↓w_exit, ↓g_len, reduceCtorEq, a2, len_sl, a3, ↓w_ret, ret_one, and_true, b_eql, onB_true]
      refine call1 (by simp -implicitDefEqProofs only [List.map_cons, Nat.reduceLT, ev_tab, upd_eq, ev_const, of_int, List.map_nil] <;> rfl) (inI _ 0 4294967295) ?_
      by_cases hb : 0 ≤ l.getD i 0 ∧ l.getD i 0 ≤ 4294967295
      · have e2 : decide (0 ≤ l.getD i 0 ∧ l.getD i 0 ≤ 4294967295) = true := decide_eq_true hb
        simp -implicitDefEqProofs only [↓ops_cons, ↓g_unOp, e2, Nat.reduceLT, ev_tab, upd_eq, u_not, Bool.not_true, Option.map_some, ↓ops_nil, ↓w_cond, ↓w_seq, ↓w_region, ↓g_assign, ↓w_ret, ev_const, of_bool, ret_one, and_self, ↓w_skip, ↓g_binOp, ne_eq, Nat.reduceEqDiff, not_false_eq_true, upd_ne, a6, of_int, b_add, e1, ↓g_move, onS_some, onB_false]
        refine ⟨i + 1, by omega, _, rfl, by omega, ?_, ?_, ?_, ?_, ?_, ?_⟩
        · intro j hj
          rcases Nat.lt_or_ge j i with hj2 | hj2
          · exact a0 j hj2
          · have : j = i := by omega
            subst this; exact hb
        · simp -implicitDefEqProofs only [ne_eq, reduceCtorEq, not_false_eq_true, upd_ne, a2]
        · simp -implicitDefEqProofs only [ne_eq, Nat.reduceEqDiff, not_false_eq_true, upd_ne, a3]
        · simp -implicitDefEqProofs only [ne_eq, Nat.reduceEqDiff, not_false_eq_true, upd_ne, a4]
        · simp -implicitDefEqProofs only [ne_eq, Nat.reduceEqDiff, not_false_eq_true, upd_ne, a5]
        · simp -implicitDefEqProofs only [upd_eq] <;> rfl
      · have e2 : decide (0 ≤ l.getD i 0 ∧ l.getD i 0 ≤ 4294967295) = false := decide_eq_false hb
        simp -implicitDefEqProofs only [↓ops_cons, ↓g_unOp, e2, Nat.reduceLT, ev_tab, upd_eq, u_not, Bool.not_false, Option.map_some, ↓ops_nil, ↓w_cond, ↓w_seq, ↓w_region, ↓g_assign, ↓w_ret, ev_const, of_bool, ret_one, and_self, ↓w_skip, ↓g_binOp, ne_eq, Nat.reduceEqDiff, not_false_eq_true, upd_ne, of_int, ↓g_move, onS_some, onB_true]
    · exact absurd (fun j hj => a0 j (by omega)) hA
  · refine ⟨_, rfl, by omega, fun j hj => by omega, ?_, ?_, ?_, ?_, ?_⟩ <;> simp -implicitDefEqProofs only [ne_eq, reduceCtorEq, not_false_eq_true, upd_ne, par0, Nat.reduceEqDiff, par1, upd_eq, Int.cast_ofNat_Int] <;> rfl
theorem blkGI {H : AHeap} {r : Nat} {own : Bool} {l : List Int} (hl : l.length ≤ 1000000000) (hH : H[r]? = some ⟨ints .i64 l, own, true⟩) : Sound Try.prog 19 [.sl r 0 l.length 1] H (.sc (.string (chaG l))) H := by
  by_cases h : l.length = 16 ∧ AllW l
  · rw [chaG, if_pos h, h.1]
    exact blkAtI h.1 h.2.wd hH
  · rw [chaG, if_neg h]
    refine Sound.run 89 [.tmp 2] Try.func19 rfl rfl rfl rfl (by simp) ?_
    simp -implicitDefEqProofs only [↓w_seq, ↓w_region, ↓ops_cons, ↓g_assign, ↓ops_nil, ev_const, of_str, ↓g_move, Nat.reduceLT, ev_tab, ne_eq, reduceCtorEq, not_false_eq_true, upd_ne, par0]
    have hW : Sound Try.prog 46 [.sl r 0 l.length 1, .sc (.int .i64 16)] H (.sc (.bool false)) H := by
      by_cases hA : AllW l
      · have hd : ¬ ((l.length : Int) = 16) := fun x => h ⟨by omega, hA⟩
        have := wordsW (H := H) (x := .sl r 0 l.length 1) 16 hA.wd (.mk hH) (by omega)
        rwa [decide_eq_false hd] at this
      · exact wordsB 16 hA (.mk hH) (by omega)
    refine call1S (by simp -implicitDefEqProofs only [List.map_cons, Nat.reduceLT, ev_tab, upd_eq, ev_const, of_int, List.map_nil] <;> rfl) hW ?_
    simp -implicitDefEqProofs only [↓ops_cons, ↓g_unOp, Nat.reduceLT, ev_tab, upd_eq, u_not, Bool.not_false, Option.map_some, ↓ops_nil, ↓w_cond, ↓w_seq, ↓w_region, ↓g_assign, ↓w_ret, ev_const, of_str, ret_one, and_true, ↓w_skip, ↓g_buildV, List.map_cons, of_int, List.map_nil, bd64, ne_eq, Nat.reduceEqDiff, not_false_eq_true, upd_ne, ↓g_alloc, zero65, ↓g_store, ↓g_buildSlice, Try.underlying26, bs3_0, ↓g_move, ↓g_append, reduceCtorEq, par0, ↓w_block, alK_some, ints_one, apS26, at_end, src_sl, true_and, wr_def, tyOk65, cells65, onS_some, onB_true]
    try rfl
theorem blkGS {H : AHeap} {r : Nat} {own : Bool} {l : List Int} (hl : l.length ≤ 1000000000) (hH : H[r]? = some ⟨ints .i64 l, own, true⟩) : Sound Try.prog 26 [.sl r 0 l.length 1] H (.sc (.string (chaG l))) H := by
  by_cases h : l.length = 16 ∧ AllW l
  · rw [chaG, if_pos h, h.1]
    exact blkAtS h.1 h.2.wd hH
  · rw [chaG, if_neg h]
    refine Sound.run 94 [.tmp 2] Try.func26 rfl rfl rfl rfl (by simp) ?_
    by_cases h16 : l.length = 16
    · have hA : ¬ AllW l := fun x => h ⟨h16, x⟩
      rw [h16]
      simp -implicitDefEqProofs only [↓w_seq, ↓w_region, ↓ops_cons, ↓g_assign, ↓ops_nil, ev_const, of_str, ↓g_move, ↓g_len, Try.underlying26, Nat.reduceLT, ev_tab, ne_eq, reduceCtorEq, not_false_eq_true, upd_ne, par0, upd_eq, len_sl, Int.cast_ofNat_Int, ↓g_binOp, of_int, ↓w_cond, ↓w_ret, ret_one, and_true, ↓w_skip, ↓w_block, onS_some, b_neq, decide_true, Bool.not_true, onB_false]
      refine w_loop (ι := Nat) (fun i s => ∃ T : Nat → AV, s = ⟨tab 94 T, H⟩ ∧ i ≤ 16 ∧ (∀ j, j < i → 0 ≤ l.getD j 0 ∧ l.getD j 0 ≤ 4294967295) ∧ T 0 = .sl r 0 16 1 ∧ T 3 = .sc (.int .i64 i)) (fun i => 16 - i) ?_ (i := 0) ?_
      · rintro i s ⟨T, rfl, a1, a0, a2, a3⟩
        by_cases hi : i < 16
        · have k0 : ∀ j : Nat, (0 : Int) ≤ (j : Int) := fun j => by omega
          have k1 : (i : Int) < 16 := by omega
          have e1 : IntKind.i64.wrap ((i : Int) + 1) = i + 1 := w64 (by omega) (by omega)
          simp -implicitDefEqProofs only [↓w_seq, ↓w_region, ↓ops_cons, ↓g_move, ↓g_binOp, Nat.reduceLT, ev_tab, a3, upd_eq, ev_const, of_int, b_lss, k1, decide_true, ↓ops_nil, ↓w_cond, ↓w_skip, ↓w_block, ↓g_indexAddr, Try.underlying26, ne_eq, reduceCtorEq, not_false_eq_true, upd_ne, a2, Nat.reduceEqDiff, adr_sl, k0, Int.cast_ofNat_Int, cells3, tyOk3, and_self, Int.toNat_natCast, Nat.mul_one, Nat.zero_add, if_true, ↓g_load, onS_some, rd_def, agg3, hH, rd_ints, h16, hi, ↓w_exit, ↓g_buildSlice, List.map_nil, bs3_0, ↓g_append, ↓g_assign, alK_some, ints_one, apS26, at_end, src_sl, true_and, onB_true]
          refine call1 (by simp -implicitDefEqProofs only [List.map_cons, Nat.reduceLT, ev_tab, upd_eq, ev_const, of_int, List.map_nil] <;> rfl) (inS _ 0 4294967295) ?_
          by_cases hb : 0 ≤ l.getD i 0 ∧ l.getD i 0 ≤ 4294967295
          · have e2 : decide (0 ≤ l.getD i 0 ∧ l.getD i 0 ≤ 4294967295) = true := decide_eq_true hb
            simp -implicitDefEqProofs only [↓ops_cons, ↓g_unOp, e2, Nat.reduceLT, ev_tab, upd_eq, u_not, Bool.not_true, Option.map_some, ↓ops_nil, ↓w_cond, ↓w_seq, ↓w_region, ↓g_assign, ↓w_ret, ev_const, of_str, ret_one, and_true, ↓w_skip, ↓g_move, ↓g_binOp, ne_eq, Nat.reduceEqDiff, not_false_eq_true, upd_ne, a3, of_int, b_add, e1, onS_some, onB_false]
            refine ⟨i + 1, by omega, _, rfl, by omega, ?_, ?_, ?_⟩
            · intro j hj
              rcases Nat.lt_or_ge j i with hj2 | hj2
              · exact a0 j hj2
              · have : j = i := by omega
                subst this; exact hb
            · simp -implicitDefEqProofs only [ne_eq, reduceCtorEq, not_false_eq_true, upd_ne, a2]
            · simp -implicitDefEqProofs only [upd_eq] <;> rfl
          · have e2 : decide (0 ≤ l.getD i 0 ∧ l.getD i 0 ≤ 4294967295) = false := decide_eq_false hb
            simp -implicitDefEqProofs only [↓ops_cons, ↓g_unOp, e2, Nat.reduceLT, ev_tab, upd_eq, u_not, Bool.not_false, Option.map_some, ↓ops_nil, ↓w_cond, ↓w_seq, ↓w_region, ↓g_assign, ↓w_ret, ev_const, of_str, ret_one, and_true, ↓w_skip, ↓g_move, ↓g_binOp, ne_eq, Nat.reduceEqDiff, not_false_eq_true, upd_ne, of_int, onS_some, onB_true]
            try rfl
        · exact absurd (fun j hj => a0 j (by omega)) hA
      · refine ⟨_, rfl, by omega, fun j hj => by omega, ?_, ?_⟩ <;> simp -implicitDefEqProofs only [ne_eq, reduceCtorEq, not_false_eq_true, upd_ne, par0, upd_eq, Int.cast_ofNat_Int] <;> rfl
    · have h2 : ¬ (l.length : Int) = 16 := by omega
      simp -implicitDefEqProofs only [↓w_seq, ↓w_region, ↓ops_cons, ↓g_assign, ↓ops_nil, ev_const, of_str, ↓g_move, ↓g_len, Try.underlying26, Nat.reduceLT, ev_tab, ne_eq, reduceCtorEq, not_false_eq_true, upd_ne, par0, upd_eq, len_sl, ↓g_binOp, of_int, ↓w_cond, ↓w_ret, ret_one, and_true, ↓w_skip, ↓w_block, onS_some, b_neq, h2, decide_false, Bool.not_false, onB_true]
      try rfl
end Go.Proofs.Ytbmadanfpicmiaa.Sim

