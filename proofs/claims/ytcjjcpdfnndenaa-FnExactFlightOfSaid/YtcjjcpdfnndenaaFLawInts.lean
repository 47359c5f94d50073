/- What the laws ask of slices of numbers: whether two are alike; a mark in each place; whether the marks are still there. -/
import Derived.Test.YtcjjcpdfnndenaaTy
import Derived.Test.YtcjjcpdfnndenaaChecked
namespace Go.Proofs.Ytcjjcpdfnndenaa.Sim
open Go
set_option maxRecDepth 100000
set_option linter.unusedSimpArgs false
set_option linter.unusedVariables false
theorem eqS {H : AHeap} {x y : AV} {l m : List Int} (hx : IsL H x .i64 l) (hy : IsL H y .i64 m) (hl : l.length ≤ 1000000000000) (hm : m.length ≤ 1000000000000) : Sound Try.prog 15 [x, y] H (.sc (.bool (decide (l = m)))) H := by
  refine Sound.run 26 [.tmp 4] Try.func15 rfl rfl rfl rfl (by simp) ?_
  have lx := fun e => hx.len e
  have ly := fun e => hy.len e
  simp -implicitDefEqProofs only [↓w_seq, ↓w_region, ↓ops_cons, ↓g_assign, ↓ops_nil, ev_const, of_bool, ↓g_move, ↓g_len, Try.underlying22, Nat.reduceLT, ev_tab, ne_eq, reduceCtorEq, not_false_eq_true, upd_ne, par0, upd_eq, lx, Nat.reduceEqDiff, par1, ly, ↓g_binOp, ↓w_cond, ↓w_ret, ret_one, and_true, ↓w_skip, ↓w_block, of_int, onS_some, b_neq, onB_not, onB_dec]
  by_cases e : (l.length : Int) = m.length
  · rw [if_pos e]
    have e0 : l.length = m.length := by omega
    refine w_loop (ι := Nat) (fun i s => ∃ T : Nat → AV, s = ⟨tab 26 T, H⟩ ∧ i ≤ l.length ∧ (∀ j, j < i → l.getD j 0 = m.getD j 0) ∧ T 0 = x ∧ T 1 = y ∧ T 5 = .sc (.int .i64 i)) (fun i => l.length - i) ?_ (i := 0) ?_
    · rintro i s ⟨T, rfl, a1, a2, a3, a4, a5⟩
      by_cases h : i < l.length
      · have k1 : (i : Int) < l.length := by omega
        have k2 : (0 : Int) ≤ i := by omega
        have k3 : (i : Int) < m.length := by omega
        have k4 : i < m.length := by omega
        simp -implicitDefEqProofs only [↓w_seq, ↓w_region, ↓ops_cons, ↓g_move, ↓g_len, Try.underlying22, Nat.reduceLT, ev_tab, a5, ne_eq, reduceCtorEq, not_false_eq_true, upd_ne, a3, upd_eq, lx, ↓g_binOp, Nat.reduceEqDiff, ↓ops_nil, ↓w_cond, ↓w_skip, ↓w_block, ↓w_exit, ↓g_assign, ↓w_ret, ev_const, of_bool, ret_one, and_true, if_true, onS_some, b_lss, k1, decide_true, onB_true]
        refine drawn [(3, 0), (7, 0)] follows (by kernel_rfl) (by kernel_rfl) ?_
        obtain ⟨r, o, rfl, hr⟩ := hx.get h
        obtain ⟨q, o2, rfl, hq⟩ := hy.get (i := i) (by omega)
        simp -implicitDefEqProofs only [↓dops_cons, ↓g_move, ↓g_indexAddr, Try.underlying22, Nat.reduceLT, ev_tab, ne_eq, reduceCtorEq, not_false_eq_true, upd_ne, a3, Nat.reduceEqDiff, a5, upd_eq, adr_sl, k2, k1, cells3, tyOk3, and_self, Int.toNat_natCast, Nat.mul_one, Nat.zero_add, if_true, ↓g_load, a4, k3, ↓g_binOp, ↓dops_p, ↓w_cond, ↓w_seq, ↓w_region, ↓ops_cons, ↓g_assign, ↓ops_nil, ↓w_ret, ev_const, of_bool, ret_one, and_true, ↓w_skip, of_int, b_add, onS_some, rd_def, agg3, hq, rd_ints, k4, hr, h, b_neq, onB_not, onB_dec]
        refine ⟨pairs_cons (same_H rfl) (pairs_cons (same_H rfl) pairs_nil), ?_⟩
        by_cases q : l.getD i 0 = m.getD i 0
        · have e1 : IntKind.i64.wrap ((i : Int) + 1) = i + 1 := w64 (by omega) (by omega)
          simp -implicitDefEqProofs only [q, decide_true, Bool.not_true, e1, if_true]
          refine ⟨i + 1, by omega, _, rfl, by omega, ?_, ?_, ?_, ?_⟩
          · intro j hj
            rcases Nat.lt_or_ge j i with hj2 | hj2
            · exact a2 j hj2
            · have : j = i := by omega
              subst this; exact q
          · simp -implicitDefEqProofs only [ne_eq, reduceCtorEq, not_false_eq_true, upd_ne, a3]
          · simp -implicitDefEqProofs only [ne_eq, Nat.reduceEqDiff, not_false_eq_true, upd_ne, a4]
          · simp -implicitDefEqProofs only [upd_eq] <;> rfl
        · have hne : l ≠ m := fun h => q (by rw [h])
          simp -implicitDefEqProofs only [q, decide_false, Bool.not_false, hne, if_false]
      · have k1 : ¬ (i : Int) < l.length := by omega
        have heq : l = m := by
          apply List.ext_getElem e0
          intro j h1 h2
          have := a2 j (by omega)
          simpa [h1, h2] using this
        have hd : decide (l = m) = true := by simp [heq]
        rw [hd]
        simp -implicitDefEqProofs only [↓w_seq, ↓w_region, ↓ops_cons, ↓g_move, ↓g_len, Try.underlying22, Nat.reduceLT, ev_tab, a5, ne_eq, reduceCtorEq, not_false_eq_true, upd_ne, a3, upd_eq, lx, ↓g_binOp, Nat.reduceEqDiff, ↓ops_nil, ↓w_cond, ↓w_skip, ↓w_block, ↓w_exit, ↓g_assign, ↓w_ret, ev_const, of_bool, ret_one, and_self, if_true, onS_some, b_lss, k1, decide_false, onB_false]
    · refine ⟨_, rfl, by omega, ?_, ?_, ?_, ?_⟩
      · intro j hj; omega
      · simp -implicitDefEqProofs only [ne_eq, reduceCtorEq, not_false_eq_true, upd_ne, par0]
      · simp -implicitDefEqProofs only [ne_eq, Nat.reduceEqDiff, not_false_eq_true, upd_ne, par1]
      · simp -implicitDefEqProofs only [upd_eq, Int.cast_ofNat_Int] <;> rfl
  · have hne : l ≠ m := fun h => e (by rw [h])
    rw [if_neg e]
    simp -implicitDefEqProofs only [hne, decide_false]
def marked (k : Int) (n : Nat) : List Int := (List.range n).map fun i => k + (i : Nat)
theorem marked_len (k : Int) (n : Nat) : (marked k n).length = n := by simp [marked]
theorem marked_get (k : Int) (n i : Nat) (h : i < n) : (marked k n).getD i 0 = k + i := by simp [marked, h]
theorem heldS {H : AHeap} {x : AV} {n : Nat} (hx : IsL H x .i64 (marked 1 n)) (hn : n ≤ 1000000000000) : Sound Try.prog 23 [x, .sc (.int .i64 1)] H (.sc (.int .i64 (n + 1))) H := by
  refine Sound.run 21 [.tmp 4] Try.func23 rfl rfl rfl rfl (by simp) ?_
  have lx := fun e => hx.len e
  simp only [marked_len] at lx
  simp -implicitDefEqProofs only [↓w_seq, ↓w_region, Int.reduceNeg, ↓ops_cons, ↓g_assign, ↓ops_nil, ev_const, of_int, ↓w_block]
  refine w_loop (ι := Nat) (fun i s => ∃ T : Nat → AV, s = ⟨tab 21 T, H⟩ ∧ i ≤ n ∧ T 0 = x ∧ T 1 = .sc (.int .i64 (1 + i)) ∧ T 5 = .sc (.int .i64 i)) (fun i => n - i) ?_ (i := 0) ?_
  · rintro i s ⟨T, rfl, a1, a3, a4, a5⟩
    by_cases h : i < n
    · have k1 : (i : Int) < n := by omega
      have k2 : (0 : Int) ≤ i := by omega
      obtain ⟨r, o, rfl, hr⟩ := hx.get (i := i) (by rw [marked_len]; exact h)
      have e1 : IntKind.i64.wrap ((i : Int) + 1) = i + 1 := w64 (by omega) (by omega)
      have e2 : IntKind.i64.wrap (1 + (i : Int) + 1) = 1 + (i : Int) + 1 := w64 (by omega) (by omega)
      simp -implicitDefEqProofs only [↓w_seq, ↓w_region, Int.reduceNeg, marked_len, ↓ops_cons, ↓g_move, ↓g_len, Try.underlying22, Nat.reduceLT, ev_tab, a5, ne_eq, reduceCtorEq, not_false_eq_true, upd_ne, a3, upd_eq, len_sl, ↓g_binOp, Nat.reduceEqDiff, ↓ops_nil, ↓w_cond, ↓w_skip, ↓w_block, ↓g_indexAddr, adr_sl, k2, k1, cells3, tyOk3, and_self, Int.toNat_natCast, Nat.mul_one, Nat.zero_add, if_true, ↓g_load, a4, ↓g_assign, ↓w_ret, ev_const, of_int, ret_one, and_true, b_add, e2, e1, onS_some, rd_def, agg3, hr, rd_ints, h, marked_get, b_neq, decide_true, Bool.not_true, onB_false, ↓w_exit, b_lss, onB_true]
      refine ⟨i + 1, by omega, _, rfl, by omega, ?_, ?_, ?_⟩
      · simp -implicitDefEqProofs only [ne_eq, reduceCtorEq, not_false_eq_true, upd_ne, a3, marked_len]
      · simp -implicitDefEqProofs only [ne_eq, Nat.reduceEqDiff, not_false_eq_true, upd_ne, upd_eq]
        congr 2
        try omega
      · simp -implicitDefEqProofs only [upd_eq] <;> rfl
    · have k1 : ¬ (i : Int) < n := by omega
      have e : i = n := by omega
      subst e
      simp -implicitDefEqProofs only [↓w_seq, ↓w_region, Int.reduceNeg, ↓ops_cons, ↓g_move, ↓g_len, Try.underlying22, Nat.reduceLT, ev_tab, a5, ne_eq, reduceCtorEq, not_false_eq_true, upd_ne, a3, upd_eq, lx, ↓g_binOp, Nat.reduceEqDiff, ↓ops_nil, ↓w_cond, ↓w_skip, ↓w_block, ↓g_indexAddr, ↓g_load, a4, ↓g_assign, ↓w_ret, ev_const, of_int, ret_one, and_true, b_add, onS_some, ↓w_exit, if_true, b_lss, k1, decide_false, onB_false]
      rw [Int.add_comm]
  · refine ⟨_, rfl, by omega, ?_, ?_, ?_⟩
    · simp -implicitDefEqProofs only [ne_eq, reduceCtorEq, not_false_eq_true, upd_ne, par0]
    · simp -implicitDefEqProofs only [ne_eq, Nat.reduceEqDiff, not_false_eq_true, upd_ne, par1, Int.cast_ofNat_Int, Int.reduceAdd] <;> rfl
    · simp -implicitDefEqProofs only [upd_eq, Int.cast_ofNat_Int] <;> rfl
/-- The heap behind the marks. -/
theorem markS {H : AHeap} {r : Nat} {l : List Int} (hr : H[r]? = some ⟨ints .i64 l, true, true⟩) (hl : l.length ≤ 1000000000000) : Sound Try.prog 22 [.sl r 0 l.length 1, .sc (.int .i64 1)] H (.sc (.int .i64 (l.length + 1))) (H.set r ⟨ints .i64 (marked 1 l.length), true, true⟩) := by
  refine Sound.run 19 [.tmp 4] Try.func22 rfl rfl rfl rfl (by simp) ?_
  have hrl : r < H.length := (List.getElem?_eq_some_iff.1 hr).1
  simp -implicitDefEqProofs only [↓w_seq, ↓w_region, ↓ops_cons, ↓g_assign, ↓ops_nil, ev_const, of_int, ↓w_block]
  refine w_loop (ι := Nat) (fun i s => ∃ (T : Nat → AV) (u : List Int), s = ⟨tab 19 T, H.set r ⟨ints .i64 u, true, true⟩⟩ ∧ u.length = l.length ∧ i ≤ l.length ∧ u.take i = (marked 1 l.length).take i ∧ T 0 = .sl r 0 l.length 1 ∧ T 1 = .sc (.int .i64 (1 + i)) ∧ T 5 = .sc (.int .i64 i)) (fun i => l.length - i) ?_ (i := 0) ?_
  · rintro i s ⟨T, u, rfl, b1, a1, b2, a3, a4, a5⟩
    by_cases h : i < l.length
    · have k1 : (i : Int) < l.length := by omega
      have k2 : (0 : Int) ≤ i := by omega
      have e1 : IntKind.i64.wrap ((i : Int) + 1) = i + 1 := w64 (by omega) (by omega)
      have e2 : IntKind.i64.wrap (1 + (i : Int) + 1) = 1 + (i : Int) + 1 := w64 (by omega) (by omega)
      simp -implicitDefEqProofs only [↓w_seq, ↓w_region, ↓ops_cons, ↓g_move, ↓g_len, Try.underlying22, Nat.reduceLT, ev_tab, a5, ne_eq, reduceCtorEq, not_false_eq_true, upd_ne, a3, upd_eq, len_sl, ↓g_binOp, Nat.reduceEqDiff, ↓ops_nil, ↓w_cond, ↓w_skip, ↓w_block, ↓g_indexAddr, a4, adr_sl, k2, k1, cells3, tyOk3, and_self, Int.toNat_natCast, Nat.mul_one, Nat.zero_add, if_true, ↓g_store, ev_const, of_int, b_add, e2, ↓g_assign, e1, onS_some, wr_def, at_set hrl, wr_ints, b1, h, List.set_set, ↓w_exit, ↓w_ret, ret_one, b_lss, decide_true, onB_true]
      refine ⟨i + 1, by omega, _, _, rfl, ?_, by omega, ?_, ?_, ?_, ?_⟩
      · rw [List.length_set, b1]
      · rw [List.take_add_one, List.take_add_one, List.take_set_of_le (by omega), b2, List.getElem?_set_self (by omega)]
        congr 1
        have := marked_get 1 l.length i h
        rw [List.getD_eq_getElem?_getD, List.getElem?_eq_getElem (by rw [marked_len]; exact h)] at this
        rw [List.getElem?_eq_getElem (by rw [marked_len]; exact h)]
        simpa using this.symm
      · simp -implicitDefEqProofs only [ne_eq, reduceCtorEq, not_false_eq_true, upd_ne, a3]
      · simp -implicitDefEqProofs only [ne_eq, Nat.reduceEqDiff, not_false_eq_true, upd_ne, upd_eq]
        congr 2
        try omega
      · simp -implicitDefEqProofs only [upd_eq] <;> rfl
    · have k1 : ¬ (i : Int) < l.length := by omega
      have e : i = l.length := by omega
      have hu : u = marked 1 l.length := by
        rw [e, ← b1, List.take_length, b1] at b2
        rw [b2, List.take_of_length_le (by rw [marked_len]; omega)]
      simp -implicitDefEqProofs only [↓w_seq, ↓w_region, hu, ↓ops_cons, ↓g_move, ↓g_len, Try.underlying22, Nat.reduceLT, ev_tab, a5, ne_eq, reduceCtorEq, not_false_eq_true, upd_ne, a3, upd_eq, len_sl, ↓g_binOp, Nat.reduceEqDiff, ↓ops_nil, ↓w_cond, ↓w_skip, ↓w_block, ↓g_indexAddr, a4, adr_sl, k1, cells3, tyOk3, and_self, and_true, and_false, Nat.mul_one, Nat.zero_add, if_false, ↓g_store, ev_const, of_int, b_add, ↓g_assign, onS_some, ↓w_exit, ↓w_ret, ret_one, if_true, b_lss, decide_false, onB_false]
      rw [e, Int.add_comm]
  · have hH : H = H.set r ⟨ints .i64 l, true, true⟩ := by
      have := (List.getElem?_eq_some_iff.1 hr).2
      rw [← this, List.set_getElem_self]
    refine ⟨_, l, congrArg (St.mk _) hH, rfl, by omega, by simp, ?_, ?_, ?_⟩
    · simp -implicitDefEqProofs only [ne_eq, reduceCtorEq, not_false_eq_true, upd_ne, par0]
    · simp -implicitDefEqProofs only [ne_eq, Nat.reduceEqDiff, not_false_eq_true, upd_ne, par1, Int.cast_ofNat_Int, Int.reduceAdd] <;> rfl
    · simp -implicitDefEqProofs only [upd_eq, Int.cast_ofNat_Int] <;> rfl
theorem markN (H : AHeap) : Sound Try.prog 22 [.sc (.slice none 0 0), .sc (.int .i64 1)] H (.sc (.int .i64 1)) H := by
  refine Sound.run 19 [.tmp 4] Try.func22 rfl rfl rfl rfl (by simp) ?_
  simp -implicitDefEqProofs only [↓w_seq, ↓w_region, ↓ops_cons, ↓g_assign, ↓ops_nil, ev_const, of_int, ↓w_block]
  refine w_loop (ι := Nat) (fun i s => ∃ T : Nat → AV, s = ⟨tab 19 T, H⟩ ∧ i = 0 ∧ T 0 = .sc (.slice none 0 0) ∧ T 1 = .sc (.int .i64 1) ∧ T 5 = .sc (.int .i64 0)) (fun i => i) ?_ (i := 0) ?_
  · rintro i s ⟨T, rfl, rfl, a3, a4, a5⟩
    simp -implicitDefEqProofs only [↓w_seq, ↓w_region, ↓ops_cons, ↓g_move, ↓g_len, Try.underlying22, Nat.reduceLT, ev_tab, a5, ne_eq, reduceCtorEq, not_false_eq_true, upd_ne, a3, upd_eq, len_nil, ↓g_binOp, Nat.reduceEqDiff, ↓ops_nil, ↓w_cond, ↓w_skip, ↓w_block, ↓g_indexAddr, a4, ↓g_store, ev_const, of_int, b_add, Int.reduceAdd, ↓g_assign, onS_some, ↓w_exit, ↓w_ret, ret_one, and_self, if_true, b_lss, Int.reduceLT, decide_false, onB_false]
  · refine ⟨_, rfl, rfl, ?_, ?_, ?_⟩ <;> simp -implicitDefEqProofs only [ne_eq, reduceCtorEq, not_false_eq_true, upd_ne, par0, Nat.reduceEqDiff, par1, upd_eq] <;> rfl
theorem markS' {H : AHeap} {r n : Nat} {l : List Int} (hr : H[r]? = some ⟨ints .i64 l, true, true⟩) (hn : l.length = n) (hl : n ≤ 1000000000000) : Sound Try.prog 22 [.sl r 0 n 1, .sc (.int .i64 1)] H (.sc (.int .i64 (n + 1))) (H.set r ⟨ints .i64 (marked 1 n), true, true⟩) := by
  subst hn
  exact markS hr hl
end Go.Proofs.Ytcjjcpdfnndenaa.Sim

