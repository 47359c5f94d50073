/- Flights: what the laws ask. -/
import Derived.Test.YtcjjcpdfnndenaaFFlight2
import Derived.Test.YtcjjcpdfnndenaaFToInts
import Derived.Test.YtcjjcpdfnndenaaFLawInts
namespace Go.Proofs.Ytcjjcpdfnndenaa.Sim
open Go
set_option maxRecDepth 100000
set_option maxHeartbeats 40000000
set_option linter.unusedSimpArgs false
set_option linter.unusedVariables false
theorem szIntsN {H : AHeap} {x : AV} {l : List Int} (n : Int) (hn : 0 ≤ n ∧ n ≤ 1048576) (hx : IsL H x .i64 l) (hl : l.length ≤ 9223372036854775807) : Sound Try.prog 48 [x, .sc (.int .i64 n)] H (.sc (.int .i64 (if n - (l.length : Int) < 0 then -1 else n - l.length))) H := by
  refine Sound.run 12 [.tmp 4] Try.func48 rfl rfl rfl rfl (by simp) ?_
  have lx := fun e => hx.len e
  have e1 : IntKind.i64.wrap (n - (l.length : Int)) = n - l.length := w64 (by omega) (by omega)
  simp -implicitDefEqProofs only [↓w_seq, ↓w_region, Int.reduceNeg, ↓ops_cons, ↓g_assign, ↓ops_nil, ev_const, of_int, ↓g_move, ↓g_len, Try.underlying22, Nat.reduceLT, ev_tab, ne_eq, Nat.reduceEqDiff, not_false_eq_true, upd_ne, par1, reduceCtorEq, par0, upd_eq, lx, ↓g_binOp, ↓w_cond, ↓w_ret, ret_one, and_true, ↓w_skip, onS_some, b_sub, e1, b_lss, onB_dec]
  split <;> rfl
theorem szFlightS {H : AHeap} {x y : AV} {s g : List Int} (t : Int) (hx : IsL H x .i64 s) (hy : IsL H y .i64 g) (hs : s.length ≤ 9223372036854775807) (hg : g.length ≤ 9223372036854775807) (m : Int) (hm : 0 ≤ m ∧ m ≤ 1048576) :
    ∃ (n : Int) (Z : AHeap), Sound Try.prog 16 [flt x y t, .sc (.int .i64 m)] H (.sc (.int .i64 n)) Z ∧ Ext H Z ∧ (¬ n < 0 → s.length ≤ 1000000000 ∧ g.length ≤ 1000000000) := by
  suffices h : ∃ v Z, Sound Try.prog 16 [flt x y t, .sc (.int .i64 m)] H v Z ∧ ∃ n : Int, v = .sc (.int .i64 n) ∧ Ext H Z ∧ (¬ n < 0 → s.length ≤ 1000000000 ∧ g.length ≤ 1000000000) by
    obtain ⟨v, Z, h1, n, rfl, h2⟩ := h
    exact ⟨n, Z, h1, h2⟩
  unfold flt
  refine Sound.runP (args := [.agg [x, y, .sc (.int .i64 t)], .sc (.int .i64 m)]) 18 [.tmp 4] Try.func16 rfl rfl rfl rfl (by simp) (fun v Z => ∃ n : Int, v = .sc (.int .i64 n) ∧ Ext H Z ∧ (¬ n < 0 → s.length ≤ 1000000000 ∧ g.length ≤ 1000000000)) ?_
  have x1 := hx.one
  have y1 := hy.one
  obtain ⟨A, hA⟩ : ∃ A : Reg, A = ⟨[x, y, .sc (.int .i64 t)], true, true⟩ := ⟨_, rfl⟩
  have e0 := Ext.more H [A]
  have b0 : (H ++ [A])[H.length]? = some ⟨[x, y, .sc (.int .i64 t)], true, true⟩ := by rw [← hA]; exact hap_0 H [A]
  have c1 := szIntsN m hm (e0.isL hx) hs
  by_cases h1 : m - (s.length : Int) < 0
  · rw [if_pos h1] at c1
    simp -implicitDefEqProofs only [↓w_seq, ↓w_region, Int.reduceNeg, ↓ops_cons, ↓g_box, Nat.reduceLT, ev_tab, par0, cells_agg, ↓g_assign, ↓ops_nil, ev_const, of_int, ↓g_fieldAddrT, ne_eq, Nat.reduceEqDiff, not_false_eq_true, upd_ne, upd_eq, ↓g_load, ↓g_move, par1, alK_some, List.all_cons, x1, y1, one_int, List.all_nil, Bool.and_self, fadr29_0, Nat.zero_add, onS_some, rd_def, tyOk22, agg22, cells22, hap_0, List.getElem?_cons_zero, rd_onec, true_and]
    rw [← hA]
    refine call1S (by simp -implicitDefEqProofs only [List.map_cons, Nat.reduceLT, ev_tab, ne_eq, Nat.reduceEqDiff, not_false_eq_true, upd_ne, upd_eq, List.map_nil] <;> rfl) c1 ?_
    simp -implicitDefEqProofs only [↓ops_cons, ↓g_assign, ↓ops_nil, ↓w_seq, ↓w_region, Int.reduceNeg, Nat.reduceLT, ev_tab, upd_eq, ↓g_move, ↓g_binOp, ev_const, of_int, b_lss, Int.reduceLT, decide_true, ↓w_cond, ↓w_ret, retP_1, res_tmp, onS_some, ↓w_skip, ↓g_fieldAddrT, ne_eq, Nat.reduceEqDiff, not_false_eq_true, upd_ne, fadr29_1, Nat.zero_add, ↓g_load, rd_def, tyOk22, agg22, cells22, at_end, onB_true]
    exact ⟨_, rfl, e0, fun h => absurd (by decide) h⟩
  · rw [if_neg h1] at c1
    have c2 := szIntsN (m - s.length) ⟨by omega, by omega⟩ (e0.isL hy) hg
    by_cases h2 : m - (s.length : Int) - (g.length : Int) < 0
    · rw [if_pos h2] at c2
      simp -implicitDefEqProofs only [↓w_seq, ↓w_region, Int.reduceNeg, ↓ops_cons, ↓g_box, Nat.reduceLT, ev_tab, par0, cells_agg, ↓g_assign, ↓ops_nil, ev_const, of_int, ↓g_fieldAddrT, ne_eq, Nat.reduceEqDiff, not_false_eq_true, upd_ne, upd_eq, ↓g_load, ↓g_move, par1, alK_some, List.all_cons, x1, y1, one_int, List.all_nil, Bool.and_self, fadr29_0, Nat.zero_add, onS_some, rd_def, tyOk22, agg22, cells22, hap_0, List.getElem?_cons_zero, rd_onec, true_and]
      rw [← hA]
      refine call1S (by simp -implicitDefEqProofs only [List.map_cons, Nat.reduceLT, ev_tab, ne_eq, Nat.reduceEqDiff, not_false_eq_true, upd_ne, upd_eq, List.map_nil] <;> rfl) c1 ?_
      simp -implicitDefEqProofs only [↓ops_cons, ↓g_assign, ↓ops_nil, ↓w_seq, ↓w_region, Int.reduceNeg, Nat.reduceLT, ev_tab, upd_eq, ↓g_move, ↓g_binOp, ev_const, of_int, b_lss, h1, decide_false, ↓w_cond, ↓w_ret, retP_1, res_tmp, onS_some, ↓w_skip, ↓g_fieldAddrT, ne_eq, Nat.reduceEqDiff, not_false_eq_true, upd_ne, fadr29_1, Nat.zero_add, ↓g_load, rd_def, tyOk22, agg22, cells22, b0, rd_onec, List.getElem?_cons_succ, List.getElem?_cons_zero, onB_false]
      refine call1S (by simp -implicitDefEqProofs only [List.map_cons, Nat.reduceLT, ev_tab, ne_eq, Nat.reduceEqDiff, not_false_eq_true, upd_ne, upd_eq, List.map_nil] <;> rfl) c2 ?_
      simp -implicitDefEqProofs only [↓ops_cons, ↓g_assign, ↓ops_nil, ↓w_seq, ↓w_region, Int.reduceNeg, Nat.reduceLT, ev_tab, upd_eq, ↓g_move, ↓g_binOp, ev_const, of_int, b_lss, Int.reduceLT, decide_true, ↓w_cond, ↓w_ret, retP_1, res_tmp, onS_some, ↓w_skip, ne_eq, Nat.reduceEqDiff, not_false_eq_true, upd_ne, onB_true]
      exact ⟨_, rfl, e0, fun h => absurd (by decide) h⟩
    · rw [if_neg h2] at c2
      simp -implicitDefEqProofs only [↓w_seq, ↓w_region, Int.reduceNeg, ↓ops_cons, ↓g_box, Nat.reduceLT, ev_tab, par0, cells_agg, ↓g_assign, ↓ops_nil, ev_const, of_int, ↓g_fieldAddrT, ne_eq, Nat.reduceEqDiff, not_false_eq_true, upd_ne, upd_eq, ↓g_load, ↓g_move, par1, alK_some, List.all_cons, x1, y1, one_int, List.all_nil, Bool.and_self, fadr29_0, Nat.zero_add, onS_some, rd_def, tyOk22, agg22, cells22, hap_0, List.getElem?_cons_zero, rd_onec, true_and]
      rw [← hA]
      refine call1S (by simp -implicitDefEqProofs only [List.map_cons, Nat.reduceLT, ev_tab, ne_eq, Nat.reduceEqDiff, not_false_eq_true, upd_ne, upd_eq, List.map_nil] <;> rfl) c1 ?_
      simp -implicitDefEqProofs only [↓ops_cons, ↓g_assign, ↓ops_nil, ↓w_seq, ↓w_region, Int.reduceNeg, Nat.reduceLT, ev_tab, upd_eq, ↓g_move, ↓g_binOp, ev_const, of_int, b_lss, h1, decide_false, ↓w_cond, ↓w_ret, retP_1, res_tmp, onS_some, ↓w_skip, ↓g_fieldAddrT, ne_eq, Nat.reduceEqDiff, not_false_eq_true, upd_ne, fadr29_1, Nat.zero_add, ↓g_load, rd_def, tyOk22, agg22, cells22, b0, rd_onec, List.getElem?_cons_succ, List.getElem?_cons_zero, onB_false]
      refine call1S (by simp -implicitDefEqProofs only [List.map_cons, Nat.reduceLT, ev_tab, ne_eq, Nat.reduceEqDiff, not_false_eq_true, upd_ne, upd_eq, List.map_nil] <;> rfl) c2 ?_
      simp -implicitDefEqProofs only [↓ops_cons, ↓g_assign, ↓ops_nil, ↓w_seq, ↓w_region, Int.reduceNeg, Nat.reduceLT, ev_tab, upd_eq, ↓g_move, ↓g_binOp, ev_const, of_int, b_lss, h2, decide_false, ↓w_cond, ↓w_ret, retP_1, res_tmp, onS_some, ↓w_skip, ne_eq, Nat.reduceEqDiff, not_false_eq_true, upd_ne, onB_false]
      exact ⟨_, rfl, e0, fun h => ⟨by omega, by omega⟩⟩
theorem toFlightS {H : AHeap} {x y : AV} {a b : List Int} (t : Int) (hx : IsL H x .i64 a) (hy : IsL H y .i64 b) (ha : a.length ≤ 1000000000) (hb : b.length ≤ 1000000000) : ∃ (p q : Nat) (Z : AHeap), Sound Try.prog 18 [flt x y t] H (flt (.sl p 0 a.length 1) (.sl q 0 b.length 1) t) Z ∧ Ext H Z ∧ H.length ≤ p ∧ p < q ∧ Z[p]? = some ⟨ints .i64 a, true, true⟩ ∧ Z[q]? = some ⟨ints .i64 b, true, true⟩ := by
  suffices h : ∃ v Z, Sound Try.prog 18 [flt x y t] H v Z ∧ ∃ p q, v = flt (.sl p 0 a.length 1) (.sl q 0 b.length 1) t ∧ Ext H Z ∧ H.length ≤ p ∧ p < q ∧ Z[p]? = some ⟨ints .i64 a, true, true⟩ ∧ Z[q]? = some ⟨ints .i64 b, true, true⟩ by
    obtain ⟨v, Z, h1, p, q, rfl, h2⟩ := h
    exact ⟨p, q, Z, h1, h2⟩
  unfold flt
  refine Sound.runP (args := [.agg [x, y, .sc (.int .i64 t)]]) 16 [.cell 2 32] Try.func18 rfl rfl rfl rfl (by simp) (fun v Z => ∃ p q, v = .agg [.sl p 0 a.length 1, .sl q 0 b.length 1, .sc (.int .i64 t)] ∧ Ext H Z ∧ H.length ≤ p ∧ p < q ∧ Z[p]? = some ⟨ints .i64 a, true, true⟩ ∧ Z[q]? = some ⟨ints .i64 b, true, true⟩) ?_
  have x1 := hx.one
  have y1 := hy.one
  have c1 := fun Y => toIntsS ((Ext.more H Y).isL hx) ha
  have c2 := fun Y => toIntsS ((Ext.more H Y).isL hy) hb
  simp -implicitDefEqProofs only [↓w_seq, ↓w_region, ↓ops_cons, ↓g_box, Nat.reduceLT, ev_tab, par0, cells_agg, ↓g_alloc, zero32, Option.map_some, ↓ops_nil, ↓g_fieldAddrT, ne_eq, Nat.reduceEqDiff, not_false_eq_true, upd_ne, upd_eq, ↓g_load, alK_some, List.all_cons, one_nil, one_int, List.all_nil, Bool.and_self, true_and, List.append_assoc, List.cons_append, List.nil_append, List.length_append, List.length_cons, List.length_nil, Nat.zero_add, x1, y1, fadr29_0, Nat.add_assoc, Nat.reduceAdd, onS_some, rd_def, tyOk22, agg22, cells22, hap_0, List.getElem?_cons_zero, rd_onec]
  refine call1S (by simp -implicitDefEqProofs only [List.map_cons, Nat.reduceLT, ev_tab, upd_eq, List.map_nil] <;> rfl) (c1 _) ?_
  simp -implicitDefEqProofs only [↓ops_cons, ↓g_fieldAddrT, List.length_append, List.length_cons, List.length_nil, Nat.zero_add, Nat.reduceAdd, Nat.reduceLT, ev_tab, ne_eq, Nat.reduceEqDiff, not_false_eq_true, upd_ne, upd_eq, fadr32_0, ↓g_store, List.append_assoc, List.cons_append, List.nil_append, ↓ops_nil, ↓w_seq, ↓w_region, fadr29_1, ↓g_load, onS_some, rd_def, tyOk22, agg22, cells22, wr_def, hap_k, List.getElem?_cons_succ, List.getElem?_cons_zero, wr_c, cells_sl, Nat.reduceLeDiff, List.all_cons, one_sl, List.all_nil, Bool.and_self, and_self, ovr_fm, ovr_fn, hset_k, List.set_cons_succ, List.set_cons_zero, if_true, hap_0, rd_onec]
  refine call1S (by simp -implicitDefEqProofs only [List.map_cons, Nat.reduceLT, ev_tab, upd_eq, List.map_nil] <;> rfl) (c2 _) ?_
  simp -implicitDefEqProofs only [↓ops_cons, ↓g_fieldAddrT, List.length_append, List.length_cons, List.length_nil, Nat.zero_add, Nat.reduceAdd, Nat.reduceLT, ev_tab, ne_eq, Nat.reduceEqDiff, not_false_eq_true, upd_ne, upd_eq, fadr32_1, ↓g_store, List.append_assoc, List.cons_append, List.nil_append, ↓ops_nil, ↓w_seq, ↓w_region, fadr29_2, ↓g_load, fadr32_2, rd_def, tyOk32, agg32, cells32, wr_def, ↓w_ret, retP_1, res_cell, onS_some, tyOk3, cells3, agg3, tyOk22, cells22, hap_k, List.getElem?_cons_succ, List.getElem?_cons_zero, wr_c, cells_sl, Nat.reduceLeDiff, List.all_cons, one_sl, List.all_nil, Bool.and_self, and_self, over_s, ovr_fm, ovr_fn, hset_k, List.set_cons_succ, List.set_cons_zero, if_true, hap_0, rd_onec, Nat.le_refl, true_and, onS_ite, rd_aggc, Nat.add_assoc, List.drop_zero, List.take_succ_cons, cells_agg, cells_int, one_int, List.take_zero]
  exact ⟨_, _, rfl, Ext.more _ _, by omega, by omega, hap_k _ _ 3, hap_k _ _ 4⟩
theorem eqFlightS {H : AHeap} {x y x' y' : AV} {s g : List Int} (t : Int) (hx : IsL H x .i64 s) (hy : IsL H y .i64 g) (hx' : IsL H x' .i64 s) (hy' : IsL H y' .i64 g) (hs : s.length ≤ 1000000000) (hg : g.length ≤ 1000000000) : ∃ Z : AHeap, Sound Try.prog 20 [flt x y t, flt x' y' t] H (.sc (.bool true)) Z ∧ Ext H Z := by
  suffices h : ∃ v Z, Sound Try.prog 20 [flt x y t, flt x' y' t] H v Z ∧ v = .sc (.bool true) ∧ Ext H Z by
    obtain ⟨v, Z, h1, rfl, h2⟩ := h
    exact ⟨Z, h1, h2⟩
  unfold flt
  refine Sound.runP (args := [.agg [x, y, .sc (.int .i64 t)], .agg [x', y', .sc (.int .i64 t)]]) 22 [.tmp 4] Try.func20 rfl rfl rfl rfl (by simp) (fun v Z => v = .sc (.bool true) ∧ Ext H Z) ?_
  have x1 := hx.one
  have y1 := hy.one
  have x2 := hx'.one
  have y2 := hy'.one
  have c1 := fun Y => eqS ((Ext.more H Y).isL hx) ((Ext.more H Y).isL hx') (by omega) (by omega)
  have c2 := fun Y => eqS ((Ext.more H Y).isL hy) ((Ext.more H Y).isL hy') (by omega) (by omega)
  simp only [decide_true] at c1 c2
  simp -implicitDefEqProofs only [↓w_seq, ↓w_region, ↓ops_cons, ↓g_box, Nat.reduceLT, ev_tab, par0, cells_agg, ne_eq, Nat.reduceEqDiff, not_false_eq_true, upd_ne, par1, ↓g_assign, ↓ops_nil, ev_const, of_bool, ↓g_fieldAddrT, upd_eq, ↓g_load, alK_some, List.all_cons, x2, y2, one_int, List.all_nil, Bool.and_self, fadr32_0, Nat.zero_add, onS_some, rd_def, tyOk22, agg22, cells22, hap_0, List.getElem?_cons_zero, rd_onec, true_and, x1, y1, List.append_assoc, List.cons_append, List.nil_append, List.length_append, List.length_cons, List.length_nil]
  refine call1S (by simp -implicitDefEqProofs only [List.map_cons, Nat.reduceLT, ev_tab, ne_eq, Nat.reduceEqDiff, not_false_eq_true, upd_ne, upd_eq, List.map_nil] <;> rfl) (c1 _) ?_
  simp -implicitDefEqProofs only [↓ops_cons, ↓g_unOp, Nat.reduceLT, ev_tab, upd_eq, u_not, Bool.not_true, Option.map_some, ↓ops_nil, ↓w_cond, ↓w_seq, ↓w_region, ↓g_assign, ↓w_ret, ev_const, of_bool, retP_1, res_tmp, onS_some, ↓w_skip, ↓g_fieldAddrT, ne_eq, Nat.reduceEqDiff, not_false_eq_true, upd_ne, fadr32_1, Nat.zero_add, ↓g_load, rd_def, tyOk22, agg22, cells22, hap_k, List.getElem?_cons_succ, List.getElem?_cons_zero, rd_onec, hap_0, onB_false]
  refine call1S (by simp -implicitDefEqProofs only [List.map_cons, Nat.reduceLT, ev_tab, ne_eq, Nat.reduceEqDiff, not_false_eq_true, upd_ne, upd_eq, List.map_nil] <;> rfl) (c2 _) ?_
  simp -implicitDefEqProofs only [↓ops_cons, ↓g_unOp, Nat.reduceLT, ev_tab, upd_eq, u_not, Bool.not_true, Option.map_some, ↓ops_nil, ↓w_cond, ↓w_seq, ↓w_region, ↓g_assign, ↓w_ret, ev_const, of_bool, retP_1, res_tmp, onS_some, ↓w_skip, ↓g_fieldAddrT, ne_eq, Nat.reduceEqDiff, not_false_eq_true, upd_ne, fadr32_2, Nat.zero_add, ↓g_load, ↓g_binOp, true_and, rd_def, tyOk3, agg3, cells3, hap_k, List.getElem?_cons_succ, List.getElem?_cons_zero, rd_onec, hap_0, b_neq, decide_true, onB_false]
  exact Ext.more _ _
/-- What one may write to: none, or a whole region of its own. -/
def Own (H : AHeap) (y : AV) (l : List Int) : Prop := (y = .sc (.slice none 0 0) ∧ l = []) ∨ ∃ r, y = .sl r 0 l.length 1 ∧ H[r]? = some ⟨ints .i64 l, true, true⟩
def Apart (y : AV) (i : Nat) : Prop := ∀ r o n k, y = .sl r o n k → i ≠ r
theorem Apart.sl {i r n : Nat} (h : i ≠ r) : Apart (.sl r 0 n 1) i := fun r' o n' k e => by
  injection e with e1
  exact e1 ▸ h
theorem Apart.nil (i : Nat) : Apart (.sc (.slice none 0 0)) i := fun r o n k e => by cases e
theorem Own.sl {H : AHeap} {r : Nat} {l : List Int} (h : H[r]? = some ⟨ints .i64 l, true, true⟩) : Own H (.sl r 0 l.length 1) l := .inr ⟨r, rfl, h⟩
theorem Own.isL {H : AHeap} {y : AV} {l : List Int} (h : Own H y l) : IsL H y .i64 l := by
  rcases h with ⟨rfl, rfl⟩ | ⟨r, rfl, h⟩
  · exact .nil _ _
  · exact IsL.mk h
theorem Own.ext {H Z : AHeap} {y : AV} {l : List Int} (h : Own H y l) (e : Ext H Z) : Own Z y l := by
  rcases h with h | ⟨r, rfl, h⟩
  · exact .inl h
  · exact .inr ⟨r, rfl, e.at h⟩
theorem Own.keep {H Z : AHeap} {y : AV} {l : List Int} (h : Own H y l) (e : ∀ r o n k, y = .sl r o n k → Z[r]? = H[r]?) : Own Z y l := by
  rcases h with h | ⟨r, rfl, h⟩
  · exact .inl h
  · exact .inr ⟨r, rfl, (e _ _ _ _ rfl).trans h⟩
theorem markSk {H : AHeap} {r : Nat} {l : List Int} (k : Int) (hk : 0 ≤ k ∧ k ≤ 1000000000000) (hr : H[r]? = some ⟨ints .i64 l, true, true⟩) (hl : l.length ≤ 1000000000) : Sound Try.prog 22 [.sl r 0 l.length 1, .sc (.int .i64 k)] H (.sc (.int .i64 (k + l.length))) (H.set r ⟨ints .i64 (marked k l.length), true, true⟩) := by
  refine Sound.run 19 [.tmp 4] Try.func22 rfl rfl rfl rfl (by simp) ?_
  have hrl : r < H.length := (List.getElem?_eq_some_iff.1 hr).1
  simp -implicitDefEqProofs only [↓w_seq, ↓w_region, ↓ops_cons, ↓g_assign, ↓ops_nil, ev_const, of_int, ↓w_block]
  refine w_loop (ι := Nat) (fun i s => ∃ (T : Nat → AV) (u : List Int), s = ⟨tab 19 T, H.set r ⟨ints .i64 u, true, true⟩⟩ ∧ u.length = l.length ∧ i ≤ l.length ∧ u.take i = (marked k l.length).take i ∧ T 0 = .sl r 0 l.length 1 ∧ T 1 = .sc (.int .i64 (k + i)) ∧ T 5 = .sc (.int .i64 i)) (fun i => l.length - i) ?_ (i := 0) ?_
  · rintro i s ⟨T, u, rfl, b1, a1, b2, a3, a4, a5⟩
    by_cases h : i < l.length
    · have k1 : (i : Int) < l.length := by omega
      have k2 : (0 : Int) ≤ i := by omega
      have e1 : IntKind.i64.wrap ((i : Int) + 1) = i + 1 := w64 (by omega) (by omega)
      have e2 : IntKind.i64.wrap (k + (i : Int) + 1) = k + (i : Int) + 1 := w64 (by omega) (by omega)
      simp -implicitDefEqProofs only [↓w_seq, ↓w_region, ↓ops_cons, ↓g_move, ↓g_len, Try.underlying22, Nat.reduceLT, ev_tab, a5, ne_eq, reduceCtorEq, not_false_eq_true, upd_ne, a3, upd_eq, len_sl, ↓g_binOp, Nat.reduceEqDiff, ↓ops_nil, ↓w_cond, ↓w_skip, ↓w_block, ↓g_indexAddr, a4, adr_sl, k2, k1, cells3, tyOk3, and_self, Int.toNat_natCast, Nat.mul_one, Nat.zero_add, if_true, ↓g_store, ev_const, of_int, b_add, e2, ↓g_assign, e1, onS_some, wr_def, at_set hrl, wr_ints, b1, h, List.set_set, ↓w_exit, ↓w_ret, ret_one, b_lss, decide_true, onB_true]
      refine ⟨i + 1, by omega, _, _, rfl, ?_, by omega, ?_, ?_, ?_, ?_⟩
      · rw [List.length_set, b1]
      · rw [List.take_add_one, List.take_add_one, List.take_set_of_le (by omega), b2, List.getElem?_set_self (by omega)]
        congr 1
        have := marked_get k l.length i h
        rw [List.getD_eq_getElem?_getD, List.getElem?_eq_getElem (by rw [marked_len]; exact h)] at this
        rw [List.getElem?_eq_getElem (by rw [marked_len]; exact h)]
        simpa using this.symm
      · simp -implicitDefEqProofs only [ne_eq, reduceCtorEq, not_false_eq_true, upd_ne, a3]
      · simp -implicitDefEqProofs only [ne_eq, Nat.reduceEqDiff, not_false_eq_true, upd_ne, upd_eq]
        congr 2
        try omega
      · simp -implicitDefEqProofs only [upd_eq] <;> rfl
    · have k1 : ¬ (i : Int) < l.length := by omega
      have e : i = l.length := by omega
      have hu : u = marked k l.length := by
        rw [e, ← b1, List.take_length, b1] at b2
        rw [b2, List.take_of_length_le (by rw [marked_len]; omega)]
      simp -implicitDefEqProofs only [↓w_seq, ↓w_region, hu, ↓ops_cons, ↓g_move, ↓g_len, Try.underlying22, Nat.reduceLT, ev_tab, a5, ne_eq, reduceCtorEq, not_false_eq_true, upd_ne, a3, upd_eq, len_sl, ↓g_binOp, Nat.reduceEqDiff, ↓ops_nil, ↓w_cond, ↓w_skip, ↓w_block, ↓g_indexAddr, a4, adr_sl, k1, cells3, tyOk3, and_self, and_true, and_false, Nat.mul_one, Nat.zero_add, if_false, ↓g_store, ev_const, of_int, b_add, ↓g_assign, onS_some, ↓w_exit, ↓w_ret, ret_one, if_true, b_lss, decide_false, onB_false]
      rw [e]
  · have hH : H = H.set r ⟨ints .i64 l, true, true⟩ := by
      have := (List.getElem?_eq_some_iff.1 hr).2
      rw [← this, List.set_getElem_self]
    refine ⟨_, l, congrArg (St.mk _) hH, rfl, by omega, by simp, ?_, ?_, ?_⟩
    · simp -implicitDefEqProofs only [ne_eq, reduceCtorEq, not_false_eq_true, upd_ne, par0]
    · simp -implicitDefEqProofs only [ne_eq, Nat.reduceEqDiff, not_false_eq_true, upd_ne, par1, Int.cast_ofNat_Int] <;> simp
    · simp -implicitDefEqProofs only [upd_eq, Int.cast_ofNat_Int] <;> rfl
theorem markNk (H : AHeap) (k : Int) : Sound Try.prog 22 [.sc (.slice none 0 0), .sc (.int .i64 k)] H (.sc (.int .i64 k)) H := by
  refine Sound.run 19 [.tmp 4] Try.func22 rfl rfl rfl rfl (by simp) ?_
  simp -implicitDefEqProofs only [↓w_seq, ↓w_region, ↓ops_cons, ↓g_assign, ↓ops_nil, ev_const, of_int, ↓w_block]
  refine w_loop (ι := Nat) (fun i s => ∃ T : Nat → AV, s = ⟨tab 19 T, H⟩ ∧ i = 0 ∧ T 0 = .sc (.slice none 0 0) ∧ T 1 = .sc (.int .i64 k) ∧ T 5 = .sc (.int .i64 0)) (fun i => i) ?_ (i := 0) ?_
  · rintro i s ⟨T, rfl, rfl, a3, a4, a5⟩
    simp -implicitDefEqProofs only [↓w_seq, ↓w_region, ↓ops_cons, ↓g_move, ↓g_len, Try.underlying22, Nat.reduceLT, ev_tab, a5, ne_eq, reduceCtorEq, not_false_eq_true, upd_ne, a3, upd_eq, len_nil, ↓g_binOp, Nat.reduceEqDiff, ↓ops_nil, ↓w_cond, ↓w_skip, ↓w_block, ↓g_indexAddr, a4, ↓g_store, ev_const, of_int, b_add, ↓g_assign, Int.reduceAdd, onS_some, ↓w_exit, ↓w_ret, ret_one, and_self, if_true, b_lss, Int.reduceLT, decide_false, onB_false]
  · refine ⟨_, rfl, rfl, ?_, ?_, ?_⟩ <;> simp -implicitDefEqProofs only [ne_eq, reduceCtorEq, not_false_eq_true, upd_ne, par0, Nat.reduceEqDiff, par1, upd_eq] <;> rfl
theorem markOwn {H : AHeap} {y : AV} {l : List Int} (k : Int) (hk : 0 ≤ k ∧ k ≤ 1000000000000) (hy : Own H y l) (hl : l.length ≤ 1000000000) : ∃ Z : AHeap, Sound Try.prog 22 [y, .sc (.int .i64 k)] H (.sc (.int .i64 (k + l.length))) Z ∧ Own Z y (marked k l.length) ∧ Z.length = H.length ∧ ∀ i, Apart y i → Z[i]? = H[i]? := by
  rcases hy with ⟨rfl, rfl⟩ | ⟨r, rfl, h⟩
  · refine ⟨H, ?_, .inl ⟨rfl, rfl⟩, rfl, fun _ _ => rfl⟩
    have := markNk H k
    simpa using this
  · refine ⟨_, markSk k hk h hl, ?_, List.length_set, fun i hi => List.getElem?_set_ne (fun e => hi _ _ _ _ rfl e.symm)⟩
    refine .inr ⟨r, by rw [marked_len], List.getElem?_set_self (at_lt h)⟩
theorem heldSk {H : AHeap} {x : AV} {n : Nat} (k : Int) (hk : 0 ≤ k ∧ k ≤ 1000000000000) (hx : IsL H x .i64 (marked k n)) (hn : n ≤ 1000000000) : Sound Try.prog 23 [x, .sc (.int .i64 k)] H (.sc (.int .i64 (k + n))) H := by
  refine Sound.run 21 [.tmp 4] Try.func23 rfl rfl rfl rfl (by simp) ?_
  have lx := fun e => hx.len e
  simp only [marked_len] at lx
  simp -implicitDefEqProofs only [↓w_seq, ↓w_region, Int.reduceNeg, ↓ops_cons, ↓g_assign, ↓ops_nil, ev_const, of_int, ↓w_block]
  refine w_loop (ι := Nat) (fun i s => ∃ T : Nat → AV, s = ⟨tab 21 T, H⟩ ∧ i ≤ n ∧ T 0 = x ∧ T 1 = .sc (.int .i64 (k + i)) ∧ T 5 = .sc (.int .i64 i)) (fun i => n - i) ?_ (i := 0) ?_
  · rintro i s ⟨T, rfl, a1, a3, a4, a5⟩
    by_cases h : i < n
    · have k1 : (i : Int) < n := by omega
      have k2 : (0 : Int) ≤ i := by omega
      obtain ⟨r, o, rfl, hr⟩ := hx.get (i := i) (by rw [marked_len]; exact h)
      have e1 : IntKind.i64.wrap ((i : Int) + 1) = i + 1 := w64 (by omega) (by omega)
      have e2 : IntKind.i64.wrap (k + (i : Int) + 1) = k + (i : Int) + 1 := w64 (by omega) (by omega)
      simp -implicitDefEqProofs only [↓w_seq, ↓w_region, Int.reduceNeg, marked_len, ↓ops_cons, ↓g_move, ↓g_len, Try.underlying22, Nat.reduceLT, ev_tab, a5, ne_eq, reduceCtorEq, not_false_eq_true, upd_ne, a3, upd_eq, len_sl, ↓g_binOp, Nat.reduceEqDiff, ↓ops_nil, ↓w_cond, ↓w_skip, ↓w_block, ↓g_indexAddr, adr_sl, k2, k1, cells3, tyOk3, and_self, Int.toNat_natCast, Nat.mul_one, Nat.zero_add, if_true, ↓g_load, a4, ↓g_assign, ↓w_ret, ev_const, of_int, ret_one, and_true, b_add, e2, e1, onS_some, rd_def, agg3, hr, rd_ints, h, marked_get, b_neq, decide_true, Bool.not_true, onB_false, ↓w_exit, b_lss, onB_true]
      refine ⟨i + 1, by omega, _, rfl, by omega, ?_, ?_, ?_⟩
      · simp -implicitDefEqProofs only [ne_eq, reduceCtorEq, not_false_eq_true, upd_ne, a3, marked_len]
      · simp -implicitDefEqProofs only [ne_eq, Nat.reduceEqDiff, not_false_eq_true, upd_ne, upd_eq]
        congr 2
        try omega
      · simp -implicitDefEqProofs only [upd_eq] <;> rfl
    · have k1 : ¬ (i : Int) < n := by omega
      have e : i = n := by omega
      subst e
      simp -implicitDefEqProofs only [↓w_seq, ↓w_region, Int.reduceNeg, ↓ops_cons, ↓g_move, ↓g_len, Try.underlying22, Nat.reduceLT, ev_tab, a5, ne_eq, reduceCtorEq, not_false_eq_true, upd_ne, a3, upd_eq, lx, ↓g_binOp, Nat.reduceEqDiff, ↓ops_nil, ↓w_cond, ↓w_skip, ↓w_block, ↓g_indexAddr, ↓g_load, a4, ↓g_assign, ↓w_ret, ev_const, of_int, ret_one, and_true, b_add, onS_some, ↓w_exit, and_self, if_true, b_lss, k1, decide_false, onB_false]
  · refine ⟨_, rfl, by omega, ?_, ?_, ?_⟩
    · simp -implicitDefEqProofs only [ne_eq, reduceCtorEq, not_false_eq_true, upd_ne, par0]
    · simp -implicitDefEqProofs only [ne_eq, Nat.reduceEqDiff, not_false_eq_true, upd_ne, par1, Int.cast_ofNat_Int] <;> simp
    · simp -implicitDefEqProofs only [upd_eq, Int.cast_ofNat_Int] <;> rfl
theorem markFlightS {H : AHeap} {x y : AV} {s g : List Int} (t : Int) (hx : Own H x s) (hy : Own H y g) (hs : s.length ≤ 1000000000) (hg : g.length ≤ 1000000000) (hxy : ∀ r o n k, y = .sl r o n k → Apart x r) : ∃ Z : AHeap, Sound Try.prog 21 [flt x y t, .sc (.int .i64 1)] H (.sc (.int .i64 (1 + s.length + g.length))) Z ∧ Own Z x (marked 1 s.length) ∧ Own Z y (marked (1 + s.length) g.length) ∧ H.length ≤ Z.length ∧ ∀ i, i < H.length → Apart x i → Apart y i → Z[i]? = H[i]? := by
  suffices h : ∃ v Z, Sound Try.prog 21 [flt x y t, .sc (.int .i64 1)] H v Z ∧ v = .sc (.int .i64 (1 + s.length + g.length)) ∧ Own Z x (marked 1 s.length) ∧ Own Z y (marked (1 + s.length) g.length) ∧ H.length ≤ Z.length ∧ ∀ i, i < H.length → Apart x i → Apart y i → Z[i]? = H[i]? by
    obtain ⟨v, Z, h1, rfl, h2⟩ := h
    exact ⟨Z, h1, h2⟩
  unfold flt
  refine Sound.runP (args := [.agg [x, y, .sc (.int .i64 t)], .sc (.int .i64 1)]) 14 [.tmp 4] Try.func21 rfl rfl rfl rfl (by simp) (fun v Z => v = .sc (.int .i64 (1 + s.length + g.length)) ∧ Own Z x (marked 1 s.length) ∧ Own Z y (marked (1 + s.length) g.length) ∧ H.length ≤ Z.length ∧ ∀ i, i < H.length → Apart x i → Apart y i → Z[i]? = H[i]?) ?_
  have x1 := hx.isL.one
  have y1 := hy.isL.one
  obtain ⟨A, hA⟩ : ∃ A : Reg, A = ⟨[x, y, .sc (.int .i64 t)], true, true⟩ := ⟨_, rfl⟩
  have e0 := Ext.more H [A]
  have b0 : (H ++ [A])[H.length]? = some ⟨[x, y, .sc (.int .i64 t)], true, true⟩ := by rw [← hA]; exact hap_0 H [A]
  obtain ⟨Z1, c1, c2, c3, c4⟩ := markOwn 1 (by omega) (hx.ext e0) hs
  have ax : Apart x H.length := fun r o n k e => by
    rcases hx with ⟨rfl, _⟩ | ⟨r', rfl, h⟩
    · cases e
    · injection e with e1
      subst e1
      have := at_lt h
      omega
  have b1 := (c4 _ ax).trans b0
  have hy1 : Own Z1 y g := (hy.ext e0).keep fun r o n k e => c4 r (hxy r o n k e)
  obtain ⟨Z2, d1, d2, d3, d4⟩ := markOwn (1 + s.length) (by omega) hy1 hg
  have hx2 : Own Z2 x (marked 1 s.length) := c2.keep fun r o n k e => d4 r fun r' o' n' k' e' h => hxy r' o' n' k' e' r o n k e h.symm
  simp -implicitDefEqProofs only [↓w_seq, ↓w_region, ↓ops_cons, ↓g_box, Nat.reduceLT, ev_tab, par0, cells_agg, ↓g_assign, ↓ops_nil, ev_const, of_int, ↓g_fieldAddrT, ne_eq, Nat.reduceEqDiff, not_false_eq_true, upd_ne, upd_eq, ↓g_load, ↓g_move, par1, alK_some, List.all_cons, x1, y1, one_int, List.all_nil, Bool.and_self, fadr32_0, Nat.zero_add, onS_some, rd_def, tyOk22, agg22, cells22, hap_0, List.getElem?_cons_zero, rd_onec, true_and]
  rw [← hA]
  refine call1S (by simp -implicitDefEqProofs only [List.map_cons, Nat.reduceLT, ev_tab, ne_eq, Nat.reduceEqDiff, not_false_eq_true, upd_ne, upd_eq, List.map_nil] <;> rfl) c1 ?_
  simp -implicitDefEqProofs only [↓ops_cons, ↓g_assign, ↓ops_nil, ↓w_seq, ↓w_region, Nat.reduceLT, ev_tab, upd_eq, ↓g_fieldAddrT, ne_eq, Nat.reduceEqDiff, not_false_eq_true, upd_ne, fadr32_1, Nat.zero_add, ↓g_load, ↓g_move, onS_some, rd_def, tyOk22, agg22, cells22, b1, rd_onec, List.getElem?_cons_succ, List.getElem?_cons_zero]
  refine call1S (by simp -implicitDefEqProofs only [List.map_cons, Nat.reduceLT, ev_tab, ne_eq, Nat.reduceEqDiff, not_false_eq_true, upd_ne, upd_eq, List.map_nil] <;> rfl) d1 ?_
  simp -implicitDefEqProofs only [↓ops_cons, ↓g_assign, ↓ops_nil, ↓w_seq, ↓w_region, Nat.reduceLT, ev_tab, upd_eq, ↓g_move, ↓w_ret, retP_1, res_tmp, onS_some, true_and]
  refine ⟨hx2, d2, ?_, fun i hi h1 h2 => ?_⟩
  · rw [d3, c3, List.length_append]
    omega
  · rw [d4 i h2, c4 i h1]
    exact e0.2 i hi
theorem heldFlightS {H : AHeap} {x y : AV} {a b : Nat} (t : Int) (hx : IsL H x .i64 (marked 1 a)) (hy : IsL H y .i64 (marked (1 + a) b)) (ha : a ≤ 1000000000) (hb : b ≤ 1000000000) : ∃ Z : AHeap, Sound Try.prog 30 [flt x y t, .sc (.int .i64 1)] H (.sc (.int .i64 (1 + a + b))) Z ∧ Ext H Z := by
  suffices h : ∃ v Z, Sound Try.prog 30 [flt x y t, .sc (.int .i64 1)] H v Z ∧ v = .sc (.int .i64 (1 + a + b)) ∧ Ext H Z by
    obtain ⟨v, Z, h1, rfl, h2⟩ := h
    exact ⟨Z, h1, h2⟩
  unfold flt
  refine Sound.runP (args := [.agg [x, y, .sc (.int .i64 t)], .sc (.int .i64 1)]) 18 [.tmp 4] Try.func30 rfl rfl rfl rfl (by simp) (fun v Z => v = .sc (.int .i64 (1 + a + b)) ∧ Ext H Z) ?_
  have x1 := hx.one
  have y1 := hy.one
  have c1 := fun Y => heldSk 1 (by omega) ((Ext.more H Y).isL hx) ha
  have c2 := fun Y => heldSk (1 + a) (by omega) ((Ext.more H Y).isL hy) hb
  have k1 : ¬ (1 : Int) + a < 0 := by omega
  have k2 : ¬ (1 : Int) + a + b < 0 := by omega
  simp -implicitDefEqProofs only [↓w_seq, ↓w_region, Int.reduceNeg, ↓ops_cons, ↓g_box, Nat.reduceLT, ev_tab, par0, cells_agg, ↓g_assign, ↓ops_nil, ev_const, of_int, ↓g_fieldAddrT, ne_eq, Nat.reduceEqDiff, not_false_eq_true, upd_ne, upd_eq, ↓g_load, ↓g_move, par1, alK_some, List.all_cons, x1, y1, one_int, List.all_nil, Bool.and_self, fadr32_0, Nat.zero_add, onS_some, rd_def, tyOk22, agg22, cells22, hap_0, List.getElem?_cons_zero, rd_onec, true_and]
  refine call1S (by simp -implicitDefEqProofs only [List.map_cons, Nat.reduceLT, ev_tab, ne_eq, Nat.reduceEqDiff, not_false_eq_true, upd_ne, upd_eq, List.map_nil] <;> rfl) (c1 _) ?_
  simp -implicitDefEqProofs only [↓ops_cons, ↓g_assign, ↓ops_nil, ↓w_seq, ↓w_region, Int.reduceNeg, Nat.reduceLT, ev_tab, upd_eq, ↓g_move, ↓g_binOp, ev_const, of_int, b_lss, k1, decide_false, ↓w_cond, ↓w_ret, retP_1, res_tmp, onS_some, ↓w_skip, ↓g_fieldAddrT, ne_eq, Nat.reduceEqDiff, not_false_eq_true, upd_ne, fadr32_1, Nat.zero_add, ↓g_load, rd_def, tyOk22, agg22, cells22, hap_0, List.getElem?_cons_zero, rd_onec, List.getElem?_cons_succ, onB_false]
  refine call1S (by simp -implicitDefEqProofs only [List.map_cons, Nat.reduceLT, ev_tab, ne_eq, Nat.reduceEqDiff, not_false_eq_true, upd_ne, upd_eq, List.map_nil] <;> rfl) (c2 _) ?_
  simp -implicitDefEqProofs only [↓ops_cons, ↓g_assign, ↓ops_nil, ↓w_seq, ↓w_region, Int.reduceNeg, Nat.reduceLT, ev_tab, upd_eq, ↓g_move, ↓g_binOp, ev_const, of_int, b_lss, k2, decide_false, ↓w_cond, ↓w_ret, retP_1, res_tmp, onS_some, ↓w_skip, ne_eq, Nat.reduceEqDiff, not_false_eq_true, upd_ne, true_and, onB_false]
  exact Ext.more _ _
end Go.Proofs.Ytcjjcpdfnndenaa.Sim

