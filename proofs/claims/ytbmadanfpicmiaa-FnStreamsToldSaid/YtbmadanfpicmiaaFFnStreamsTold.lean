/- StreamsTold: the law returns true. -/
import Derived.Test.YtbmadanfpicmiaaFDraw5
import Derived.Test.YtbmadanfpicmiaaFLawDr
import Derived.Test.YtbmadanfpicmiaaFSameInts
import Derived.Test.YtbmadanfpicmiaaFXorTwo
namespace Go.Proofs.Ytbmadanfpicmiaa.Sim
open Go
set_option maxRecDepth 100000
set_option maxHeartbeats 40000000
set_option linter.unusedSimpArgs false
set_option linter.unusedVariables false
def csL (k n : ByteArray) (m : Int) : List Int := if chaB k n m then chaL k n m else []
def csB (k n : ByteArray) (m : Int) : Bool := decide (chaB k n m)
theorem csL_len (k n : ByteArray) (m : Int) : (csL k n m).length ≤ 1000 := by
  unfold csL
  split
  · rw [chaL_len]
    decide
  · simp
theorem csI (k n : ByteArray) (m : Int) (H : AHeap) : ∃ (x : AV) (Z : AHeap), Sound Try.prog 16 [.sc (.string k), .sc (.string n), .sc (.int .i64 m)] H (.tup [x, .sc (.bool (csB k n m))]) Z ∧ Ext H Z ∧ IsL Z x .i64 (csL k n m) := by
  unfold csB csL
  by_cases h : chaB k n m
  · rw [if_pos h, decide_eq_true h]
    exact ⟨_, _, chaI_ok k n m h H, Ext.more _ _, .at (at_end _ _) (chaL_len k n m)⟩
  · rw [if_neg h, decide_eq_false h]
    exact ⟨_, _, chaI_no k n m h H, Ext.refl _, .nil _ _⟩
theorem csS (k n : ByteArray) (m : Int) (H : AHeap) : ∃ (x : AV) (Z : AHeap), Sound Try.prog 25 [.sc (.string k), .sc (.string n), .sc (.int .i64 m)] H (.tup [x, .sc (.bool (csB k n m))]) Z ∧ Ext H Z ∧ IsL Z x .i64 (csL k n m) := by
  unfold csB csL
  by_cases h : chaB k n m
  · rw [if_pos h, decide_eq_true h]
    exact ⟨_, _, chaS_ok k n m h H, Ext.more _ _, .at (at_end _ _) (chaL_len k n m)⟩
  · rw [if_neg h, decide_eq_false h]
    exact ⟨_, _, chaS_no k n m h H, Ext.more _ _, .at (at_end _ _) rfl⟩
theorem strmV_two (k n : ByteArray) (c m : Int) : ∃ (z : ByteArray) (b : Bool), strmV k n c m = .tup [.sc (.string z), .sc (.bool b)] := by
  unfold strmV
  split
  · exact ⟨_, _, rfl⟩
  · exact ⟨_, _, rfl⟩
theorem lawFnStreamsTold (H : AHeap) (x : AV) (L : List Int) (hL0 : L.length ≤ 9223372036854775807) (hx : IsL H x .u8 L) : ∃ H', Sound Try.prog 9 [x] H (.sc (.bool true)) H' := by
  have key : ∃ v H', Sound Try.prog 9 [x] H v H' ∧ v = .sc (.bool true) := by
    refine Sound.runP (args := [x]) 131 [.tmp 2] Try.func9 rfl rfl rfl rfl (by simp) (fun v Z => v = .sc (.bool true)) ?_
    have hb := bigS hx
    by_cases hL : L.length ≤ 1048576
    · rw [bigNo hL] at hb
      simp -implicitDefEqProofs only [↓w_seq, ↓w_region, ↓ops_cons, ↓g_assign, ↓ops_nil, ev_const, of_bool, ↓g_move, Nat.reduceLT, ev_tab, ne_eq, reduceCtorEq, not_false_eq_true, upd_ne, par0]
      refine call1S (by simp -implicitDefEqProofs only [List.map_cons, Nat.reduceLT, ev_tab, upd_eq, List.map_nil] <;> rfl) hb ?_
      obtain ⟨a, b, c, d, Z1, a1, e1⟩ := drawQuarterTurn hx hL
      simp -implicitDefEqProofs only [↓ops_nil, ↓w_cond, Nat.reduceLT, ev_tab, upd_eq, ↓w_seq, ↓w_region, ↓ops_cons, ↓g_assign, ↓w_ret, ev_const, of_bool, retP_1, res_tmp, onS_some, ↓w_skip, ↓g_move, ne_eq, reduceCtorEq, not_false_eq_true, upd_ne, par0, onB_false]
      refine call1S (by simp -implicitDefEqProofs only [List.map_cons, Nat.reduceLT, ev_tab, upd_eq, List.map_nil] <;> rfl) a1 ?_
      obtain ⟨k, n, m, Z2, b1, b2⟩ := drawChaStart (e1.isL hx) hL
      have e2 := e1.trans b2
      simp -implicitDefEqProofs only [↓ops_cons, ↓g_move, ↓g_extract, Nat.reduceLT, ev_tab, upd_eq, ext_0, ne_eq, Nat.reduceEqDiff, not_false_eq_true, upd_ne, ext_1, ext_2, ext_3, ↓g_assign, ↓ops_nil, ↓w_seq, ↓w_region, reduceCtorEq, par0, onS_some]
      refine call1S (by simp -implicitDefEqProofs only [List.map_cons, Nat.reduceLT, ev_tab, upd_eq, List.map_nil] <;> rfl) b1 ?_
      obtain ⟨xi, Z3, c1, c2, c3⟩ := csI k n m Z2
      have e3 := e2.trans c2
      simp -implicitDefEqProofs only [↓ops_cons, ↓g_move, ↓g_extract, Nat.reduceLT, ev_tab, upd_eq, ext_0, ne_eq, Nat.reduceEqDiff, not_false_eq_true, upd_ne, ext_1, ext_2, ↓g_assign, ↓ops_nil, ↓w_seq, ↓w_region, onS_some]
      refine call1S (by simp -implicitDefEqProofs only [List.map_cons, Nat.reduceLT, ev_tab, ne_eq, Nat.reduceEqDiff, not_false_eq_true, upd_ne, upd_eq, List.map_nil] <;> rfl) c1 ?_
      obtain ⟨xs, Z4, d1, d2, d3⟩ := csS k n m Z3
      have e4 := e3.trans d2
      simp -implicitDefEqProofs only [↓ops_cons, ↓g_move, ↓g_extract, Nat.reduceLT, ev_tab, upd_eq, ext_0, ne_eq, Nat.reduceEqDiff, not_false_eq_true, upd_ne, ext_1, ↓g_assign, ↓ops_nil, ↓w_seq, ↓w_region, onS_some]
      refine call1S (by simp -implicitDefEqProofs only [List.map_cons, Nat.reduceLT, ev_tab, ne_eq, Nat.reduceEqDiff, not_false_eq_true, upd_ne, upd_eq, List.map_nil] <;> rfl) d1 ?_
      obtain ⟨y, Z5, f1, f2, f3⟩ := drawChaBlock (e4.isL hx) hL
      have e5 := e4.trans f3
      simp -implicitDefEqProofs only [↓ops_cons, ↓g_move, ↓g_extract, Nat.reduceLT, ev_tab, upd_eq, ext_0, ne_eq, Nat.reduceEqDiff, not_false_eq_true, upd_ne, ext_1, ↓g_assign, ↓ops_nil, ↓w_seq, ↓w_region, reduceCtorEq, par0, onS_some]
      refine call1S (by simp -implicitDefEqProofs only [List.map_cons, Nat.reduceLT, ev_tab, upd_eq, List.map_nil] <;> rfl) f2 ?_
      obtain ⟨k', n', m', s', Z6, g1, g2⟩ := drawChaStream (e5.isL hx) hL
      have e6 := e5.trans g2
      simp -implicitDefEqProofs only [↓ops_cons, ↓g_assign, ↓ops_nil, ↓w_seq, ↓w_region, Nat.reduceLT, ev_tab, upd_eq, ↓g_move, ne_eq, reduceCtorEq, not_false_eq_true, upd_ne, par0]
      refine call1S (by simp -implicitDefEqProofs only [List.map_cons, Nat.reduceLT, ev_tab, upd_eq, List.map_nil] <;> rfl) g1 ?_
      have hS := strmS k' n' m' s'
      have hI := strmI k' n' m' s'
      obtain ⟨z, w, hz⟩ := strmV_two k' n' m' s'
      rw [hz] at hS hI
      simp -implicitDefEqProofs only [↓ops_cons, ↓g_move, ↓g_extract, Nat.reduceLT, ev_tab, upd_eq, ext_0, ne_eq, Nat.reduceEqDiff, not_false_eq_true, upd_ne, ext_1, ext_2, ext_3, ↓g_assign, ↓ops_nil, ↓w_seq, ↓w_region, onS_some]
      refine call1 (by simp -implicitDefEqProofs only [List.map_cons, Nat.reduceLT, ev_tab, ne_eq, Nat.reduceEqDiff, not_false_eq_true, upd_ne, upd_eq, List.map_nil] <;> rfl) hI ?_
      simp -implicitDefEqProofs only [↓ops_cons, ↓g_move, ↓g_extract, Nat.reduceLT, ev_tab, upd_eq, ext_0, ne_eq, Nat.reduceEqDiff, not_false_eq_true, upd_ne, ext_1, ↓g_assign, ↓ops_nil, ↓w_seq, ↓w_region, onS_some]
      refine call1 (by simp -implicitDefEqProofs only [List.map_cons, Nat.reduceLT, ev_tab, ne_eq, Nat.reduceEqDiff, not_false_eq_true, upd_ne, upd_eq, List.map_nil] <;> rfl) hS ?_
      obtain ⟨u, v, Z7, u1, v1, h1, h2⟩ := drawXorTexts (e6.isL hx) hL
      simp -implicitDefEqProofs only [↓ops_cons, ↓g_move, ↓g_extract, Nat.reduceLT, ev_tab, upd_eq, ext_0, ne_eq, Nat.reduceEqDiff, not_false_eq_true, upd_ne, ext_1, ↓g_assign, ↓ops_nil, ↓w_seq, ↓w_region, reduceCtorEq, par0, onS_some]
      refine call1S (by simp -implicitDefEqProofs only [List.map_cons, Nat.reduceLT, ev_tab, upd_eq, List.map_nil] <;> rfl) h1 ?_
      have kI := qI a b c d
      have kS := qS a b c d
      have hl : (qtr (q4 a b c d) 0 1 2 3).length = 4 := by rw [qtr_len]; rfl
      generalize qtr (q4 a b c d) 0 1 2 3 = l at *
      simp -implicitDefEqProofs only [↓ops_cons, ↓g_move, ↓g_extract, Nat.reduceLT, ev_tab, upd_eq, ext_0, ne_eq, Nat.reduceEqDiff, not_false_eq_true, upd_ne, ext_1, ↓g_assign, ↓ops_nil, ↓w_seq, ↓w_region, onS_some]
      refine call1L (by simp -implicitDefEqProofs only [List.map_cons, Nat.reduceLT, ev_tab, ne_eq, Nat.reduceEqDiff, not_false_eq_true, upd_ne, upd_eq, List.map_nil]) kI ?_
      simp -implicitDefEqProofs only [↓ops_cons, ↓g_move, hl, Nat.reduceLT, ev_tab, ne_eq, Nat.reduceEqDiff, not_false_eq_true, upd_ne, upd_eq]
      refine call1L (by simp -implicitDefEqProofs only [List.map_cons, Nat.reduceLT, ev_tab, ne_eq, Nat.reduceEqDiff, not_false_eq_true, upd_ne, upd_eq, List.map_nil]) kS ?_
      simp -implicitDefEqProofs only [↓ops_cons, List.length_append, List.length_cons, List.length_nil, Nat.zero_add, hl]
      refine call1S (by simp -implicitDefEqProofs only [List.map_cons, Nat.reduceLT, ev_tab, ne_eq, Nat.reduceEqDiff, not_false_eq_true, upd_ne, upd_eq, List.map_nil] <;> rfl) (sameIntsT (.at (at_a _ _ _) hl) (.at (at_b _ _ _) hl) (by omega)) ?_
      have hlc := csL_len k n m
      have e9 : Ext Z7 ((Z7 ++ [⟨ints .i64 l, true, true⟩]) ++ [⟨ints .i64 l, true, true⟩]) := (Ext.more _ _).add _
      have hxi := e9.isL ((h2.isL (g2.isL (f3.isL (d2.isL c3)))))
      have hxs := e9.isL ((h2.isL (g2.isL (f3.isL d3))))
      simp -implicitDefEqProofs only [↓ops_cons, ↓g_move, Nat.reduceLT, ev_tab, upd_eq, yielded_tab, dstAt_s, dstAt_0, ybv_some, boolOf_b, ↓g_guard_t, ne_eq, Nat.reduceEqDiff, not_false_eq_true, upd_ne, ↓g_binOp, Try.underlying4, v_eql, beq_self_eq_true, ↓g_pick, ev_const, of_bool, pick_b, if_true, onS_some]
      refine call1S (by simp -implicitDefEqProofs only [List.map_cons, Nat.reduceLT, ev_tab, ne_eq, Nat.reduceEqDiff, not_false_eq_true, upd_ne, upd_eq, List.map_nil] <;> rfl) (sameIntsT hxi hxs (by omega)) ?_
      obtain ⟨t, t1, t2⟩ := chaBoth (((f1.ext g2).ext h2).ext e9)
      simp -implicitDefEqProofs only [↓ops_cons, ↓g_pick, Nat.reduceLT, ev_tab, ne_eq, Nat.reduceEqDiff, not_false_eq_true, upd_ne, upd_eq, ev_const, of_bool, pick_b, if_true, ↓g_move, onS_some, yielded_tab, dstAt_s, dstAt_0, ybv_some, boolOf_b, ↓g_guard_t]
      refine call1S (by simp -implicitDefEqProofs only [List.map_cons, Nat.reduceLT, ev_tab, upd_eq, List.map_nil] <;> rfl) t1 ?_
      simp -implicitDefEqProofs only [↓ops_cons, yielded_tab, dstAt_s, dstAt_0, Nat.reduceLT, ybv_some, ne_eq, Nat.reduceEqDiff, not_false_eq_true, upd_ne, upd_eq, boolOf_b, ↓g_guard_t, ↓g_move, ev_tab]
      refine call1S (by simp -implicitDefEqProofs only [List.map_cons, Nat.reduceLT, ev_tab, upd_eq, List.map_nil] <;> rfl) t2 ?_
      simp -implicitDefEqProofs only [↓ops_cons, yielded_tab, dstAt_s, dstAt_0, Nat.reduceLT, ybv_some, ne_eq, Nat.reduceEqDiff, not_false_eq_true, upd_ne, upd_eq, boolOf_b, ↓g_guard_t, ↓g_binOp, ev_tab, t_eql, beq_self_eq_true, ↓g_pick, ev_const, of_bool, pick_b, if_true, ↓g_move, onS_some, Try.underlying4, v_eql]
      refine call1 (by simp -implicitDefEqProofs only [List.map_cons, Nat.reduceLT, ev_tab, ne_eq, Nat.reduceEqDiff, not_false_eq_true, upd_ne, upd_eq, List.map_nil] <;> rfl) (xorI u v (by omega) (by omega)) ?_
      simp -implicitDefEqProofs only [↓ops_cons, yielded_tab, dstAt_s, dstAt_0, Nat.reduceLT, ybv_some, ne_eq, Nat.reduceEqDiff, not_false_eq_true, upd_ne, upd_eq, boolOf_b, ↓g_guard_t, ↓g_move, ev_tab]
      refine call1 (by simp -implicitDefEqProofs only [List.map_cons, Nat.reduceLT, ev_tab, ne_eq, Nat.reduceEqDiff, not_false_eq_true, upd_ne, upd_eq, List.map_nil] <;> rfl) (xorS u v (by omega) (by omega)) ?_
      simp -implicitDefEqProofs only [↓ops_cons, yielded_tab, dstAt_s, dstAt_0, Nat.reduceLT, ybv_some, ne_eq, Nat.reduceEqDiff, not_false_eq_true, upd_ne, upd_eq, boolOf_b, ↓g_guard_t, ↓g_binOp, ev_tab, t_eql, beq_self_eq_true, ↓g_pick, ev_const, of_bool, pick_b, if_true, ↓g_assign, ↓ops_nil, ↓w_ret, retP_1, res_tmp, onS_some]
    · rw [bigYes hL] at hb
      simp -implicitDefEqProofs only [↓w_seq, ↓w_region, ↓ops_cons, ↓g_assign, ↓ops_nil, ev_const, of_bool, ↓g_move, Nat.reduceLT, ev_tab, ne_eq, reduceCtorEq, not_false_eq_true, upd_ne, par0]
      refine call1S (by simp -implicitDefEqProofs only [List.map_cons, Nat.reduceLT, ev_tab, upd_eq, List.map_nil] <;> rfl) hb ?_
      simp -implicitDefEqProofs only [↓ops_nil, ↓w_cond, Nat.reduceLT, ev_tab, upd_eq, ↓w_seq, ↓w_region, ↓ops_cons, ↓g_assign, ↓w_ret, ev_const, of_bool, retP_1, res_tmp, onS_some, ↓w_skip, ↓g_move, ne_eq, reduceCtorEq, not_false_eq_true, upd_ne, par0, onB_true]
  obtain ⟨v, H', h1, rfl⟩ := key
  exact ⟨H', h1⟩
end Go.Proofs.Ytbmadanfpicmiaa.Sim

