/- ReadAck: the law returns true. -/
import Derived.Test.YtcjjcpdfnndenaaFRAck
import Derived.Test.YtcjjcpdfnndenaaFLawInts
namespace Go.Proofs.Ytcjjcpdfnndenaa.Sim
open Go
set_option maxRecDepth 100000
set_option maxHeartbeats 4000000
set_option linter.unusedSimpArgs false
set_option linter.unusedVariables false
theorem rAck_len {z : ByteArray} {l : List Int} (h : rAck z = some l) : l.length ≤ 100 := by
  unfold rAck at h
  split at h
  · split at h
    · cases h
    · unfold fin at h
      split at h
      · split at h
        · rename_i hc
          injection h with h
          subst h
          exact hc.1.2
        · cases h
      · cases h
  · cases h
theorem rI_some {z : ByteArray} {l : List Int} (hz : z.size ≤ 1000000000) (h : rAck z = some l) (H : AHeap) : Sound Try.prog 27 [.sc (.string z)] H (.tup [.sl H.length 0 l.length 1, .sc (.bool true)]) (H ++ [⟨ints .i64 l, true, true⟩]) := by
  obtain ⟨v, Z, h1, h2⟩ := rAckI z hz
  rw [h] at h2
  obtain ⟨x, rfl, hx⟩ := h2
  exact Sound.fresh H x _ h1 hx (FlatReg.ints _ _ _ _) (flats_cons (.sc _) flats_nil) (.tups (.cons (.sl (if_pos rfl)) (.cons (.flat (.sc _)) .nil)))
theorem rS_some {z : ByteArray} {l : List Int} (hz : z.size ≤ 1000000000) (h : rAck z = some l) (H : AHeap) : Sound Try.prog 26 [.sc (.string z)] H (.tup [.sl H.length 0 l.length 1, .sc (.bool true)]) (H ++ [⟨ints .i64 l, true, true⟩]) := by
  obtain ⟨v, Z, h1, h2⟩ := rAckS z hz
  rw [h] at h2
  obtain ⟨x, rfl, hx⟩ := h2
  exact Sound.fresh H x _ h1 hx (FlatReg.ints _ _ _ _) (flats_cons (.sc _) flats_nil) (.tups (.cons (.sl (if_pos rfl)) (.cons (.flat (.sc _)) .nil)))
theorem rI_none {z : ByteArray} (hz : z.size ≤ 1000000000) (h : rAck z = none) : Fn Try.prog 27 [.sc (.string z)] (.tup [.sc (.slice none 0 0), .sc (.bool false)]) := by
  obtain ⟨v, Z, h1, h2⟩ := rAckI z hz
  rw [h] at h2
  have h2 : v = .tup [.sc (.slice none 0 0), .sc (.bool false)] := h2
  subst h2
  exact Fn.of (flats_cons (.sc _) flats_nil) (.tup (flats_cons (.sc _) (flats_cons (.sc _) flats_nil))) h1
theorem rS_none {z : ByteArray} (hz : z.size ≤ 1000000000) (h : rAck z = none) (H : AHeap) : Sound Try.prog 26 [.sc (.string z)] H (.tup [.sl H.length 0 0 1, .sc (.bool false)]) (H ++ [⟨ints .i64 [], true, true⟩]) := by
  obtain ⟨v, Z, h1, h2⟩ := rAckS z hz
  rw [h] at h2
  obtain ⟨x, rfl, hx⟩ := h2
  exact Sound.fresh H x _ h1 hx (FlatReg.ints _ _ _ _) (flats_cons (.sc _) flats_nil) (.tups (.cons (.sl (if_pos rfl)) (.cons (.flat (.sc _)) .nil)))
theorem lawFnExactReadAck (z : ByteArray) (w : z.size ≤ 140737488351232) : Fn Try.prog 6 [.sc (.string z)] (.sc (.bool true)) := by
  refine Fn.run 66 [.tmp 2] Try.func6 rfl rfl rfl rfl (by simp) (flats_cons (.sc _) flats_nil) (.sc _) ?_
  simp -implicitDefEqProofs only [↓w_seq, ↓w_region, ↓ops_cons, ↓g_assign, ↓ops_nil, ev_const, of_bool, ↓g_move, ↓g_len, Try.underlying9, Nat.reduceLT, ev_tab, ne_eq, reduceCtorEq, not_false_eq_true, upd_ne, par0, upd_eq, len_str, ↓g_binOp, of_int, ↓w_cond, ↓w_ret, ret_one, ↓w_skip, onS_some, b_gtr, onB_dec]
  split
  · trivial
  · have hz : z.size ≤ 1000000000 := by omega
    cases h : rAck z with
    | some l =>
      have hl := rAck_len h
      have hS := rS_some hz h
      have hI := rI_some hz h
      have hn : ¬ ((l.length : Int) + 1 < 0) := by omega
      refine call1S (by simp -implicitDefEqProofs only [List.map_cons, Nat.reduceLT, ev_tab, upd_eq, List.map_nil] <;> rfl) (hS _) ?_
      simp -implicitDefEqProofs only [↓ops_cons, ↓g_move, ↓g_extract, List.length_nil, Nat.reduceLT, ev_tab, upd_eq, ext_0, ne_eq, Nat.reduceEqDiff, not_false_eq_true, upd_ne, ext_1, ↓g_assign, ↓ops_nil, ↓w_seq, ↓w_region, List.nil_append, reduceCtorEq, par0, onS_some]
      refine call1S (by simp -implicitDefEqProofs only [List.map_cons, Nat.reduceLT, ev_tab, upd_eq, List.map_nil] <;> rfl) (hI _) ?_
      simp -implicitDefEqProofs only [↓ops_cons, ↓g_move, ↓g_extract, List.length_cons, List.length_nil, Nat.zero_add, Nat.reduceLT, ev_tab, upd_eq, ext_0, ne_eq, Nat.reduceEqDiff, not_false_eq_true, upd_ne, ext_1, ↓g_assign, ↓ops_nil, ↓w_seq, ↓w_region, List.cons_append, List.nil_append, onS_some]
      refine call1S (by simp -implicitDefEqProofs only [List.map_cons, Nat.reduceLT, ev_tab, ne_eq, Nat.reduceEqDiff, not_false_eq_true, upd_ne, upd_eq, List.map_nil] <;> rfl) (eqS (.at rfl rfl) (.at rfl rfl) (by omega) (by omega)) ?_
      simp -implicitDefEqProofs only [↓ops_cons, ↓g_unOp, decide_true, Nat.reduceLT, ev_tab, upd_eq, u_not, Bool.not_true, Option.map_some, ↓g_move, onS_some, yielded_tab, dstAt_s, dstAt_0, ybv_some, boolOf_b, ↓g_guard_t, ne_eq, Nat.reduceEqDiff, not_false_eq_true, upd_ne, ↓g_binOp, Try.underlying4, v_neq, beq_self_eq_true, ↓g_pick, ev_const, of_bool, pick_b, Bool.false_eq_true, if_false, ↓ops_nil, ↓w_cond, ↓w_seq, ↓w_region, ↓g_assign, ↓w_ret, ret_one, ↓w_skip, of_int, onB_false]
      refine call1S (by simp -implicitDefEqProofs only [List.map_cons, Nat.reduceLT, ev_tab, ne_eq, Nat.reduceEqDiff, not_false_eq_true, upd_ne, upd_eq, List.map_nil] <;> rfl) (markS' rfl rfl (by omega)) ?_
      simp -implicitDefEqProofs only [↓ops_cons, ↓g_assign, ↓ops_nil, ↓w_seq, ↓w_region, Nat.reduceLT, ev_tab, upd_eq, List.set_cons_succ, List.set_cons_zero, ev_const, of_int, ↓g_move, ne_eq, Nat.reduceEqDiff, not_false_eq_true, upd_ne]
      refine call1S (by simp -implicitDefEqProofs only [List.map_cons, Nat.reduceLT, ev_tab, ne_eq, Nat.reduceEqDiff, not_false_eq_true, upd_ne, upd_eq, List.map_nil] <;> rfl) (heldS (n := l.length) (.at rfl (marked_len _ _)) (by omega)) ?_
      simp -implicitDefEqProofs only [↓ops_cons, ↓g_assign, ↓ops_nil, ↓w_seq, ↓w_region, Nat.reduceLT, ev_tab, upd_eq, ↓g_move, ↓g_binOp, ev_const, of_int, b_lss, hn, decide_false, ↓w_cond, ↓w_ret, of_bool, ret_one, ↓w_skip, ne_eq, Nat.reduceEqDiff, not_false_eq_true, upd_ne, b_neq, decide_true, Bool.not_true, reduceCtorEq, par0, onS_some, onB_false]
      refine call1S (by simp -implicitDefEqProofs only [List.map_cons, Nat.reduceLT, ev_tab, upd_eq, List.map_nil] <;> rfl) (hI _) ?_
      simp -implicitDefEqProofs only [↓ops_cons, ↓g_move, ↓g_extract, List.length_cons, List.length_nil, Nat.zero_add, Nat.reduceAdd, Nat.reduceLT, ev_tab, upd_eq, ext_0, ne_eq, Nat.reduceEqDiff, not_false_eq_true, upd_ne, ext_1, ↓g_assign, ↓ops_nil, ↓w_seq, ↓w_region, List.cons_append, List.nil_append, onS_some]
      refine call1S (by simp -implicitDefEqProofs only [List.map_cons, Nat.reduceLT, ev_tab, ne_eq, Nat.reduceEqDiff, not_false_eq_true, upd_ne, upd_eq, List.map_nil] <;> rfl) (eqS (.at rfl rfl) (.at rfl rfl) (by omega) (by omega)) ?_
      simp -implicitDefEqProofs only [↓ops_cons, ↓g_unOp, decide_true, Nat.reduceLT, ev_tab, upd_eq, u_not, Bool.not_true, Option.map_some, ↓g_move, onS_some, yielded_tab, dstAt_s, dstAt_0, ybv_some, boolOf_b, ↓g_guard_t, ne_eq, Nat.reduceEqDiff, not_false_eq_true, upd_ne, ↓g_binOp, Try.underlying4, v_neq, beq_self_eq_true, ↓g_pick, ev_const, of_bool, pick_b, Bool.false_eq_true, if_false, ↓ops_nil, ↓w_cond, ↓w_seq, ↓w_region, ↓g_assign, ↓w_ret, ret_one, ↓w_skip, of_int, onB_false]
      refine call1S (by simp -implicitDefEqProofs only [List.map_cons, Nat.reduceLT, ev_tab, ne_eq, Nat.reduceEqDiff, not_false_eq_true, upd_ne, upd_eq, List.map_nil] <;> rfl) (heldS (n := l.length) (.at rfl (marked_len _ _)) (by omega)) ?_
      simp -implicitDefEqProofs only [↓ops_cons, ↓g_assign, ↓ops_nil, ↓w_seq, ↓w_region, Nat.reduceLT, ev_tab, upd_eq, ↓g_move, ↓g_binOp, ev_const, of_int, b_lss, hn, decide_false, ↓w_cond, ↓w_ret, of_bool, ret_one, ↓w_skip, ne_eq, Nat.reduceEqDiff, not_false_eq_true, upd_ne, b_neq, decide_true, Bool.not_true, onS_some, onB_false]
    | none =>
      have hS := rS_none hz h
      have hI := rI_none hz h
      refine call1S (by simp -implicitDefEqProofs only [List.map_cons, Nat.reduceLT, ev_tab, upd_eq, List.map_nil] <;> rfl) (hS _) ?_
      simp -implicitDefEqProofs only [↓ops_cons, ↓g_move, ↓g_extract, List.length_nil, Nat.reduceLT, ev_tab, upd_eq, ext_0, ne_eq, Nat.reduceEqDiff, not_false_eq_true, upd_ne, ext_1, ↓g_assign, ↓ops_nil, ↓w_seq, ↓w_region, List.nil_append, reduceCtorEq, par0, onS_some]
      refine call1 (by simp -implicitDefEqProofs only [List.map_cons, Nat.reduceLT, ev_tab, upd_eq, List.map_nil] <;> rfl) hI ?_
      simp -implicitDefEqProofs only [↓ops_cons, ↓g_move, ↓g_extract, Nat.reduceLT, ev_tab, upd_eq, ext_0, ne_eq, Nat.reduceEqDiff, not_false_eq_true, upd_ne, ext_1, ↓g_assign, ↓ops_nil, ↓w_seq, ↓w_region, onS_some]
      refine call1S (by simp -implicitDefEqProofs only [List.map_cons, Nat.reduceLT, ev_tab, ne_eq, Nat.reduceEqDiff, not_false_eq_true, upd_ne, upd_eq, List.map_nil, List.length_nil] <;> rfl) (eqS (l := []) (m := []) (.nil _ _) (.at rfl rfl) (by decide) (by decide)) ?_
      simp -implicitDefEqProofs only [↓ops_cons, ↓g_unOp, decide_true, Nat.reduceLT, ev_tab, upd_eq, u_not, Bool.not_true, Option.map_some, ↓g_move, onS_some, yielded_tab, dstAt_s, dstAt_0, ybv_some, boolOf_b, ↓g_guard_t, ne_eq, Nat.reduceEqDiff, not_false_eq_true, upd_ne, ↓g_binOp, Try.underlying4, v_neq, beq_self_eq_true, ↓g_pick, ev_const, of_bool, pick_b, Bool.false_eq_true, if_false, ↓ops_nil, ↓w_cond, ↓w_seq, ↓w_region, ↓g_assign, ↓w_ret, ret_one, ↓w_skip, of_int, onB_false]
      refine call1S (by simp -implicitDefEqProofs only [List.map_cons, Nat.reduceLT, ev_tab, ne_eq, Nat.reduceEqDiff, not_false_eq_true, upd_ne, upd_eq, List.map_nil] <;> rfl) (markN _) ?_
      simp -implicitDefEqProofs only [↓ops_cons, ↓g_assign, ↓ops_nil, ↓w_seq, ↓w_region, Nat.reduceLT, ev_tab, upd_eq, ev_const, of_int, ↓g_move, ne_eq, Nat.reduceEqDiff, not_false_eq_true, upd_ne]
      refine call1S (by simp -implicitDefEqProofs only [List.map_cons, Nat.reduceLT, ev_tab, ne_eq, Nat.reduceEqDiff, not_false_eq_true, upd_ne, upd_eq, List.map_nil] <;> rfl) (heldS (n := 0) (.nil _ _) (by omega)) ?_
      simp -implicitDefEqProofs only [↓ops_cons, ↓g_assign, ↓ops_nil, ↓w_seq, ↓w_region, Int.cast_ofNat_Int, Int.reduceAdd, Nat.reduceLT, ev_tab, upd_eq, ↓g_move, ↓g_binOp, ev_const, of_int, b_lss, Int.reduceLT, decide_false, ↓w_cond, ↓w_ret, of_bool, ret_one, ↓w_skip, ne_eq, Nat.reduceEqDiff, not_false_eq_true, upd_ne, b_neq, decide_true, Bool.not_true, reduceCtorEq, par0, onS_some, onB_false]
      refine call1 (by simp -implicitDefEqProofs only [List.map_cons, Nat.reduceLT, ev_tab, upd_eq, List.map_nil] <;> rfl) hI ?_
      simp -implicitDefEqProofs only [↓ops_cons, ↓g_move, ↓g_extract, Nat.reduceLT, ev_tab, upd_eq, ext_0, ne_eq, Nat.reduceEqDiff, not_false_eq_true, upd_ne, ext_1, ↓g_assign, ↓ops_nil, ↓w_seq, ↓w_region, onS_some]
      refine call1S (by simp -implicitDefEqProofs only [List.map_cons, Nat.reduceLT, ev_tab, ne_eq, Nat.reduceEqDiff, not_false_eq_true, upd_ne, upd_eq, List.map_nil, List.length_nil] <;> rfl) (eqS (l := []) (m := []) (.nil _ _) (.at rfl rfl) (by decide) (by decide)) ?_
      simp -implicitDefEqProofs only [↓ops_cons, ↓g_unOp, decide_true, Nat.reduceLT, ev_tab, upd_eq, u_not, Bool.not_true, Option.map_some, ↓g_move, onS_some, yielded_tab, dstAt_s, dstAt_0, ybv_some, boolOf_b, ↓g_guard_t, ne_eq, Nat.reduceEqDiff, not_false_eq_true, upd_ne, ↓g_binOp, Try.underlying4, v_neq, beq_self_eq_true, ↓g_pick, ev_const, of_bool, pick_b, Bool.false_eq_true, if_false, ↓ops_nil, ↓w_cond, ↓w_seq, ↓w_region, ↓g_assign, ↓w_ret, ret_one, ↓w_skip, of_int, onB_false]
      refine call1S (by simp -implicitDefEqProofs only [List.map_cons, Nat.reduceLT, ev_tab, ne_eq, Nat.reduceEqDiff, not_false_eq_true, upd_ne, upd_eq, List.map_nil] <;> rfl) (heldS (n := 0) (.nil _ _) (by omega)) ?_
      simp -implicitDefEqProofs only [↓ops_cons, ↓g_assign, ↓ops_nil, ↓w_seq, ↓w_region, Int.cast_ofNat_Int, Int.reduceAdd, Nat.reduceLT, ev_tab, upd_eq, ↓g_move, ↓g_binOp, ev_const, of_int, b_lss, Int.reduceLT, decide_false, ↓w_cond, ↓w_ret, of_bool, ret_one, ↓w_skip, ne_eq, Nat.reduceEqDiff, not_false_eq_true, upd_ne, b_neq, decide_true, Bool.not_true, onS_some, onB_false]
end Go.Proofs.Ytcjjcpdfnndenaa.Sim

