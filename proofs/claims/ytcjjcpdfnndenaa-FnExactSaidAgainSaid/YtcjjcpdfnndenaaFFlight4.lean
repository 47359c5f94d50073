/- Flights: what is said again. -/
import Derived.Test.YtcjjcpdfnndenaaFFlight3
import Derived.Test.YtcjjcpdfnndenaaFFlightLaw
namespace Go.Proofs.Ytcjjcpdfnndenaa.Sim
open Go
set_option maxRecDepth 100000
set_option maxHeartbeats 40000000
set_option linter.unusedSimpArgs false
set_option linter.unusedVariables false
def Stop (s g : List Int) (t : Int) : Prop := ¬ FlOk s g t ∨ leftL s g = [] ∨ 1000 ≤ t
theorem saidI {H : AHeap} {x y : AV} {s g : List Int} (t t' : Int) (M : List Int) (hM : (Stop s g t ∧ t' = t ∧ M = []) ∨ (¬ Stop s g t ∧ t' = t + 1 ∧ M = leftL s g)) (hx : IsL H x .i64 s) (hy : IsL H y .i64 g) (hs : s.length ≤ 1000000000) (hg : g.length ≤ 1000000000) :
    ∃ (p q : Nat) (v : AV) (Z : AHeap), Sound Try.prog 32 [flt x y t] H (.tup [flt (.sl p 0 s.length 1) (.sl q 0 g.length 1) t', v]) Z ∧ Ext H Z ∧ H.length ≤ p ∧ p < q ∧ Z[p]? = some ⟨ints .i64 s, true, true⟩ ∧ Z[q]? = some ⟨ints .i64 g, true, true⟩ ∧ Own Z v M ∧ ∀ r o n k, v = .sl r o n k → q < r := by
  suffices h : ∃ w Z, Sound Try.prog 32 [flt x y t] H w Z ∧ ∃ p q v, w = .tup [flt (.sl p 0 s.length 1) (.sl q 0 g.length 1) t', v] ∧ Ext H Z ∧ H.length ≤ p ∧ p < q ∧ Z[p]? = some ⟨ints .i64 s, true, true⟩ ∧ Z[q]? = some ⟨ints .i64 g, true, true⟩ ∧ Own Z v M ∧ ∀ r o n k, v = .sl r o n k → q < r by
    obtain ⟨w, Z, h1, p, q, v, rfl, h2⟩ := h
    exact ⟨p, q, v, Z, h1, h2⟩
  refine Sound.runP (args := [flt x y t]) 30 [.cell 2 32, .tmp 3] Try.func32 rfl rfl rfl rfl (by simp) (fun w Z => ∃ p q v, w = .tup [flt (.sl p 0 s.length 1) (.sl q 0 g.length 1) t', v] ∧ Ext H Z ∧ H.length ≤ p ∧ p < q ∧ Z[p]? = some ⟨ints .i64 s, true, true⟩ ∧ Z[q]? = some ⟨ints .i64 g, true, true⟩ ∧ Own Z v M ∧ ∀ r o n k, v = .sl r o n k → q < r) ?_
  have x1 := hx.one
  have y1 := hy.one
  obtain ⟨A, hA⟩ : ∃ A : Reg, A = ⟨[x, y, .sc (.int .i64 t)], true, true⟩ := ⟨_, rfl⟩
  obtain ⟨B, hB⟩ : ∃ B : Reg, B = ⟨[.sc (.slice none 0 0), .sc (.slice none 0 0), .sc (.int .i64 0)], true, true⟩ := ⟨_, rfl⟩
  have e0 := Ext.more H [A, B]
  have a0 := hap_0 H [A, B]
  have b0 := hap_k H [A, B] 1
  have hll := leftL_len s g
  obtain ⟨b, hb⟩ : ∃ b : Bool, b = true ↔ FlOk s g t := by
    by_cases h : FlOk s g t
    · exact ⟨true, fun _ => h, fun _ => rfl⟩
    · exact ⟨false, fun h => Bool.noConfusion h, fun q => absurd q h⟩
  obtain ⟨p, q, Z1, c1, c2, c3, c4, c5, c6⟩ := copyFlI t (e0.isL hx) (e0.isL hy) hs hg
  have a1 := c2.at a0
  have b1 := c2.at b0
  obtain ⟨C, hC⟩ : ∃ C : Reg, C = ⟨[.sl p 0 s.length 1, .sl q 0 g.length 1, .sc (.int .i64 t)], true, true⟩ := ⟨_, rfl⟩
  have e1 := Ext.more Z1 [C]
  have w1 := at_end Z1 C
  have a1' := e1.at a1
  obtain ⟨r, Z2, d1, d2, d3, d4⟩ := leftI t (((e0.trans c2).trans e1).isL hx) (((e0.trans c2).trans e1).isL hy) hs hg
  obtain ⟨Z3, f1, f2⟩ := flOkI t b hb ((((e0.trans c2).trans e1).trans d2).isL hx) ((((e0.trans c2).trans e1).trans d2).isL hy) hs hg
  have e3 := (((e0.trans c2).trans e1).trans d2).trans f2
  have a2 := d2.at (e1.at a1)
  have w2 := d2.at w1
  have a3 := f2.at a2
  have w3 := f2.at w2
  have b3 := f2.at (d2.at (e1.at b1))
  have p3 := f2.at (d2.at (e1.at c5))
  have q3 := f2.at (d2.at (e1.at c6))
  have r3 := f2.at d4
  have z1 : H.length + 2 ≤ p := by rw [List.length_append] at c3; exact c3
  have z2 : q < Z1.length := at_lt c6
  have z3 : Z1.length + 1 ≤ r := by rw [List.length_append] at d3; exact d3
  have z4 : Z1.length < Z3.length := at_lt w3
  have z5 : H.length + 1 < Z3.length := at_lt b3
  subst hA hB hC
  have eS := fun Y : Reg => (e3.set (q := H.length + 1) (by omega) Y)
  unfold flt at c1 d1 f1 ⊢
  by_cases hok : FlOk s g t
  · have hbt : b = true := hb.2 hok
    subst hbt
    by_cases hL : leftL s g = []
    · obtain ⟨_, rfl, rfl⟩ | ⟨h, _⟩ := hM
      · have kl : (leftL s g).length = 0 := by rw [hL]; rfl
        have kl2 : ((leftL s g).length : Int) = 0 := by rw [kl]; rfl
        simp -implicitDefEqProofs only [↓w_seq, ↓w_region, ↓ops_cons, ↓g_box, Nat.reduceLT, ev_tab, par0, cells_agg, ↓g_alloc, zero32, Option.map_some, ↓g_assign, ↓ops_nil, ev_const, ↓g_load, ne_eq, Nat.reduceEqDiff, not_false_eq_true, upd_ne, upd_eq, alK_some, List.all_cons, one_nil, one_int, List.all_nil, Bool.and_self, true_and, x1, y1, List.append_assoc, List.cons_append, List.nil_append, rd_def, tyOk32, agg32, cells32, hap_0, List.getElem?_cons_zero, rd_aggc, Nat.zero_add, List.length_cons, List.length_nil, Nat.reduceAdd, Nat.le_refl, List.drop_zero, List.take_succ_cons, List.take_zero, if_true, List.length_append, onS_some]
        refine call1S (by simp -implicitDefEqProofs only [List.map_cons, Nat.reduceLT, ev_tab, upd_eq, List.map_nil] <;> rfl) c1 ?_
        simp -implicitDefEqProofs only [↓ops_cons, ↓g_alloc, zero32, Option.map_some, ↓g_store, Nat.reduceLT, ev_tab, upd_eq, ne_eq, Nat.reduceEqDiff, not_false_eq_true, upd_ne, ↓ops_nil, ↓w_seq, ↓w_region, ↓g_load, rd_def, tyOk32, agg32, cells32, alK_some, List.all_cons, one_nil, one_int, List.all_nil, Bool.and_self, wr_def, hap_0, List.getElem?_cons_zero, wr_c, cells_agg, List.length_cons, List.length_nil, Nat.zero_add, Nat.reduceAdd, Nat.le_refl, one_sl, and_self, ovr_fm, ovr_fn, hset_0, List.set_cons_zero, if_true, onS_some, a1', rd_aggc, List.drop_zero, List.take_succ_cons, List.take_zero, true_and]
        refine call1S (by simp -implicitDefEqProofs only [List.map_cons, Nat.reduceLT, ev_tab, upd_eq, List.map_nil] <;> rfl) d1 ?_
        simp -implicitDefEqProofs only [↓ops_cons, ↓g_assign, ↓ops_nil, ↓w_seq, ↓w_region, Nat.reduceLT, ev_tab, upd_eq, ↓g_load, ne_eq, Nat.reduceEqDiff, not_false_eq_true, upd_ne, rd_def, tyOk32, agg32, cells32, a2, rd_aggc, Nat.zero_add, List.length_cons, List.length_nil, Nat.reduceAdd, Nat.le_refl, List.drop_zero, List.take_succ_cons, List.take_zero, if_true, onS_some]
        refine call1S (by simp -implicitDefEqProofs only [List.map_cons, Nat.reduceLT, ev_tab, upd_eq, List.map_nil] <;> rfl) f1 ?_
        simp -implicitDefEqProofs only [↓ops_cons, ↓g_unOp, Nat.reduceLT, ev_tab, upd_eq, u_not, Bool.not_true, Option.map_some, ↓g_move, onS_some, yielded_tab, dstAt_s, dstAt_0, ybv_some, boolOf_b, ↓g_guard_t, ne_eq, Nat.reduceEqDiff, not_false_eq_true, upd_ne, ↓g_len, Try.underlying22, len_sl, kl2, ↓g_binOp, ev_const, of_int, ↓g_pick, of_bool, pick_b, reduceCtorEq, if_false, b_eql, decide_true, Bool.not_false, ↓g_guard_f, if_true, ↓ops_nil, ↓w_cond, ↓w_seq, ↓w_region, ↓g_load, rd_def, tyOk32, agg32, cells32, w3, rd_aggc, Nat.zero_add, List.length_cons, List.length_nil, Nat.reduceAdd, Nat.le_refl, List.drop_zero, List.take_succ_cons, List.take_zero, ↓g_store, wr_def, b3, wr_c, true_and, ↓g_assign, ↓w_ret, retP_2, res_cell, res_tmp, onS_ite, at_set z5, cells_agg, List.all_cons, one_sl, one_int, List.all_nil, Bool.and_self, and_self, ovr_fm, ovr_fn, ↓w_skip, ↓g_fieldAddrT, fadr32_2, tyOk3, cells3, over_s, agg3, rd_onec, List.getElem?_cons_succ, List.getElem?_cons_zero, b_add, cells_int, onB_true]
        exact ⟨p, q, _, rfl, eS _, by omega, c4, (List.getElem?_set_ne (by omega)).trans p3, (List.getElem?_set_ne (by omega)).trans q3, .inl ⟨rfl, rfl⟩, fun r o n k e => by cases e⟩
      · exact absurd (.inr (.inl hL)) h
    · have kl : ¬ ((leftL s g).length : Int) = 0 := fun h => hL (List.length_eq_zero_iff.1 (by omega))
      by_cases ht : t = 1000
      · obtain ⟨_, rfl, rfl⟩ | ⟨h, _⟩ := hM
        · simp -implicitDefEqProofs only [↓w_seq, ↓w_region, ↓ops_cons, ↓g_box, Nat.reduceLT, ev_tab, par0, cells_agg, ↓g_alloc, zero32, Option.map_some, ↓g_assign, ↓ops_nil, ev_const, ↓g_load, ne_eq, Nat.reduceEqDiff, not_false_eq_true, upd_ne, upd_eq, alK_some, List.all_cons, one_nil, one_int, List.all_nil, Bool.and_self, true_and, x1, y1, List.append_assoc, List.cons_append, List.nil_append, rd_def, tyOk32, agg32, cells32, hap_0, List.getElem?_cons_zero, rd_aggc, Nat.zero_add, List.length_cons, List.length_nil, Nat.reduceAdd, Nat.le_refl, List.drop_zero, List.take_succ_cons, List.take_zero, if_true, List.length_append, onS_some]
          refine call1S (by simp -implicitDefEqProofs only [List.map_cons, Nat.reduceLT, ev_tab, upd_eq, List.map_nil] <;> rfl) c1 ?_
          simp -implicitDefEqProofs only [↓ops_cons, ↓g_alloc, zero32, Option.map_some, ↓g_store, Nat.reduceLT, ev_tab, upd_eq, ne_eq, Nat.reduceEqDiff, not_false_eq_true, upd_ne, ↓ops_nil, ↓w_seq, ↓w_region, ↓g_load, rd_def, tyOk32, agg32, cells32, alK_some, List.all_cons, one_nil, one_int, List.all_nil, Bool.and_self, wr_def, hap_0, List.getElem?_cons_zero, wr_c, cells_agg, List.length_cons, List.length_nil, Nat.zero_add, Nat.reduceAdd, Nat.le_refl, one_sl, and_self, ovr_fm, ovr_fn, hset_0, List.set_cons_zero, if_true, onS_some, a1', rd_aggc, List.drop_zero, List.take_succ_cons, List.take_zero, true_and]
          refine call1S (by simp -implicitDefEqProofs only [List.map_cons, Nat.reduceLT, ev_tab, upd_eq, List.map_nil] <;> rfl) d1 ?_
          simp -implicitDefEqProofs only [↓ops_cons, ↓g_assign, ↓ops_nil, ↓w_seq, ↓w_region, Nat.reduceLT, ev_tab, upd_eq, ↓g_load, ne_eq, Nat.reduceEqDiff, not_false_eq_true, upd_ne, rd_def, tyOk32, agg32, cells32, a2, rd_aggc, Nat.zero_add, List.length_cons, List.length_nil, Nat.reduceAdd, Nat.le_refl, List.drop_zero, List.take_succ_cons, List.take_zero, if_true, onS_some]
          refine call1S (by simp -implicitDefEqProofs only [List.map_cons, Nat.reduceLT, ev_tab, upd_eq, List.map_nil] <;> rfl) f1 ?_
          simp -implicitDefEqProofs only [↓ops_cons, ↓g_unOp, ht, Nat.reduceLT, ev_tab, upd_eq, u_not, Bool.not_true, Option.map_some, ↓g_move, onS_some, yielded_tab, dstAt_s, dstAt_0, ybv_some, boolOf_b, ↓g_guard_t, ne_eq, Nat.reduceEqDiff, not_false_eq_true, upd_ne, ↓g_len, Try.underlying22, len_sl, ↓g_binOp, ev_const, of_int, ↓g_pick, of_bool, pick_b, reduceCtorEq, if_false, b_eql, kl, decide_false, ↓g_fieldAddrT, fadr32_2, Nat.zero_add, ↓g_load, ↓ops_nil, ↓w_cond, ↓w_seq, ↓w_region, rd_def, tyOk32, agg32, cells32, w3, rd_aggc, List.length_cons, List.length_nil, Nat.reduceAdd, Nat.le_refl, List.drop_zero, List.take_succ_cons, List.take_zero, if_true, ↓g_store, wr_def, b3, wr_c, true_and, ↓g_assign, ↓w_ret, retP_2, res_cell, res_tmp, onS_ite, at_set z5, cells_agg, List.all_cons, one_sl, one_int, List.all_nil, Bool.and_self, and_self, ovr_fm, ovr_fn, ↓w_skip, tyOk3, cells3, over_s, agg3, rd_onec, List.getElem?_cons_succ, List.getElem?_cons_zero, b_add, Int.reduceAdd, cells_int, a3, decide_true, onB_true]
          exact ⟨p, q, _, rfl, eS _, by omega, c4, (List.getElem?_set_ne (by omega)).trans p3, (List.getElem?_set_ne (by omega)).trans q3, .inl ⟨rfl, rfl⟩, fun r o n k e => by cases e⟩
        · exact absurd (.inr (.inr (by omega))) h
      · obtain ⟨h, _⟩ | ⟨_, rfl, rfl⟩ := hM
        · exact absurd h (by
            rintro (h | h | h)
            · exact h hok
            · exact hL h
            · exact ht (by have := hok.2.2.2.1.2; omega))
        · have e4 : IntKind.i64.wrap (t + 1) = t + 1 := by
            have := hok.2.2.2.1
            exact w64 (by omega) (by omega)
          have b4 : ∀ g : Reg, (Z3.set Z1.length g)[H.length + 1]? = some ⟨[.sc (.slice none 0 0), .sc (.slice none 0 0), .sc (.int .i64 0)], true, true⟩ := fun g => (List.getElem?_set_ne (by omega)).trans b3
          have w5 : ∀ C g : Reg, ((Z3.set Z1.length C).set (H.length + 1) g)[H.length + 1]? = some g := fun C g => List.getElem?_set_self (by rw [List.length_set]; omega)
          have w4 : ∀ g : Reg, (Z3.set Z1.length g)[Z1.length]? = some g := fun g => List.getElem?_set_self z4
          simp -implicitDefEqProofs only [↓w_seq, ↓w_region, ↓ops_cons, ↓g_box, Nat.reduceLT, ev_tab, par0, cells_agg, ↓g_alloc, zero32, Option.map_some, ↓g_assign, ↓ops_nil, ev_const, ↓g_load, ne_eq, Nat.reduceEqDiff, not_false_eq_true, upd_ne, upd_eq, alK_some, List.all_cons, one_nil, one_int, List.all_nil, Bool.and_self, true_and, x1, y1, List.append_assoc, List.cons_append, List.nil_append, rd_def, tyOk32, agg32, cells32, hap_0, List.getElem?_cons_zero, rd_aggc, Nat.zero_add, List.length_cons, List.length_nil, Nat.reduceAdd, Nat.le_refl, List.drop_zero, List.take_succ_cons, List.take_zero, if_true, List.length_append, onS_some]
          refine call1S (by simp -implicitDefEqProofs only [List.map_cons, Nat.reduceLT, ev_tab, upd_eq, List.map_nil] <;> rfl) c1 ?_
          simp -implicitDefEqProofs only [↓ops_cons, ↓g_alloc, zero32, Option.map_some, ↓g_store, Nat.reduceLT, ev_tab, upd_eq, ne_eq, Nat.reduceEqDiff, not_false_eq_true, upd_ne, ↓ops_nil, ↓w_seq, ↓w_region, ↓g_load, rd_def, tyOk32, agg32, cells32, alK_some, List.all_cons, one_nil, one_int, List.all_nil, Bool.and_self, wr_def, hap_0, List.getElem?_cons_zero, wr_c, cells_agg, List.length_cons, List.length_nil, Nat.zero_add, Nat.reduceAdd, Nat.le_refl, one_sl, and_self, ovr_fm, ovr_fn, hset_0, List.set_cons_zero, if_true, onS_some, a1', rd_aggc, List.drop_zero, List.take_succ_cons, List.take_zero, true_and]
          refine call1S (by simp -implicitDefEqProofs only [List.map_cons, Nat.reduceLT, ev_tab, upd_eq, List.map_nil] <;> rfl) d1 ?_
          simp -implicitDefEqProofs only [↓ops_cons, ↓g_assign, ↓ops_nil, ↓w_seq, ↓w_region, Nat.reduceLT, ev_tab, upd_eq, ↓g_load, ne_eq, Nat.reduceEqDiff, not_false_eq_true, upd_ne, rd_def, tyOk32, agg32, cells32, a2, rd_aggc, Nat.zero_add, List.length_cons, List.length_nil, Nat.reduceAdd, Nat.le_refl, List.drop_zero, List.take_succ_cons, List.take_zero, if_true, onS_some]
          refine call1S (by simp -implicitDefEqProofs only [List.map_cons, Nat.reduceLT, ev_tab, upd_eq, List.map_nil] <;> rfl) f1 ?_
          simp -implicitDefEqProofs only [↓ops_cons, ↓g_unOp, Nat.reduceLT, ev_tab, upd_eq, u_not, Bool.not_true, Option.map_some, ↓g_move, onS_some, yielded_tab, dstAt_s, dstAt_0, ybv_some, boolOf_b, ↓g_guard_t, ne_eq, Nat.reduceEqDiff, not_false_eq_true, upd_ne, ↓g_len, Try.underlying22, len_sl, ↓g_binOp, ev_const, of_int, ↓g_pick, of_bool, pick_b, reduceCtorEq, if_false, b_eql, kl, decide_false, ↓g_fieldAddrT, fadr32_2, Nat.zero_add, ↓g_load, ↓ops_nil, ↓w_cond, ↓w_seq, ↓w_region, rd_def, tyOk32, agg32, cells32, w3, rd_aggc, List.length_cons, List.length_nil, Nat.reduceAdd, Nat.le_refl, List.drop_zero, List.take_succ_cons, List.take_zero, if_true, ↓g_store, wr_def, ↓g_assign, ↓w_ret, retP_2, res_cell, res_tmp, ↓w_skip, tyOk3, cells3, wr_c, true_and, over_s, onS_ite, w4, Nat.reduceLeDiff, b4, w5, cells_agg, List.all_cons, one_sl, ovr_fm, agg3, rd_onec, List.getElem?_cons_succ, List.getElem?_cons_zero, b_add, e4, cells_int, one_int, List.all_nil, Bool.and_self, and_self, ovr_fn, a3, ht, onB_false]
          refine ⟨p, q, _, rfl, (e3.set (by omega) _).set (by omega) _, by omega, c4, ?_, ?_, ?_, fun r o n k e => ?_⟩
          · exact (List.getElem?_set_ne (by omega)).trans ((List.getElem?_set_ne (by omega)).trans p3)
          · exact (List.getElem?_set_ne (by omega)).trans ((List.getElem?_set_ne (by omega)).trans q3)
          · exact Own.sl ((List.getElem?_set_ne (by omega)).trans ((List.getElem?_set_ne (by omega)).trans r3))
          · injection e with e1
            omega
  · have hbf : b = false := by
      cases b with
      | false => rfl
      | true => exact absurd (hb.1 rfl) hok
    subst hbf
    obtain ⟨_, rfl, rfl⟩ | ⟨h, _⟩ := hM
    · simp -implicitDefEqProofs only [↓w_seq, ↓w_region, ↓ops_cons, ↓g_box, Nat.reduceLT, ev_tab, par0, cells_agg, ↓g_alloc, zero32, Option.map_some, ↓g_assign, ↓ops_nil, ev_const, ↓g_load, ne_eq, Nat.reduceEqDiff, not_false_eq_true, upd_ne, upd_eq, alK_some, List.all_cons, one_nil, one_int, List.all_nil, Bool.and_self, true_and, x1, y1, List.append_assoc, List.cons_append, List.nil_append, rd_def, tyOk32, agg32, cells32, hap_0, List.getElem?_cons_zero, rd_aggc, Nat.zero_add, List.length_cons, List.length_nil, Nat.reduceAdd, Nat.le_refl, List.drop_zero, List.take_succ_cons, List.take_zero, if_true, List.length_append, onS_some]
      refine call1S (by simp -implicitDefEqProofs only [List.map_cons, Nat.reduceLT, ev_tab, upd_eq, List.map_nil] <;> rfl) c1 ?_
      simp -implicitDefEqProofs only [↓ops_cons, ↓g_alloc, zero32, Option.map_some, ↓g_store, Nat.reduceLT, ev_tab, upd_eq, ne_eq, Nat.reduceEqDiff, not_false_eq_true, upd_ne, ↓ops_nil, ↓w_seq, ↓w_region, ↓g_load, rd_def, tyOk32, agg32, cells32, alK_some, List.all_cons, one_nil, one_int, List.all_nil, Bool.and_self, wr_def, hap_0, List.getElem?_cons_zero, wr_c, cells_agg, List.length_cons, List.length_nil, Nat.zero_add, Nat.reduceAdd, Nat.le_refl, one_sl, and_self, ovr_fm, ovr_fn, hset_0, List.set_cons_zero, if_true, onS_some, a1', rd_aggc, List.drop_zero, List.take_succ_cons, List.take_zero, true_and]
      refine call1S (by simp -implicitDefEqProofs only [List.map_cons, Nat.reduceLT, ev_tab, upd_eq, List.map_nil] <;> rfl) d1 ?_
      simp -implicitDefEqProofs only [↓ops_cons, ↓g_assign, ↓ops_nil, ↓w_seq, ↓w_region, Nat.reduceLT, ev_tab, upd_eq, ↓g_load, ne_eq, Nat.reduceEqDiff, not_false_eq_true, upd_ne, rd_def, tyOk32, agg32, cells32, a2, rd_aggc, Nat.zero_add, List.length_cons, List.length_nil, Nat.reduceAdd, Nat.le_refl, List.drop_zero, List.take_succ_cons, List.take_zero, if_true, onS_some]
      refine call1S (by simp -implicitDefEqProofs only [List.map_cons, Nat.reduceLT, ev_tab, upd_eq, List.map_nil] <;> rfl) f1 ?_
      simp -implicitDefEqProofs only [↓ops_cons, ↓g_unOp, Nat.reduceLT, ev_tab, upd_eq, u_not, Bool.not_false, Option.map_some, ↓g_move, onS_some, yielded_tab, dstAt_s, dstAt_0, ybv_some, boolOf_b, ↓g_guard_f, ne_eq, Nat.reduceEqDiff, not_false_eq_true, upd_ne, ↓g_pick, ev_const, of_bool, pick_b, if_true, ↓ops_nil, ↓w_cond, ↓w_seq, ↓w_region, ↓g_load, rd_def, tyOk32, agg32, cells32, w3, rd_aggc, Nat.zero_add, List.length_cons, List.length_nil, Nat.reduceAdd, Nat.le_refl, List.drop_zero, List.take_succ_cons, List.take_zero, ↓g_store, wr_def, b3, wr_c, true_and, ↓g_assign, ↓w_ret, retP_2, res_cell, res_tmp, onS_ite, at_set z5, cells_agg, List.all_cons, one_sl, one_int, List.all_nil, Bool.and_self, and_self, ovr_fm, ovr_fn, ↓w_skip, ↓g_fieldAddrT, fadr32_2, ↓g_binOp, of_int, tyOk3, cells3, over_s, agg3, rd_onec, List.getElem?_cons_succ, List.getElem?_cons_zero, b_add, cells_int, onB_true]
      exact ⟨p, q, _, rfl, eS _, by omega, c4, (List.getElem?_set_ne (by omega)).trans p3, (List.getElem?_set_ne (by omega)).trans q3, .inl ⟨rfl, rfl⟩, fun r o n k e => by cases e⟩
    · exact absurd (.inl hok) h
theorem saidS {H : AHeap} {x y : AV} {s g : List Int} (t t' : Int) (M : List Int) (hM : (Stop s g t ∧ t' = t ∧ M = []) ∨ (¬ Stop s g t ∧ t' = t + 1 ∧ M = leftL s g)) (hx : IsL H x .i64 s) (hy : IsL H y .i64 g) (hs : s.length ≤ 1000000000) (hg : g.length ≤ 1000000000) :
    ∃ (p q : Nat) (v : AV) (Z : AHeap), Sound Try.prog 31 [flt x y t] H (.tup [flt (.sl p 0 s.length 1) (.sl q 0 g.length 1) t', v]) Z ∧ Ext H Z ∧ H.length ≤ p ∧ p < q ∧ Z[p]? = some ⟨ints .i64 s, true, true⟩ ∧ Z[q]? = some ⟨ints .i64 g, true, true⟩ ∧ Own Z v M ∧ ∀ r o n k, v = .sl r o n k → q < r := by
  suffices h : ∃ w Z, Sound Try.prog 31 [flt x y t] H w Z ∧ ∃ p q v, w = .tup [flt (.sl p 0 s.length 1) (.sl q 0 g.length 1) t', v] ∧ Ext H Z ∧ H.length ≤ p ∧ p < q ∧ Z[p]? = some ⟨ints .i64 s, true, true⟩ ∧ Z[q]? = some ⟨ints .i64 g, true, true⟩ ∧ Own Z v M ∧ ∀ r o n k, v = .sl r o n k → q < r by
    obtain ⟨w, Z, h1, p, q, v, rfl, h2⟩ := h
    exact ⟨p, q, v, Z, h1, h2⟩
  refine Sound.runP (args := [flt x y t]) 31 [.cell 2 32, .tmp 3] Try.func31 rfl rfl rfl rfl (by simp) (fun w Z => ∃ p q v, w = .tup [flt (.sl p 0 s.length 1) (.sl q 0 g.length 1) t', v] ∧ Ext H Z ∧ H.length ≤ p ∧ p < q ∧ Z[p]? = some ⟨ints .i64 s, true, true⟩ ∧ Z[q]? = some ⟨ints .i64 g, true, true⟩ ∧ Own Z v M ∧ ∀ r o n k, v = .sl r o n k → q < r) ?_
  have x1 := hx.one
  have y1 := hy.one
  obtain ⟨A, hA⟩ : ∃ A : Reg, A = ⟨[x, y, .sc (.int .i64 t)], true, true⟩ := ⟨_, rfl⟩
  obtain ⟨B, hB⟩ : ∃ B : Reg, B = ⟨[.sc (.slice none 0 0), .sc (.slice none 0 0), .sc (.int .i64 0)], true, true⟩ := ⟨_, rfl⟩
  have e0 := Ext.more H [A, B]
  have a0 := hap_0 H [A, B]
  have b0 := hap_k H [A, B] 1
  have hll := leftL_len s g
  obtain ⟨b, hb⟩ : ∃ b : Bool, b = true ↔ FlOk s g t := by
    by_cases h : FlOk s g t
    · exact ⟨true, fun _ => h, fun _ => rfl⟩
    · exact ⟨false, fun h => Bool.noConfusion h, fun q => absurd q h⟩
  obtain ⟨p, q, Z1, c1, c2, c3, c4, c5, c6⟩ := copyFlS t (e0.isL hx) (e0.isL hy) hs hg
  have a1 := c2.at a0
  have b1 := c2.at b0
  obtain ⟨C, hC⟩ : ∃ C : Reg, C = ⟨[.sl p 0 s.length 1, .sl q 0 g.length 1, .sc (.int .i64 t)], true, true⟩ := ⟨_, rfl⟩
  have e1 := Ext.more Z1 [C]
  have w1 := at_end Z1 C
  have a1' := e1.at a1
  obtain ⟨r, Z2, d1, d2, d3, d4⟩ := leftS t (((e0.trans c2).trans e1).isL hx) (((e0.trans c2).trans e1).isL hy) hs hg
  obtain ⟨Z3, f1, f2⟩ := flOkS t b hb ((((e0.trans c2).trans e1).trans d2).isL hx) ((((e0.trans c2).trans e1).trans d2).isL hy) hs hg
  have e3 := (((e0.trans c2).trans e1).trans d2).trans f2
  have a2 := d2.at (e1.at a1)
  have w2 := d2.at w1
  have a3 := f2.at a2
  have w3 := f2.at w2
  have b3 := f2.at (d2.at (e1.at b1))
  have p3 := f2.at (d2.at (e1.at c5))
  have q3 := f2.at (d2.at (e1.at c6))
  have r3 := f2.at d4
  have z1 : H.length + 2 ≤ p := by rw [List.length_append] at c3; exact c3
  have z2 : q < Z1.length := at_lt c6
  have z3 : Z1.length + 1 ≤ r := by rw [List.length_append] at d3; exact d3
  have z4 : Z1.length < Z3.length := at_lt w3
  have z5 : H.length + 1 < Z3.length := at_lt b3
  subst hA hB hC
  have b3' : ∀ g : Reg, (Z3 ++ [g])[H.length + 1]? = some ⟨[.sc (.slice none 0 0), .sc (.slice none 0 0), .sc (.int .i64 0)], true, true⟩ := fun g => (at_more _ _ _ z5).trans b3
  have s5 : ∀ E g : Reg, ((Z3 ++ [E]).set (H.length + 1) g)[H.length + 1]? = some g := fun E g => List.getElem?_set_self (by rw [List.length_append]; omega)
  have q5 : q < Z3.length := at_lt q3
  have eS := fun Y : Reg => (e3.set (q := H.length + 1) (by omega) Y)
  unfold flt at c1 d1 f1 ⊢
  by_cases hok : FlOk s g t
  · have hbt : b = true := hb.2 hok
    subst hbt
    by_cases hL : leftL s g = []
    · obtain ⟨_, rfl, rfl⟩ | ⟨h, _⟩ := hM
      · have kl : (leftL s g).length = 0 := by rw [hL]; rfl
        have kl2 : ((leftL s g).length : Int) = 0 := by rw [kl]; rfl
        simp -implicitDefEqProofs only [↓w_seq, ↓w_region, ↓ops_cons, ↓g_box, Nat.reduceLT, ev_tab, par0, cells_agg, ↓g_alloc, zero32, Option.map_some, ↓g_assign, ↓ops_nil, ev_const, ↓g_load, ne_eq, Nat.reduceEqDiff, not_false_eq_true, upd_ne, upd_eq, alK_some, List.all_cons, one_nil, one_int, List.all_nil, Bool.and_self, true_and, x1, y1, List.append_assoc, List.cons_append, List.nil_append, rd_def, tyOk32, agg32, cells32, hap_0, List.getElem?_cons_zero, rd_aggc, Nat.zero_add, List.length_cons, List.length_nil, Nat.reduceAdd, Nat.le_refl, List.drop_zero, List.take_succ_cons, List.take_zero, if_true, List.length_append, onS_some]
        refine call1S (by simp -implicitDefEqProofs only [List.map_cons, Nat.reduceLT, ev_tab, upd_eq, List.map_nil] <;> rfl) c1 ?_
        simp -implicitDefEqProofs only [↓ops_cons, ↓g_alloc, zero32, Option.map_some, ↓g_store, Nat.reduceLT, ev_tab, upd_eq, ne_eq, Nat.reduceEqDiff, not_false_eq_true, upd_ne, ↓ops_nil, ↓w_seq, ↓w_region, ↓g_load, rd_def, tyOk32, agg32, cells32, alK_some, List.all_cons, one_nil, one_int, List.all_nil, Bool.and_self, wr_def, hap_0, List.getElem?_cons_zero, wr_c, cells_agg, List.length_cons, List.length_nil, Nat.zero_add, Nat.reduceAdd, Nat.le_refl, one_sl, and_self, ovr_fm, ovr_fn, hset_0, List.set_cons_zero, if_true, onS_some, a1', rd_aggc, List.drop_zero, List.take_succ_cons, List.take_zero, true_and]
        refine call1S (by simp -implicitDefEqProofs only [List.map_cons, Nat.reduceLT, ev_tab, upd_eq, List.map_nil] <;> rfl) d1 ?_
        simp -implicitDefEqProofs only [↓ops_cons, ↓g_assign, ↓ops_nil, ↓w_seq, ↓w_region, Nat.reduceLT, ev_tab, upd_eq, ↓g_load, ne_eq, Nat.reduceEqDiff, not_false_eq_true, upd_ne, rd_def, tyOk32, agg32, cells32, a2, rd_aggc, Nat.zero_add, List.length_cons, List.length_nil, Nat.reduceAdd, Nat.le_refl, List.drop_zero, List.take_succ_cons, List.take_zero, if_true, onS_some]
        refine call1S (by simp -implicitDefEqProofs only [List.map_cons, Nat.reduceLT, ev_tab, upd_eq, List.map_nil] <;> rfl) f1 ?_
        simp -implicitDefEqProofs only [↓ops_cons, ↓g_unOp, Nat.reduceLT, ev_tab, upd_eq, u_not, Bool.not_true, Option.map_some, ↓g_move, onS_some, yielded_tab, dstAt_s, dstAt_0, ybv_some, boolOf_b, ↓g_guard_t, ne_eq, Nat.reduceEqDiff, not_false_eq_true, upd_ne, ↓g_len, Try.underlying22, len_sl, kl2, ↓g_binOp, ev_const, of_int, ↓g_pick, of_bool, pick_b, reduceCtorEq, if_false, b_eql, decide_true, Bool.not_false, ↓g_guard_f, if_true, ↓ops_nil, ↓w_cond, ↓w_seq, ↓w_region, ↓g_load, rd_def, tyOk32, agg32, cells32, w3, rd_aggc, Nat.zero_add, List.length_cons, List.length_nil, Nat.reduceAdd, Nat.le_refl, List.drop_zero, List.take_succ_cons, List.take_zero, ↓g_buildSlice, List.map_nil, bs3_0, ↓g_store, wr_def, ↓g_assign, ↓w_ret, retP_2, res_cell, res_tmp, alK_some, ints_one, b3', wr_c, true_and, onS_ite, s5, cells_agg, List.all_cons, one_sl, one_int, List.all_nil, Bool.and_self, and_self, ovr_fm, ovr_fn, ↓w_skip, ↓g_fieldAddrT, fadr32_2, tyOk3, cells3, over_s, agg3, onB_true]
        exact ⟨p, q, _, rfl, (e3.add _).set (by omega) _, by omega, c4, (List.getElem?_set_ne (by omega)).trans ((at_more _ _ _ (at_lt p3)).trans p3), (List.getElem?_set_ne (by omega)).trans ((at_more _ _ _ (at_lt q3)).trans q3), .inr ⟨_, rfl, (List.getElem?_set_ne (by omega)).trans (at_end _ _)⟩, fun r o n k e => by (injection e with e1; omega)⟩
      · exact absurd (.inr (.inl hL)) h
    · have kl : ¬ ((leftL s g).length : Int) = 0 := fun h => hL (List.length_eq_zero_iff.1 (by omega))
      by_cases ht : t = 1000
      · have kt : 1000 ≤ t := by omega
        obtain ⟨_, rfl, rfl⟩ | ⟨h, _⟩ := hM
        · simp -implicitDefEqProofs only [↓w_seq, ↓w_region, ↓ops_cons, ↓g_box, Nat.reduceLT, ev_tab, par0, cells_agg, ↓g_alloc, zero32, Option.map_some, ↓g_assign, ↓ops_nil, ev_const, ↓g_load, ne_eq, Nat.reduceEqDiff, not_false_eq_true, upd_ne, upd_eq, alK_some, List.all_cons, one_nil, one_int, List.all_nil, Bool.and_self, true_and, x1, y1, List.append_assoc, List.cons_append, List.nil_append, rd_def, tyOk32, agg32, cells32, hap_0, List.getElem?_cons_zero, rd_aggc, Nat.zero_add, List.length_cons, List.length_nil, Nat.reduceAdd, Nat.le_refl, List.drop_zero, List.take_succ_cons, List.take_zero, if_true, List.length_append, onS_some]
          refine call1S (by simp -implicitDefEqProofs only [List.map_cons, Nat.reduceLT, ev_tab, upd_eq, List.map_nil] <;> rfl) c1 ?_
          simp -implicitDefEqProofs only [↓ops_cons, ↓g_alloc, zero32, Option.map_some, ↓g_store, Nat.reduceLT, ev_tab, upd_eq, ne_eq, Nat.reduceEqDiff, not_false_eq_true, upd_ne, ↓ops_nil, ↓w_seq, ↓w_region, ↓g_load, rd_def, tyOk32, agg32, cells32, alK_some, List.all_cons, one_nil, one_int, List.all_nil, Bool.and_self, wr_def, hap_0, List.getElem?_cons_zero, wr_c, cells_agg, List.length_cons, List.length_nil, Nat.zero_add, Nat.reduceAdd, Nat.le_refl, one_sl, and_self, ovr_fm, ovr_fn, hset_0, List.set_cons_zero, if_true, onS_some, a1', rd_aggc, List.drop_zero, List.take_succ_cons, List.take_zero, true_and]
          refine call1S (by simp -implicitDefEqProofs only [List.map_cons, Nat.reduceLT, ev_tab, upd_eq, List.map_nil] <;> rfl) d1 ?_
          simp -implicitDefEqProofs only [↓ops_cons, ↓g_assign, ↓ops_nil, ↓w_seq, ↓w_region, Nat.reduceLT, ev_tab, upd_eq, ↓g_load, ne_eq, Nat.reduceEqDiff, not_false_eq_true, upd_ne, rd_def, tyOk32, agg32, cells32, a2, rd_aggc, Nat.zero_add, List.length_cons, List.length_nil, Nat.reduceAdd, Nat.le_refl, List.drop_zero, List.take_succ_cons, List.take_zero, if_true, onS_some]
          refine call1S (by simp -implicitDefEqProofs only [List.map_cons, Nat.reduceLT, ev_tab, upd_eq, List.map_nil] <;> rfl) f1 ?_
          simp -implicitDefEqProofs only [↓ops_cons, ↓g_unOp, Nat.reduceLT, ev_tab, upd_eq, u_not, Bool.not_true, Option.map_some, ↓g_move, onS_some, yielded_tab, dstAt_s, dstAt_0, ybv_some, boolOf_b, ↓g_guard_t, ne_eq, Nat.reduceEqDiff, not_false_eq_true, upd_ne, ↓g_len, Try.underlying22, len_sl, ↓g_binOp, ev_const, of_int, ↓g_pick, of_bool, pick_b, reduceCtorEq, if_false, b_eql, kl, decide_false, ↓g_fieldAddrT, fadr32_2, Nat.zero_add, ↓g_load, ↓ops_nil, ↓w_cond, ↓w_seq, ↓w_region, rd_def, tyOk32, agg32, cells32, w3, rd_aggc, List.length_cons, List.length_nil, Nat.reduceAdd, Nat.le_refl, List.drop_zero, List.take_succ_cons, List.take_zero, if_true, ↓g_buildSlice, List.map_nil, bs3_0, ↓g_store, wr_def, ↓g_assign, ↓w_ret, retP_2, res_cell, res_tmp, alK_some, ints_one, b3', wr_c, true_and, onS_ite, s5, cells_agg, List.all_cons, one_sl, one_int, List.all_nil, Bool.and_self, and_self, ovr_fm, ovr_fn, ↓w_skip, tyOk3, cells3, over_s, agg3, a3, rd_onec, List.getElem?_cons_succ, List.getElem?_cons_zero, b_add, cells_int, b_geq, kt, decide_true, onB_true]
          exact ⟨p, q, _, rfl, (e3.add _).set (by omega) _, by omega, c4, (List.getElem?_set_ne (by omega)).trans ((at_more _ _ _ (at_lt p3)).trans p3), (List.getElem?_set_ne (by omega)).trans ((at_more _ _ _ (at_lt q3)).trans q3), .inr ⟨_, rfl, (List.getElem?_set_ne (by omega)).trans (at_end _ _)⟩, fun r o n k e => by (injection e with e1; omega)⟩
        · exact absurd (.inr (.inr (by omega))) h
      · obtain ⟨h, _⟩ | ⟨_, rfl, rfl⟩ := hM
        · exact absurd h (by
            rintro (h | h | h)
            · exact h hok
            · exact hL h
            · exact ht (by have := hok.2.2.2.1.2; omega))
        · have kt : ¬ 1000 ≤ t := by have := hok.2.2.2.1.2; omega
          have e4 : IntKind.i64.wrap (t + 1) = t + 1 := by
            have := hok.2.2.2.1
            exact w64 (by omega) (by omega)
          have b4 : ∀ g : Reg, (Z3.set Z1.length g)[H.length + 1]? = some ⟨[.sc (.slice none 0 0), .sc (.slice none 0 0), .sc (.int .i64 0)], true, true⟩ := fun g => (List.getElem?_set_ne (by omega)).trans b3
          have w5 : ∀ C g : Reg, ((Z3.set Z1.length C).set (H.length + 1) g)[H.length + 1]? = some g := fun C g => List.getElem?_set_self (by rw [List.length_set]; omega)
          have w4 : ∀ g : Reg, (Z3.set Z1.length g)[Z1.length]? = some g := fun g => List.getElem?_set_self z4
          simp -implicitDefEqProofs only [↓w_seq, ↓w_region, ↓ops_cons, ↓g_box, Nat.reduceLT, ev_tab, par0, cells_agg, ↓g_alloc, zero32, Option.map_some, ↓g_assign, ↓ops_nil, ev_const, ↓g_load, ne_eq, Nat.reduceEqDiff, not_false_eq_true, upd_ne, upd_eq, alK_some, List.all_cons, one_nil, one_int, List.all_nil, Bool.and_self, true_and, x1, y1, List.append_assoc, List.cons_append, List.nil_append, rd_def, tyOk32, agg32, cells32, hap_0, List.getElem?_cons_zero, rd_aggc, Nat.zero_add, List.length_cons, List.length_nil, Nat.reduceAdd, Nat.le_refl, List.drop_zero, List.take_succ_cons, List.take_zero, if_true, List.length_append, onS_some]
          refine call1S (by simp -implicitDefEqProofs only [List.map_cons, Nat.reduceLT, ev_tab, upd_eq, List.map_nil] <;> rfl) c1 ?_
          simp -implicitDefEqProofs only [↓ops_cons, ↓g_alloc, zero32, Option.map_some, ↓g_store, Nat.reduceLT, ev_tab, upd_eq, ne_eq, Nat.reduceEqDiff, not_false_eq_true, upd_ne, ↓ops_nil, ↓w_seq, ↓w_region, ↓g_load, rd_def, tyOk32, agg32, cells32, alK_some, List.all_cons, one_nil, one_int, List.all_nil, Bool.and_self, wr_def, hap_0, List.getElem?_cons_zero, wr_c, cells_agg, List.length_cons, List.length_nil, Nat.zero_add, Nat.reduceAdd, Nat.le_refl, one_sl, and_self, ovr_fm, ovr_fn, hset_0, List.set_cons_zero, if_true, onS_some, a1', rd_aggc, List.drop_zero, List.take_succ_cons, List.take_zero, true_and]
          refine call1S (by simp -implicitDefEqProofs only [List.map_cons, Nat.reduceLT, ev_tab, upd_eq, List.map_nil] <;> rfl) d1 ?_
          simp -implicitDefEqProofs only [↓ops_cons, ↓g_assign, ↓ops_nil, ↓w_seq, ↓w_region, Nat.reduceLT, ev_tab, upd_eq, ↓g_load, ne_eq, Nat.reduceEqDiff, not_false_eq_true, upd_ne, rd_def, tyOk32, agg32, cells32, a2, rd_aggc, Nat.zero_add, List.length_cons, List.length_nil, Nat.reduceAdd, Nat.le_refl, List.drop_zero, List.take_succ_cons, List.take_zero, if_true, onS_some]
          refine call1S (by simp -implicitDefEqProofs only [List.map_cons, Nat.reduceLT, ev_tab, upd_eq, List.map_nil] <;> rfl) f1 ?_
          simp -implicitDefEqProofs only [↓ops_cons, ↓g_unOp, Nat.reduceLT, ev_tab, upd_eq, u_not, Bool.not_true, Option.map_some, ↓g_move, onS_some, yielded_tab, dstAt_s, dstAt_0, ybv_some, boolOf_b, ↓g_guard_t, ne_eq, Nat.reduceEqDiff, not_false_eq_true, upd_ne, ↓g_len, Try.underlying22, len_sl, ↓g_binOp, ev_const, of_int, ↓g_pick, of_bool, pick_b, reduceCtorEq, if_false, b_eql, kl, decide_false, ↓g_fieldAddrT, fadr32_2, Nat.zero_add, ↓g_load, ↓ops_nil, ↓w_cond, ↓w_seq, ↓w_region, rd_def, tyOk32, agg32, cells32, w3, rd_aggc, List.length_cons, List.length_nil, Nat.reduceAdd, Nat.le_refl, List.drop_zero, List.take_succ_cons, List.take_zero, if_true, ↓g_buildSlice, List.map_nil, bs3_0, ↓g_store, wr_def, ↓g_assign, ↓w_ret, retP_2, res_cell, res_tmp, alK_some, ints_one, true_and, ↓w_skip, tyOk3, cells3, wr_c, over_s, onS_ite, w4, Nat.reduceLeDiff, b4, w5, cells_agg, List.all_cons, one_sl, ovr_fm, agg3, a3, rd_onec, List.getElem?_cons_succ, List.getElem?_cons_zero, b_add, e4, cells_int, one_int, List.all_nil, Bool.and_self, and_self, ovr_fn, b_geq, kt, onB_false]
          refine ⟨p, q, _, rfl, (e3.set (by omega) _).set (by omega) _, by omega, c4, ?_, ?_, ?_, fun r o n k e => ?_⟩
          · exact (List.getElem?_set_ne (by omega)).trans ((List.getElem?_set_ne (by omega)).trans p3)
          · exact (List.getElem?_set_ne (by omega)).trans ((List.getElem?_set_ne (by omega)).trans q3)
          · exact Own.sl ((List.getElem?_set_ne (by omega)).trans ((List.getElem?_set_ne (by omega)).trans r3))
          · injection e with e1
            omega
  · have hbf : b = false := by
      cases b with
      | false => rfl
      | true => exact absurd (hb.1 rfl) hok
    subst hbf
    obtain ⟨_, rfl, rfl⟩ | ⟨h, _⟩ := hM
    · simp -implicitDefEqProofs only [↓w_seq, ↓w_region, ↓ops_cons, ↓g_box, Nat.reduceLT, ev_tab, par0, cells_agg, ↓g_alloc, zero32, Option.map_some, ↓g_assign, ↓ops_nil, ev_const, ↓g_load, ne_eq, Nat.reduceEqDiff, not_false_eq_true, upd_ne, upd_eq, alK_some, List.all_cons, one_nil, one_int, List.all_nil, Bool.and_self, true_and, x1, y1, List.append_assoc, List.cons_append, List.nil_append, rd_def, tyOk32, agg32, cells32, hap_0, List.getElem?_cons_zero, rd_aggc, Nat.zero_add, List.length_cons, List.length_nil, Nat.reduceAdd, Nat.le_refl, List.drop_zero, List.take_succ_cons, List.take_zero, if_true, List.length_append, onS_some]
      refine call1S (by simp -implicitDefEqProofs only [List.map_cons, Nat.reduceLT, ev_tab, upd_eq, List.map_nil] <;> rfl) c1 ?_
      simp -implicitDefEqProofs only [↓ops_cons, ↓g_alloc, zero32, Option.map_some, ↓g_store, Nat.reduceLT, ev_tab, upd_eq, ne_eq, Nat.reduceEqDiff, not_false_eq_true, upd_ne, ↓ops_nil, ↓w_seq, ↓w_region, ↓g_load, rd_def, tyOk32, agg32, cells32, alK_some, List.all_cons, one_nil, one_int, List.all_nil, Bool.and_self, wr_def, hap_0, List.getElem?_cons_zero, wr_c, cells_agg, List.length_cons, List.length_nil, Nat.zero_add, Nat.reduceAdd, Nat.le_refl, one_sl, and_self, ovr_fm, ovr_fn, hset_0, List.set_cons_zero, if_true, onS_some, a1', rd_aggc, List.drop_zero, List.take_succ_cons, List.take_zero, true_and]
      refine call1S (by simp -implicitDefEqProofs only [List.map_cons, Nat.reduceLT, ev_tab, upd_eq, List.map_nil] <;> rfl) d1 ?_
      simp -implicitDefEqProofs only [↓ops_cons, ↓g_assign, ↓ops_nil, ↓w_seq, ↓w_region, Nat.reduceLT, ev_tab, upd_eq, ↓g_load, ne_eq, Nat.reduceEqDiff, not_false_eq_true, upd_ne, rd_def, tyOk32, agg32, cells32, a2, rd_aggc, Nat.zero_add, List.length_cons, List.length_nil, Nat.reduceAdd, Nat.le_refl, List.drop_zero, List.take_succ_cons, List.take_zero, if_true, onS_some]
      refine call1S (by simp -implicitDefEqProofs only [List.map_cons, Nat.reduceLT, ev_tab, upd_eq, List.map_nil] <;> rfl) f1 ?_
      simp -implicitDefEqProofs only [↓ops_cons, ↓g_unOp, Nat.reduceLT, ev_tab, upd_eq, u_not, Bool.not_false, Option.map_some, ↓g_move, onS_some, yielded_tab, dstAt_s, dstAt_0, ybv_some, boolOf_b, ↓g_guard_f, ne_eq, Nat.reduceEqDiff, not_false_eq_true, upd_ne, ↓g_pick, ev_const, of_bool, pick_b, if_true, ↓ops_nil, ↓w_cond, ↓w_seq, ↓w_region, ↓g_load, rd_def, tyOk32, agg32, cells32, w3, rd_aggc, Nat.zero_add, List.length_cons, List.length_nil, Nat.reduceAdd, Nat.le_refl, List.drop_zero, List.take_succ_cons, List.take_zero, ↓g_buildSlice, Try.underlying22, List.map_nil, bs3_0, ↓g_store, wr_def, ↓g_assign, ↓w_ret, retP_2, res_cell, res_tmp, alK_some, ints_one, b3', wr_c, true_and, onS_ite, s5, cells_agg, List.all_cons, one_sl, one_int, List.all_nil, Bool.and_self, and_self, ovr_fm, ovr_fn, ↓w_skip, ↓g_fieldAddrT, fadr32_2, ↓g_binOp, of_int, tyOk3, cells3, over_s, agg3, onB_true]
      exact ⟨p, q, _, rfl, (e3.add _).set (by omega) _, by omega, c4, (List.getElem?_set_ne (by omega)).trans ((at_more _ _ _ (at_lt p3)).trans p3), (List.getElem?_set_ne (by omega)).trans ((at_more _ _ _ (at_lt q3)).trans q3), .inr ⟨_, rfl, (List.getElem?_set_ne (by omega)).trans (at_end _ _)⟩, fun r o n k e => by (injection e with e1; omega)⟩
    · exact absurd (.inl hok) h
end Go.Proofs.Ytcjjcpdfnndenaa.Sim

