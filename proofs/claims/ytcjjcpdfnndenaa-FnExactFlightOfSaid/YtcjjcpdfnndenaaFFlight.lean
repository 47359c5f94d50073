/- Flights: what is in them, copies, what is left, whether one is right. -/
import Derived.Test.YtcjjcpdfnndenaaFUp
import Derived.Test.YtcjjcpdfnndenaaFHap
namespace Go.Proofs.Ytcjjcpdfnndenaa.Sim
open Go
set_option maxRecDepth 100000
set_option maxHeartbeats 40000000
set_option linter.unusedSimpArgs false
set_option linter.unusedVariables false
theorem take_s (l : List Int) (i : Nat) (h : i < l.length) : l.take (i + 1) = l.take i ++ [l.getD i 0] := by
  rw [List.take_add_one, List.getD_eq_getElem?_getD, List.getElem?_eq_getElem h]
  rfl
theorem mem_get {l : List Int} {v : Int} (h : v ∈ l) : ∃ i, i < l.length ∧ l.getD i 0 = v := by
  obtain ⟨i, hi, rfl⟩ := List.getElem_of_mem h
  exact ⟨i, hi, by simp [hi]⟩
theorem get_mem (l : List Int) (i : Nat) (h : i < l.length) : l.getD i 0 ∈ l := by
  rw [List.getD_eq_getElem?_getD, List.getElem?_eq_getElem h]
  exact List.getElem_mem h
theorem inLS {H : AHeap} {x : AV} {l : List Int} (v : Int) (hx : IsL H x .i64 l) (hl : l.length ≤ 1000000000) : Sound Try.prog 49 [x, .sc (.int .i64 v)] H (.sc (.bool (decide (v ∈ l)))) H := by
  refine Sound.run 18 [.tmp 4] Try.func49 rfl rfl rfl rfl (by simp) ?_
  have lx := fun e => hx.len e
  simp -implicitDefEqProofs only [↓w_seq, ↓w_region, ↓ops_cons, ↓g_assign, ↓ops_nil, ev_const, of_bool, ↓w_block, of_int]
  refine w_loop (ι := Nat) (fun i s => ∃ T : Nat → AV, s = ⟨tab 18 T, H⟩ ∧ i ≤ l.length ∧ (∀ j, j < i → l.getD j 0 ≠ v) ∧ T 0 = x ∧ T 1 = .sc (.int .i64 v) ∧ T 5 = .sc (.int .i64 i)) (fun i => l.length - i) ?_ (i := 0) ?_
  · rintro i s ⟨T, rfl, a1, a0, a2, a3, a4⟩
    by_cases h : i < l.length
    · have k1 : (i : Int) < l.length := by omega
      have k2 : (0 : Int) ≤ i := by omega
      have e1 : IntKind.i64.wrap ((i : Int) + 1) = i + 1 := w64 (by omega) (by omega)
      obtain ⟨r, o, rfl, hr⟩ := hx.get (i := i) h
      by_cases hv : l.getD i 0 = v
      · have hm : decide (v ∈ l) = true := decide_eq_true (hv ▸ get_mem l i h)
        simp -implicitDefEqProofs only [↓w_seq, ↓w_region, ne_eq, hm, ↓ops_cons, ↓g_move, ↓g_len, Try.underlying22, Nat.reduceLT, ev_tab, a4, reduceCtorEq, not_false_eq_true, upd_ne, a2, upd_eq, lx, ↓g_binOp, Nat.reduceEqDiff, ↓ops_nil, ↓w_cond, ↓w_skip, ↓w_block, ↓g_indexAddr, adr_sl, k2, k1, cells3, tyOk3, and_self, Int.toNat_natCast, Nat.mul_one, Nat.zero_add, if_true, ↓g_load, a3, ↓g_assign, ↓w_ret, ev_const, of_bool, ret_one, of_int, b_add, onS_some, rd_def, agg3, hr, rd_ints, h, hv, b_eql, decide_true, onB_true, ↓w_exit, and_true, b_lss]
      · simp -implicitDefEqProofs only [↓w_seq, ↓w_region, ne_eq, ↓ops_cons, ↓g_move, ↓g_len, Try.underlying22, Nat.reduceLT, ev_tab, a4, reduceCtorEq, not_false_eq_true, upd_ne, a2, upd_eq, lx, ↓g_binOp, Nat.reduceEqDiff, ↓ops_nil, ↓w_cond, ↓w_skip, ↓w_block, ↓g_indexAddr, adr_sl, k2, k1, cells3, tyOk3, and_self, Int.toNat_natCast, Nat.mul_one, Nat.zero_add, if_true, ↓g_load, a3, ↓g_assign, ↓w_ret, ev_const, of_bool, ret_one, and_true, of_int, b_add, e1, onS_some, rd_def, agg3, hr, rd_ints, h, b_eql, hv, decide_false, onB_false, ↓w_exit, b_lss, decide_true, onB_true]
        refine ⟨i + 1, by omega, _, rfl, by omega, ?_, ?_, ?_, ?_⟩
        · intro j hj
          rcases Nat.lt_or_ge j i with q | q
          · exact a0 j q
          · obtain rfl : j = i := by omega
            exact hv
        all_goals (simp -implicitDefEqProofs only [ne_eq, reduceCtorEq, not_false_eq_true, upd_ne, a2, Nat.reduceEqDiff, a3, upd_eq] <;> rfl)
    · have k1 : ¬ (i : Int) < l.length := by omega
      have hm : decide (v ∈ l) = false := decide_eq_false fun hm => by
        obtain ⟨j, j1, j2⟩ := mem_get hm
        exact a0 j (by omega) j2
      simp -implicitDefEqProofs only [↓w_seq, ↓w_region, ne_eq, hm, ↓ops_cons, ↓g_move, ↓g_len, Try.underlying22, Nat.reduceLT, ev_tab, a4, reduceCtorEq, not_false_eq_true, upd_ne, a2, upd_eq, lx, ↓g_binOp, Nat.reduceEqDiff, ↓ops_nil, ↓w_cond, ↓w_skip, ↓w_block, ↓g_indexAddr, ↓g_load, a3, ↓g_assign, ↓w_ret, ev_const, of_bool, ret_one, and_true, of_int, b_add, onS_some, ↓w_exit, and_self, if_true, b_lss, k1, decide_false, onB_false]
  · refine ⟨_, rfl, by omega, fun j hj => by omega, ?_, ?_, ?_⟩ <;> simp -implicitDefEqProofs only [ne_eq, reduceCtorEq, not_false_eq_true, upd_ne, par0, Nat.reduceEqDiff, par1, upd_eq, Int.cast_ofNat_Int] <;> rfl
theorem indexI {H : AHeap} {x : AV} {l : List Int} (v : Int) (hx : IsL H x .i64 l) (hl : l.length ≤ 1000000000) : ∃ n : Int, Sound Try.prog 67 [x, .sc (.int .i64 v)] H (.sc (.int .i64 n)) H ∧ (0 ≤ n ↔ v ∈ l) := by
  suffices h : ∃ w Z, Sound Try.prog 67 [x, .sc (.int .i64 v)] H w Z ∧ ∃ n : Int, w = .sc (.int .i64 n) ∧ Z = H ∧ (0 ≤ n ↔ v ∈ l) by
    obtain ⟨w, Z, h1, n, rfl, rfl, h2⟩ := h
    exact ⟨n, h1, h2⟩
  refine Sound.runP (args := [x, .sc (.int .i64 v)]) 19 [.tmp 4] Try.func67 rfl rfl rfl rfl (by simp) (fun w Z => ∃ n : Int, w = .sc (.int .i64 n) ∧ Z = H ∧ (0 ≤ n ↔ v ∈ l)) ?_
  have lx := fun e => hx.len e
  simp -implicitDefEqProofs only [↓w_seq, ↓w_region, Int.reduceNeg, ↓ops_cons, ↓g_assign, ↓ops_nil, ev_const, of_int, ↓g_move, ↓g_len, Try.underlying22, Nat.reduceLT, ev_tab, ne_eq, reduceCtorEq, not_false_eq_true, upd_ne, par0, upd_eq, lx, ↓w_block, onS_some]
  refine w_loop (ι := Nat) (fun i s => ∃ T : Nat → AV, s = ⟨tab 19 T, H⟩ ∧ i ≤ l.length ∧ (∀ j, j < i → l.getD j 0 ≠ v) ∧ T 0 = x ∧ T 1 = .sc (.int .i64 v) ∧ T 7 = .sc (.int .i64 l.length) ∧ T 8 = .sc (.int .i64 i)) (fun i => l.length - i) ?_ (i := 0) ?_
  · rintro i s ⟨T, rfl, a1, a0, a2, a3, a4, a5⟩
    by_cases h : i < l.length
    · have k1 : (i : Int) < l.length := by omega
      have k2 : (0 : Int) ≤ i := by omega
      have e1 : IntKind.i64.wrap ((i : Int) + 1) = i + 1 := w64 (by omega) (by omega)
      obtain ⟨r, o, rfl, hr⟩ := hx.get (i := i) h
      by_cases hv : v = l.getD i 0
      · have hv2 := eq_true hv
        simp -implicitDefEqProofs only [↓w_seq, ↓w_region, ne_eq, Int.reduceNeg, ↓ops_cons, ↓g_binOp, Nat.reduceLT, ev_tab, a5, a4, b_lss, k1, decide_true, ↓ops_nil, ↓w_cond, upd_eq, ↓w_skip, ↓w_block, ↓g_move, ↓g_assign, Nat.reduceEqDiff, not_false_eq_true, upd_ne, ↓g_indexAddr, Try.underlying22, a3, reduceCtorEq, a2, adr_sl, k2, cells3, tyOk3, and_self, Int.toNat_natCast, Nat.mul_one, Nat.zero_add, if_true, ↓g_load, ↓w_ret, retP_1, res_tmp, true_and, onS_some, ev_const, of_int, b_add, rd_def, agg3, hr, rd_ints, h, b_eql, hv2, onB_true, ↓w_exit]
        exact ⟨_, rfl, ⟨fun _ => hv ▸ get_mem l i h, fun _ => k2⟩⟩
      · simp -implicitDefEqProofs only [↓w_seq, ↓w_region, ne_eq, Int.reduceNeg, ↓ops_cons, ↓g_binOp, Nat.reduceLT, ev_tab, a5, a4, b_lss, k1, decide_true, ↓ops_nil, ↓w_cond, upd_eq, ↓w_skip, ↓w_block, ↓g_move, ↓g_assign, Nat.reduceEqDiff, not_false_eq_true, upd_ne, ↓g_indexAddr, Try.underlying22, a3, reduceCtorEq, a2, adr_sl, k2, cells3, tyOk3, and_self, Int.toNat_natCast, Nat.mul_one, Nat.zero_add, if_true, ↓g_load, ↓w_ret, retP_1, res_tmp, true_and, onS_some, ev_const, of_int, b_add, e1, rd_def, agg3, hr, rd_ints, h, b_eql, hv, decide_false, onB_false, ↓w_exit, onB_true]
        refine ⟨i + 1, by omega, _, rfl, by omega, ?_, ?_, ?_, ?_, ?_⟩
        · intro j hj
          rcases Nat.lt_or_ge j i with q | q
          · exact a0 j q
          · obtain rfl : j = i := by omega
            exact fun h => hv h.symm
        all_goals (simp -implicitDefEqProofs only [ne_eq, reduceCtorEq, not_false_eq_true, upd_ne, a2, Nat.reduceEqDiff, a3, a4, upd_eq] <;> rfl)
    · have k1 : ¬ (i : Int) < l.length := by omega
      simp -implicitDefEqProofs only [↓w_seq, ↓w_region, ne_eq, Int.reduceNeg, ↓ops_cons, ↓g_binOp, Nat.reduceLT, ev_tab, a5, a4, b_lss, k1, decide_false, ↓ops_nil, ↓w_cond, upd_eq, ↓w_skip, ↓w_block, ↓g_move, ↓g_assign, Nat.reduceEqDiff, not_false_eq_true, upd_ne, ↓g_indexAddr, Try.underlying22, a3, reduceCtorEq, a2, ↓g_load, ↓w_ret, retP_1, res_tmp, true_and, onS_some, ev_const, of_int, b_add, ↓w_exit, if_true, onB_false]
      refine ⟨-1, rfl, ⟨fun h => by omega, fun hm => ?_⟩⟩
      obtain ⟨j, j1, j2⟩ := mem_get hm
      exact absurd j2 (a0 j (by omega))
  · refine ⟨_, rfl, by omega, fun j hj => by omega, ?_, ?_, ?_, ?_⟩ <;> simp -implicitDefEqProofs only [ne_eq, reduceCtorEq, not_false_eq_true, upd_ne, par0, Nat.reduceEqDiff, par1, upd_eq, Int.cast_ofNat_Int] <;> rfl
theorem inLI {H : AHeap} {x : AV} {l : List Int} (v : Int) (hx : IsL H x .i64 l) (hl : l.length ≤ 1000000000) : Sound Try.prog 50 [x, .sc (.int .i64 v)] H (.sc (.bool (decide (v ∈ l)))) H := by
  refine Sound.run 9 [.tmp 4] Try.func50 rfl rfl rfl rfl (by simp) ?_
  obtain ⟨n, n1, n2⟩ := indexI v hx hl
  simp -implicitDefEqProofs only [↓w_seq, ↓w_region, ↓ops_cons, ↓g_assign, ↓ops_nil, ev_const, of_bool, ↓g_move, Nat.reduceLT, ev_tab, ne_eq, reduceCtorEq, not_false_eq_true, upd_ne, par0, Nat.reduceEqDiff, par1]
  refine call1S (by simp -implicitDefEqProofs only [List.map_cons, Nat.reduceLT, ev_tab, ne_eq, Nat.reduceEqDiff, not_false_eq_true, upd_ne, upd_eq, List.map_nil] <;> rfl) n1 ?_
  by_cases h : v ∈ l
  · have h2 := eq_true (n2.2 h)
    have hm : decide (v ∈ l) = true := decide_eq_true h
    simp -implicitDefEqProofs only [↓ops_cons, ↓g_binOp, Nat.reduceLT, ev_tab, upd_eq, ev_const, of_int, b_geq, h2, decide_true, ↓g_assign, ↓ops_nil, ↓w_ret, hm, ret_one, and_true, onS_some]
  · have h2 := eq_false (fun q => h (n2.1 q))
    have hm : decide (v ∈ l) = false := decide_eq_false h
    simp -implicitDefEqProofs only [↓ops_cons, ↓g_binOp, Nat.reduceLT, ev_tab, upd_eq, ev_const, of_int, b_geq, h2, decide_false, ↓g_assign, ↓ops_nil, ↓w_ret, hm, ret_one, and_true, onS_some]
theorem ovr_fm (a : AV) (cs : List AV) (y : AV) (ys : List AV) : overA (a :: cs) 0 (y :: ys) = y :: overA cs 0 ys := by simp [overA]
theorem ovr_fn (cs : List AV) : overA cs 0 [] = cs := by simp [overA]
/-- A flight. -/
def flt (x y : AV) (t : Int) : AV := .agg [x, y, .sc (.int .i64 t)]
theorem copyIntsI {H : AHeap} {x : AV} {l : List Int} (hx : IsL H x .i64 l) (hl : l.length ≤ 1000000000) : ∃ (q : Nat) (Z : AHeap), Sound Try.prog 68 [x] H (.sl q 0 l.length 1) Z ∧ Ext H Z ∧ H.length ≤ q ∧ Z[q]? = some ⟨ints .i64 l, true, true⟩ := by
  suffices h : ∃ v Z, Sound Try.prog 68 [x] H v Z ∧ ∃ q, v = .sl q 0 l.length 1 ∧ Ext H Z ∧ H.length ≤ q ∧ Z[q]? = some ⟨ints .i64 l, true, true⟩ by
    obtain ⟨v, Z, h1, q, rfl, h2⟩ := h
    exact ⟨q, Z, h1, h2⟩
  refine Sound.runP (args := [x]) 6 [.tmp 2] Try.func68 rfl rfl rfl rfl (by simp) (fun v Z => ∃ q, v = .sl q 0 l.length 1 ∧ Ext H Z ∧ H.length ≤ q ∧ Z[q]? = some ⟨ints .i64 l, true, true⟩) ?_
  have hsrc := fun Y => ((Ext.more H Y).isL hx).src
  have k1 : l.length * 8 ≤ 140737488355328 := by omega
  have k2 : l.length ≤ 140737488355328 := by omega
  simp -implicitDefEqProofs only [↓w_seq, ↓w_region, ↓ops_cons, ↓g_assign, ↓ops_nil, ev_const, ↓g_buildSlice, Try.underlying22, List.map_nil, bs3_0, ↓g_move, ↓g_append, Nat.reduceLT, ev_tab, ne_eq, reduceCtorEq, not_false_eq_true, upd_ne, par0, Nat.reduceEqDiff, upd_eq, ↓w_ret, retP_1, res_tmp, onS_some, alK_some, ints_one, apS22, hap_0, List.getElem?_cons_zero, hsrc, ap_ints, List.length_nil, Nat.le_refl, Nat.zero_add, k1, k2, and_self, List.length_append, List.length_cons, hkill_0, kill_0, List.take_zero, List.nil_append, List.append_assoc, List.cons_append, if_true, true_and]
  exact ⟨_, rfl, Ext.more _ _, by omega, hap_k _ _ 1⟩
theorem copyFlI {H : AHeap} {x y : AV} {a b : List Int} (t : Int) (hx : IsL H x .i64 a) (hy : IsL H y .i64 b) (ha : a.length ≤ 1000000000) (hb : b.length ≤ 1000000000) : ∃ (p q : Nat) (Z : AHeap), Sound Try.prog 56 [flt x y t] H (flt (.sl p 0 a.length 1) (.sl q 0 b.length 1) t) Z ∧ Ext H Z ∧ H.length ≤ p ∧ p < q ∧ Z[p]? = some ⟨ints .i64 a, true, true⟩ ∧ Z[q]? = some ⟨ints .i64 b, true, true⟩ := by
  suffices h : ∃ v Z, Sound Try.prog 56 [flt x y t] H v Z ∧ ∃ p q, v = flt (.sl p 0 a.length 1) (.sl q 0 b.length 1) t ∧ Ext H Z ∧ H.length ≤ p ∧ p < q ∧ Z[p]? = some ⟨ints .i64 a, true, true⟩ ∧ Z[q]? = some ⟨ints .i64 b, true, true⟩ by
    obtain ⟨v, Z, h1, p, q, rfl, h2⟩ := h
    exact ⟨p, q, Z, h1, h2⟩
  refine Sound.runP (args := [flt x y t]) 12 [.cell 2 32] Try.func56 rfl rfl rfl rfl (by simp) (fun v Z => ∃ p q, v = flt (.sl p 0 a.length 1) (.sl q 0 b.length 1) t ∧ Ext H Z ∧ H.length ≤ p ∧ p < q ∧ Z[p]? = some ⟨ints .i64 a, true, true⟩ ∧ Z[q]? = some ⟨ints .i64 b, true, true⟩) ?_
  have x1 := hx.one
  have y1 := hy.one
  obtain ⟨A, hA⟩ : ∃ A : Reg, A = ⟨[x, y, .sc (.int .i64 t)], true, true⟩ := ⟨_, rfl⟩
  obtain ⟨B, hB⟩ : ∃ B : Reg, B = ⟨[.sc (.slice none 0 0), .sc (.slice none 0 0), .sc (.int .i64 0)], true, true⟩ := ⟨_, rfl⟩
  have e0 := Ext.more H [A, B]
  have a0 := hap_0 H [A, B]
  have b0 := hap_k H [A, B] 1
  obtain ⟨p, Z1, p1, p2, p3, p4⟩ := copyIntsI (e0.isL hx) ha
  have a1 := p2.at a0
  obtain ⟨q, Z2, q1, q2, q3, q4⟩ := copyIntsI ((e0.trans p2).isL hy) hb
  have a2 := q2.at a1
  have b2 := q2.at (p2.at b0)
  have hp : p < Z1.length := at_lt p4
  have p3' : H.length + 2 ≤ p := by rw [List.length_append] at p3; exact p3
  subst hA hB
  unfold flt
  simp -implicitDefEqProofs only [↓w_seq, ↓w_region, ↓ops_cons, ↓g_box, Nat.reduceLT, ev_tab, par0, cells_agg, ↓g_alloc, zero32, Option.map_some, ↓ops_nil, alK_some, List.all_cons, one_nil, one_int, List.all_nil, Bool.and_self, true_and, x1, y1, List.length_append, List.length_cons, List.length_nil, Nat.zero_add, List.append_assoc, List.cons_append, List.nil_append]
  refine drawn [(1, 0), (4, 0), (4, 3), (7, 0), (7, 3), (7, 6)] follows (by kernel_rfl) (by kernel_rfl) ?_
  simp -implicitDefEqProofs only [↓dops_cons, ↓g_fieldAddrT, Nat.reduceLT, ev_tab, ne_eq, Nat.reduceEqDiff, not_false_eq_true, upd_ne, upd_eq, fadr32_0, Nat.zero_add, ↓g_load, onS_some, rd_def, tyOk22, agg22, cells22, hap_0, List.getElem?_cons_zero, rd_onec]
  refine call1S (by simp -implicitDefEqProofs only [List.map_cons, Nat.reduceLT, ev_tab, upd_eq, List.map_nil] <;> rfl) p1 ?_
  simp -implicitDefEqProofs only [↓dops_cons, ↓g_fieldAddrT, Nat.reduceLT, ev_tab, ne_eq, Nat.reduceEqDiff, not_false_eq_true, upd_ne, upd_eq, fadr32_1, Nat.zero_add, ↓g_load, onS_some, rd_def, tyOk22, agg22, cells22, a1, rd_onec, List.getElem?_cons_succ, List.getElem?_cons_zero]
  refine call1S (by simp -implicitDefEqProofs only [List.map_cons, Nat.reduceLT, ev_tab, upd_eq, List.map_nil] <;> rfl) q1 ?_
  simp -implicitDefEqProofs only [↓dops_cons, ↓g_fieldAddrT, Nat.reduceLT, ev_tab, ne_eq, Nat.reduceEqDiff, not_false_eq_true, upd_ne, upd_eq, fadr32_2, Nat.zero_add, ↓g_load, ↓g_buildV, List.map_cons, List.map_nil, cells_sl, ↓g_store, wr_def, tyOk32, cells32, b2, wr_c, List.length_cons, List.length_nil, Nat.reduceAdd, Nat.le_refl, true_and, ↓dops_p, ↓w_ret, retP_1, res_cell, rd_def, agg32, onS_ite, onS_some, tyOk3, agg3, cells3, a2, rd_onec, List.getElem?_cons_succ, List.getElem?_cons_zero, cells_int, bds32, cells_agg, List.all_cons, one_sl, one_int, List.all_nil, Bool.and_self, and_self, ovr_fm, ovr_fn]
  refine ⟨pairs_cons (same_H rfl) (pairs_cons (same_ld _ _ H.length 1 rfl rfl (a0.trans a1.symm)) (pairs_cons (same_H rfl) (pairs_cons (same_ld _ _ H.length 2 rfl rfl (a0.trans a2.symm)) (pairs_cons (same_ld _ _ H.length 2 rfl rfl (a1.trans a2.symm)) (pairs_cons (same_H rfl) pairs_nil))))), ?_⟩
  try simp -implicitDefEqProofs only [at_set (at_lt b2), rd_aggc, Nat.zero_add, List.length_cons, List.length_nil, Nat.reduceAdd, Nat.le_refl, List.drop_zero, List.take_succ_cons, List.take_zero, if_true, onS_some]
  exact ⟨p, q, rfl, ((e0.trans p2).trans q2).set (by omega) _, by omega, by omega, (List.getElem?_set_ne (by omega)).trans (q2.at p4), (List.getElem?_set_ne (by omega)).trans q4⟩
end Go.Proofs.Ytcjjcpdfnndenaa.Sim

