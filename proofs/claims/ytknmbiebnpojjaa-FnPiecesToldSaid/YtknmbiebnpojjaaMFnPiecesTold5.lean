/- Texts of this proof, put together. -/
import Derived.Test.YtknmbiebnpojjaaMFnPiecesTold4
import Derived.Test.YtknmbiebnpojjaaTy
import Derived.Test.YtknmbiebnpojjaaChecked
import Derived.ChangeSlices
import Derived.ChangeShapes
import Derived.WideShapes
import Derived.ChangeArms
import Derived.ChangeOld
import Derived.ChangeStays
import Derived.Test.YtknmbiebnpojjaaMFnPiecesTold3
namespace Go.Proofs.Ytknmbiebnpojjaa.Sim
open Go
set_option maxRecDepth 100000
set_option maxHeartbeats 40000000
set_option linter.unusedSimpArgs false
set_option linter.unusedVariables false
theorem drawCutParts {H : AHeap} {x : AV} {L : List Int} (hx : IsL H x .u8 L) (hL : L.length ≤ 4000000) : ∃ (i s : Int) (z : ByteArray) (Z : AHeap), z.size ≤ 4100 ∧ Sound Try.prog 44 [x] H (.tup [.sc (.int .i64 i), .sc (.string z), .sc (.int .i64 s)]) Z ∧ Ext H Z := by
  suffices h : ∃ v Z, Sound Try.prog 44 [x] H v Z ∧ ∃ (i s : Int) (z : ByteArray), z.size ≤ 4100 ∧ v = .tup [.sc (.int .i64 i), .sc (.string z), .sc (.int .i64 s)] ∧ Ext H Z by
    obtain ⟨v, Z, h1, i, s, z, h2, rfl, h4⟩ := h
    exact ⟨i, s, z, Z, h2, h1, h4⟩
  refine Sound.runP (args := [x]) 28 [.tmp 2, .tmp 3, .tmp 4] Try.func44 rfl rfl rfl rfl (by simp) (fun v Z => ∃ (i s : Int) (z : ByteArray), z.size ≤ 4100 ∧ v = .tup [.sc (.int .i64 i), .sc (.string z), .sc (.int .i64 s)] ∧ Ext H Z) ?_
  obtain ⟨r, Z0, n1, n2, n3, n4⟩ := drawNew hx hL
  obtain ⟨j, Z1, j1, j2, j3⟩ := drawPickInt (n3.app _) hL (.at (at_end _ ⟨ints .i64 [0, 5, 65535, 65536], true, true⟩) rfl) (by decide) (by decide)
  have c1 := (n3.app _).dr j3
  obtain ⟨k, Z2, k1, k2, k3⟩ := drawPickInt (c1.app _) hL (.at (at_end _ ⟨ints .i64 [1, 7, 30, 1000, 1001, 0], true, true⟩) rfl) (by decide) (by decide)
  have c2 := (c1.app _).dr k3
  obtain ⟨z, Z3, z1, z2, z3⟩ := draw30Text c2 hL
  have c3 := c2.dr z3
  obtain ⟨b, Z4, b1, b2⟩ := drawOnce c3 hL 10 (by omega) (by omega)
  have dd := ((j3.app.trans k3.app).trans z3).trans b2
  simp -implicitDefEqProofs only [↓w_seq, ↓w_region, ↓ops_cons, ↓g_assign, ↓ops_nil, ev_const, of_int, of_str, ↓g_move, Nat.reduceLT, ev_tab, ne_eq, reduceCtorEq, not_false_eq_true, upd_ne, par0]
  refine call1S (by simp -implicitDefEqProofs only [List.map_cons, Nat.reduceLT, ev_tab, upd_eq, List.map_nil] <;> rfl) n1 ?_
  simp -implicitDefEqProofs only [↓ops_cons, ↓g_assign, ↓ops_nil, ↓w_seq, ↓w_region, Nat.reduceLT, ev_tab, upd_eq, ↓g_move, ↓g_buildSlice, Try.underlying26, List.map_cons, ev_const, of_int, List.map_nil, bs3_4, alK_some, ints_one, true_and]
  refine call1S (by simp -implicitDefEqProofs only [List.map_cons, Nat.reduceLT, ev_tab, ne_eq, Nat.reduceEqDiff, not_false_eq_true, upd_ne, upd_eq, List.map_nil, List.length_cons, List.length_nil, Nat.zero_add, Nat.reduceAdd] <;> rfl) j2 ?_
  simp -implicitDefEqProofs only [↓ops_cons, ↓g_assign, ↓ops_nil, ↓w_seq, ↓w_region, Nat.reduceLT, ev_tab, upd_eq, ↓g_move, ↓g_buildSlice, Try.underlying26, ne_eq, Nat.reduceEqDiff, not_false_eq_true, upd_ne, List.map_cons, ev_const, of_int, List.map_nil, bs3_6, alK_some, ints_one, true_and]
  refine call1S (by simp -implicitDefEqProofs only [List.map_cons, Nat.reduceLT, ev_tab, ne_eq, Nat.reduceEqDiff, not_false_eq_true, upd_ne, upd_eq, List.map_nil, List.length_cons, List.length_nil, Nat.zero_add, Nat.reduceAdd] <;> rfl) k2 ?_
  simp -implicitDefEqProofs only [↓ops_cons, ↓g_assign, ↓ops_nil, ↓w_seq, ↓w_region, Nat.reduceLT, ev_tab, upd_eq, ↓g_move, ne_eq, Nat.reduceEqDiff, not_false_eq_true, upd_ne]
  refine call1S (by simp -implicitDefEqProofs only [List.map_cons, Nat.reduceLT, ev_tab, upd_eq, List.map_nil] <;> rfl) z2 ?_
  simp -implicitDefEqProofs only [↓ops_cons, ↓g_assign, ↓ops_nil, ↓w_seq, ↓w_region, Nat.reduceLT, ev_tab, upd_eq, ↓g_move, ne_eq, Nat.reduceEqDiff, not_false_eq_true, upd_ne]
  refine call1S (by simp -implicitDefEqProofs only [List.map_cons, Nat.reduceLT, ev_tab, upd_eq, ev_const, of_int, List.map_nil, Int.cast_ofNat_Int] <;> rfl) b1 ?_
  cases b with
  | false =>
    simp -implicitDefEqProofs only [↓ops_nil, ↓w_cond, Nat.reduceLT, ev_tab, upd_eq, ↓w_region, ↓ops_cons, ↓g_move, ne_eq, Nat.reduceEqDiff, not_false_eq_true, upd_ne, ↓w_skip, ↓w_seq, ↓g_assign, ↓w_ret, retP_3, res_tmp, onS_some, onB_false]
    exact ⟨_, _, z, by omega, rfl, Dr.ext n4 dd n2⟩
  | true =>
    simp -implicitDefEqProofs only [↓ops_nil, ↓w_cond, Nat.reduceLT, ev_tab, upd_eq, ↓w_region, ↓ops_cons, ↓g_move, ne_eq, Nat.reduceEqDiff, not_false_eq_true, upd_ne, ↓w_skip, ↓w_seq, ↓g_assign, ↓w_ret, retP_3, res_tmp, onS_some, onB_true]
    obtain ⟨m, Z5, m1, m2, m3⟩ := drawBelow (c3.dr b2) hL 2 (by omega) (by omega)
    refine call1S (by simp -implicitDefEqProofs only [List.map_cons, Nat.reduceLT, ev_tab, upd_eq, ev_const, of_int, List.map_nil, Int.cast_ofNat_Int] <;> rfl) m2 ?_
    have e1 : IntKind.i64.wrap (4000 + (m : Int)) = ((4000 + m : Nat) : Int) := by rw [w64 (by omega) (by omega)]; omega
    simp -implicitDefEqProofs only [↓ops_cons, ↓g_binOp, ev_const, of_int, Nat.reduceLT, ev_tab, upd_eq, b_add, e1, onS_some]
    refine call1 (by simp -implicitDefEqProofs only [List.map_cons, Nat.reduceLT, ev_tab, upd_eq, ev_const, of_int, List.map_nil] <;> rfl) (longD (4000 + m) 5 (by omega)) ?_
    simp -implicitDefEqProofs only [↓ops_cons, ↓g_assign, ↓ops_nil, ↓w_seq, ↓w_region, Nat.reduceLT, ev_tab, upd_eq, ↓g_move, ↓w_ret, ne_eq, Nat.reduceEqDiff, not_false_eq_true, upd_ne, retP_3, res_tmp, onS_some]
    refine ⟨_, _, _, ?_, rfl, Dr.ext n4 (dd.trans m3) n2⟩
    rw [son_size, repD, List.length_replicate]; omega
theorem drawPartText {H : AHeap} {x : AV} {L : List Int} (hx : IsL H x .u8 L) (hL : L.length ≤ 4000000) : ∃ (p : Prt) (Z : AHeap), p.z.size ≤ 108 ∧ Sound Try.prog 46 [x] H (.agg (pcs p)) Z ∧ Ext H Z := by
  suffices h : ∃ v Z, Sound Try.prog 46 [x] H v Z ∧ ∃ p : Prt, p.z.size ≤ 108 ∧ v = .agg (pcs p) ∧ Ext H Z by
    obtain ⟨v, Z, h1, p, h2, rfl, h4⟩ := h
    exact ⟨p, Z, h2, h1, h4⟩
  refine Sound.runP (args := [x]) 6 [.cell 2 58] Try.func46 rfl rfl rfl rfl (by simp) (fun v Z => ∃ p : Prt, p.z.size ≤ 108 ∧ v = .agg (pcs p) ∧ Ext H Z) ?_
  obtain ⟨B, hB⟩ : ∃ B : Reg, B = ⟨[.sc (.int .i64 0), .sc (.int .i64 0), .sc (.int .i64 0), .sc (.string ByteArray.empty)], true, true⟩ := ⟨_, rfl⟩
  have e0 := Ext.more H [B]
  have b0 : (H ++ [B])[H.length]? = some ⟨[.sc (.int .i64 0), .sc (.int .i64 0), .sc (.int .i64 0), .sc (.string ByteArray.empty)], true, true⟩ := by rw [← hB]; exact hap_0 H [B]
  obtain ⟨r, Z0, n1, n2, n3, n4⟩ := drawNew (e0.isL hx) hL
  obtain ⟨p, Z1, p1, p2, p3⟩ := draw30Part n3 hL
  have e1 : Ext (H ++ [B]) Z1 := Dr.ext n4 p3 n2
  have b1 := e1.at b0
  have hpc : pcs p = [.sc (.int .i64 p.i), .sc (.int .i64 p.t), .sc (.int .i64 p.f), .sc (.string p.z)] := rfl
  simp -implicitDefEqProofs only [↓w_seq, ↓w_region, ↓ops_cons, ↓g_alloc, zero58, Option.map_some, ↓ops_nil, ↓g_move, Nat.reduceLT, ev_tab, ne_eq, reduceCtorEq, not_false_eq_true, upd_ne, par0, alK_some, List.all_cons, one_int, one_str, List.all_nil, Bool.and_self, true_and]
  rw [← hB]
  refine call1S (by simp -implicitDefEqProofs only [List.map_cons, Nat.reduceLT, ev_tab, upd_eq, List.map_nil] <;> rfl) n1 ?_
  simp -implicitDefEqProofs only [↓ops_cons]
  refine call1S (by simp -implicitDefEqProofs only [List.map_cons, Nat.reduceLT, ev_tab, upd_eq, List.map_nil] <;> rfl) p2 ?_
  simp -implicitDefEqProofs only [↓ops_cons, ↓g_store, hpc, Nat.reduceLT, ev_tab, ne_eq, Nat.reduceEqDiff, not_false_eq_true, upd_ne, upd_eq, wr_def, tyOk58, cells58, b1, wr_c, cells_agg, List.length_cons, List.length_nil, Nat.zero_add, Nat.reduceAdd, Nat.le_refl, List.all_cons, one_int, one_str, List.all_nil, Bool.and_self, and_self, ovr_m, ovr_n, if_true, ↓ops_nil, ↓w_ret, retP_1, res_cell, rd_def, agg58, onS_some]
  rw [List.getElem?_set_self (at_lt b1)]
  simp -implicitDefEqProofs only [rd_aggc, Nat.zero_add, List.length_cons, List.length_nil, Nat.reduceAdd, Nat.le_refl, List.drop_zero, List.take_succ_cons, List.take_zero, if_true, onS_some]
  exact ⟨p, p1, rfl, (e0.trans e1).set (Nat.le_refl _) _⟩
theorem drawReadPart {H : AHeap} {x : AV} {L : List Int} (hx : IsL H x .u8 L) (hL : L.length ≤ 4000000) : ∃ (z : ByteArray) (Z : AHeap), z.size ≤ 1021 ∧ Sound Try.prog 48 [x] H (.sc (.string z)) Z ∧ Ext H Z := by
  suffices h : ∃ v Z, Sound Try.prog 48 [x] H v Z ∧ ∃ z : ByteArray, z.size ≤ 1021 ∧ v = .sc (.string z) ∧ Ext H Z by
    obtain ⟨v, Z, h1, z, h2, rfl, h4⟩ := h
    exact ⟨z, Z, h2, h1, h4⟩
  refine Sound.runP (args := [x]) 20 [.tmp 2] Try.func48 rfl rfl rfl rfl (by simp) (fun v Z => ∃ z : ByteArray, z.size ≤ 1021 ∧ v = .sc (.string z) ∧ Ext H Z) ?_
  obtain ⟨r, Z0, n1, n2, n3, n4⟩ := drawNew hx hL
  obtain ⟨p, Z1, p1, p2, p3⟩ := draw30Part n3 hL
  obtain ⟨u, b, u1, u2, u3⟩ := ptBoth p (by omega)
  have c1 := n3.dr p3
  obtain ⟨o, Z2, o1, o2⟩ := drawOnce c1 hL 3 (by omega) (by omega)
  simp -implicitDefEqProofs only [↓w_seq, ↓w_region, ↓ops_cons, ↓g_assign, ↓ops_nil, ev_const, of_str, ↓g_move, Nat.reduceLT, ev_tab, ne_eq, reduceCtorEq, not_false_eq_true, upd_ne, par0]
  refine call1S (by simp -implicitDefEqProofs only [List.map_cons, Nat.reduceLT, ev_tab, upd_eq, List.map_nil] <;> rfl) n1 ?_
  simp -implicitDefEqProofs only [↓ops_cons, ↓g_assign, ↓ops_nil, ↓w_seq, ↓w_region, Nat.reduceLT, ev_tab, upd_eq, ↓g_move]
  refine call1S (by simp -implicitDefEqProofs only [List.map_cons, Nat.reduceLT, ev_tab, upd_eq, List.map_nil] <;> rfl) p2 ?_
  simp -implicitDefEqProofs only [↓ops_cons]
  refine call1 (by simp -implicitDefEqProofs only [List.map_cons, Nat.reduceLT, ev_tab, upd_eq, List.map_nil] <;> rfl) u3 ?_
  simp -implicitDefEqProofs only [↓ops_cons, ↓g_move, ↓g_extract, Nat.reduceLT, ev_tab, upd_eq, ext_0, ne_eq, Nat.reduceEqDiff, not_false_eq_true, upd_ne, ext_1, ↓g_assign, ↓ops_nil, ↓w_seq, ↓w_region, onS_some]
  refine call1S (by simp -implicitDefEqProofs only [List.map_cons, Nat.reduceLT, ev_tab, upd_eq, ev_const, of_int, List.map_nil, Int.cast_ofNat_Int] <;> rfl) o1 ?_
  cases o with
  | false =>
    simp -implicitDefEqProofs only [↓ops_nil, ↓w_cond, Nat.reduceLT, ev_tab, upd_eq, ↓w_seq, ↓w_region, ↓ops_cons, ↓g_move, ne_eq, Nat.reduceEqDiff, not_false_eq_true, upd_ne, ↓w_skip, ↓g_assign, ↓w_ret, retP_1, res_tmp, onS_some, onB_false]
    exact ⟨u, by omega, rfl, Dr.ext n4 (p3.trans o2) n2⟩
  | true =>
    obtain ⟨w, Z3, w1, w2, w3⟩ := drawSpoilt (c1.dr o2) hL u (by omega)
    simp -implicitDefEqProofs only [↓ops_nil, ↓w_cond, Nat.reduceLT, ev_tab, upd_eq, ↓w_seq, ↓w_region, ↓ops_cons, ↓g_move, ne_eq, Nat.reduceEqDiff, not_false_eq_true, upd_ne, ↓w_skip, ↓g_assign, ↓w_ret, retP_1, res_tmp, onS_some, onB_true]
    refine call1S (by simp -implicitDefEqProofs only [List.map_cons, Nat.reduceLT, ev_tab, ne_eq, Nat.reduceEqDiff, not_false_eq_true, upd_ne, upd_eq, List.map_nil] <;> rfl) w2 ?_
    simp -implicitDefEqProofs only [↓ops_cons, ↓g_assign, ↓ops_nil, ↓w_ret, Nat.reduceLT, ev_tab, upd_eq, retP_1, res_tmp, onS_some]
    exact ⟨w, by omega, rfl, Dr.ext n4 ((p3.trans o2).trans w3) n2⟩
theorem drawBoxPut {H : AHeap} {x : AV} {L : List Int} (hx : IsL H x .u8 L) (hL : L.length ≤ 4000000) : ∃ (i t : Int) (T : ByteArray) (l : List Bool) (X : AV) (p : Prt) (Z : AHeap), T.size ≤ 108 ∧ l.length ≤ 109 ∧ p.z.size ≤ 109 ∧ Sound Try.prog 50 [x] H (.tup [bx i t T X, .agg (pcs p)]) Z ∧ Ext H Z ∧ IsB Z X l := by
  suffices h : ∃ v Z, Sound Try.prog 50 [x] H v Z ∧ ∃ (i t : Int) (T : ByteArray) (l : List Bool) (X : AV) (p : Prt), T.size ≤ 108 ∧ l.length ≤ 109 ∧ p.z.size ≤ 109 ∧ v = .tup [bx i t T X, .agg (pcs p)] ∧ Ext H Z ∧ IsB Z X l by
    obtain ⟨v, Z, h1, i, t, T, l, X, p, h2, h3, h4, rfl, h5⟩ := h
    exact ⟨i, t, T, l, X, p, Z, h2, h3, h4, h1, h5⟩
  refine Sound.runP (args := [x]) 9 [.cell 2 54, .cell 3 58] Try.func50 rfl rfl rfl rfl (by simp) (fun v Z => ∃ (i t : Int) (T : ByteArray) (l : List Bool) (X : AV) (p : Prt), T.size ≤ 108 ∧ l.length ≤ 109 ∧ p.z.size ≤ 109 ∧ v = .tup [bx i t T X, .agg (pcs p)] ∧ Ext H Z ∧ IsB Z X l) ?_
  obtain ⟨A, hA⟩ : ∃ B : Reg, B = ⟨[.sc (.int .i64 0), .sc (.int .i64 0), .sc (.string ByteArray.empty), .sc (.slice none 0 0)], true, true⟩ := ⟨_, rfl⟩
  obtain ⟨B, hB⟩ : ∃ B : Reg, B = ⟨[.sc (.int .i64 0), .sc (.int .i64 0), .sc (.int .i64 0), .sc (.string ByteArray.empty)], true, true⟩ := ⟨_, rfl⟩
  have e0 := Ext.more H [A, B]
  have a0 : (H ++ [A, B])[H.length]? = some ⟨[.sc (.int .i64 0), .sc (.int .i64 0), .sc (.string ByteArray.empty), .sc (.slice none 0 0)], true, true⟩ := by rw [← hA]; exact hap_0 H [A, B]
  have b0 : (H ++ [A, B])[H.length + 1]? = some ⟨[.sc (.int .i64 0), .sc (.int .i64 0), .sc (.int .i64 0), .sc (.string ByteArray.empty)], true, true⟩ := by rw [← hB]; exact hap_k H [A, B] 1
  obtain ⟨r, Z0, n1, n2, n3, n4⟩ := drawNew (e0.isL hx) hL
  obtain ⟨i, t, T, l, X, p, Z1, p1, p2, p3, p4, p5, p6⟩ := draw30Box n3 hL
  have e1 : Ext (H ++ [A, B]) Z1 := Dr.ext n4 p5 n2
  have a1 := e1.at a0
  have b1 := e1.at b0
  have x1 := p6.one
  have hpc : pcs p = [.sc (.int .i64 p.i), .sc (.int .i64 p.t), .sc (.int .i64 p.f), .sc (.string p.z)] := rfl
  have hq : IsB ((Z1.set H.length ⟨[.sc (.int .i64 i), .sc (.int .i64 t), .sc (.string T), X], true, true⟩).set (H.length + 1) ⟨[.sc (.int .i64 p.i), .sc (.int .i64 p.t), .sc (.int .i64 p.f), .sc (.string p.z)], true, true⟩) X l := by
    rcases p6 with ⟨rfl, h⟩ | ⟨k, o, rfl, h⟩
    · exact .inl ⟨rfl, h⟩
    · refine .at (own := o) (((List.getElem?_set_ne ?_).trans (List.getElem?_set_ne ?_)).trans h) rfl
      · rintro rfl
        rw [b1] at h
        injection h with h
        injection h with h
        revert h
        cases l <;> simp [bools, lits]
      · rintro rfl
        rw [a1] at h
        injection h with h
        injection h with h
        revert h
        cases l <;> simp [bools, lits]
  have la := at_lt a1
  have lb := at_lt b1
  unfold bx at p4
  simp -implicitDefEqProofs only [↓w_seq, ↓w_region, ↓ops_cons, ↓g_alloc, zero54, Option.map_some, zero58, ↓ops_nil, ↓g_move, Nat.reduceLT, ev_tab, ne_eq, reduceCtorEq, not_false_eq_true, upd_ne, par0, alK_some, List.all_cons, one_int, one_str, List.all_nil, Bool.and_self, true_and, one_nil, List.length_append, List.length_cons, List.length_nil, Nat.zero_add, List.append_assoc, List.cons_append, List.nil_append]
  rw [← hA, ← hB]
  refine call1S (by simp -implicitDefEqProofs only [List.map_cons, Nat.reduceLT, ev_tab, upd_eq, List.map_nil] <;> rfl) n1 ?_
  simp -implicitDefEqProofs only [↓ops_cons]
  refine call1S (by simp -implicitDefEqProofs only [List.map_cons, Nat.reduceLT, ev_tab, upd_eq, List.map_nil] <;> rfl) p4 ?_
  simp -implicitDefEqProofs only [↓ops_cons, ↓g_extract, hpc, Nat.reduceLT, ev_tab, upd_eq, ext_0, ne_eq, Nat.reduceEqDiff, not_false_eq_true, upd_ne, ext_1, ↓g_store, wr_def, tyOk54, cells54, a1, wr_c, Nat.zero_add, List.length_cons, List.length_nil, Nat.reduceAdd, Nat.le_refl, true_and, tyOk58, cells58, ↓ops_nil, ↓w_ret, retP_2, res_cell, rd_def, agg54, agg58, onS_ite, onS_some, cells_agg, List.all_cons, one_int, one_str, x1, List.all_nil, Bool.and_self, and_self, ovr_m, ovr_n]
  rw [List.getElem?_set_ne (by omega), b1]
  simp -implicitDefEqProofs only [wr_c, cells_agg, List.length_cons, List.length_nil, Nat.zero_add, Nat.reduceAdd, Nat.le_refl, List.all_cons, one_int, one_str, List.all_nil, Bool.and_self, and_self, ovr_m, ovr_n, if_true, onS_some]
  rw [List.getElem?_set_ne (by omega), List.getElem?_set_self la, List.getElem?_set_self (by rw [List.length_set]; exact lb)]
  simp -implicitDefEqProofs only [rd_aggc, Nat.zero_add, List.length_cons, List.length_nil, Nat.reduceAdd, Nat.le_refl, List.drop_zero, List.take_succ_cons, List.take_zero, if_true, onS_some]
  exact ⟨i, t, T, l, X, p, p1, p2, p3, rfl, ((e0.trans e1).set (Nat.le_refl _) _).set (by omega) _, hq⟩
theorem DrB {H Z : AHeap} {r : Nat} {x y : AV} {L : List Int} {l : List Bool} (d : Dr r x H Z) (c : Cur H r x L) (h : IsB H y l) : IsB Z y l := by
  rcases h with ⟨rfl, h⟩ | ⟨k, o, rfl, h⟩
  · exact .inl ⟨rfl, h⟩
  · refine .at (own := o) ((d.2.1 k (at_lt h) ?_).trans h) rfl
    rintro rfl
    obtain ⟨⟨i, n, hc⟩, _⟩ := c
    rw [hc] at h
    injection h with h
    unfold cur at h
    injection h with h
    match l, h with
    | [], h => simp [bools, lits] at h
    | [_], h => simp [bools, lits] at h
    | a :: b :: l, h => simp [bools, lits] at h
theorem bdPt (a b : Int) (z : ByteArray) : buildV Try.prog 58 [(0, .sc (.int .i64 a)), (1, .sc (.int .i64 b)), (3, .sc (.string z))] = some (.agg (pcs ⟨a, b, 0, z⟩)) := by
  simp [buildV, fillA, placeS, overA, cells_int, cells_str, pcs, Try.underlying0, Try.underlying1, Try.underlying2, Try.underlying3, Try.underlying4, Try.underlying5, Try.underlying6, Try.underlying7, Try.underlying8, Try.underlying9, Try.underlying10, Try.underlying11, Try.underlying12, Try.underlying13, Try.underlying14, Try.underlying15, Try.underlying16, Try.underlying17, Try.underlying18, Try.underlying19, Try.underlying20, Try.underlying21, Try.underlying22, Try.underlying23, Try.underlying24, Try.underlying25, Try.underlying26, Try.underlying27, Try.underlying28, Try.underlying29, Try.underlying30, Try.underlying31, Try.underlying32, Try.underlying33, Try.underlying34, Try.underlying35, Try.underlying36, Try.underlying37, Try.underlying38, Try.underlying39, Try.underlying40, Try.underlying41, Try.underlying42, Try.underlying43, Try.underlying44, Try.underlying45, Try.underlying46, Try.underlying47, Try.underlying48, Try.underlying49, Try.underlying50, Try.underlying51, Try.underlying52, Try.underlying53, Try.underlying54, Try.underlying55, Try.underlying56, Try.underlying57, Try.underlying58, Try.underlying59, Try.underlying60, Try.underlying61, Try.underlying62, Try.underlying63, Try.underlying64, Try.underlying65, Try.underlying66, Try.underlying67, Try.underlying68, Try.underlying69, Try.underlying70, Try.underlying71, Try.underlying72, Try.underlying73, Try.underlying74, Try.underlying75, Try.underlying76, Try.underlying77, Try.underlying78, Try.underlying79, Try.underlying80, Try.underlying81, Try.underlying82, Try.underlying83, Try.underlying84, Try.underlying85, Try.underlying86, Try.underlying87, Try.underlying88, Try.underlying89, Try.underlying90, Try.underlying91, Try.underlying92, Try.underlying93, Try.underlying94, Try.underlying95, Try.underlying96, Try.underlying97, Try.underlying98, Try.underlying99, Try.underlying100, Try.underlying101, Try.underlying102, Try.underlying103, Try.underlying104, Try.underlying105, Try.underlying106, Try.underlying107, Try.underlying108, Try.underlying109, Try.underlying110, Try.underlying111, Try.underlying112, Try.underlying113, Try.underlying114, Try.underlying115, Try.underlying116, Try.underlying117, Try.underlying118, Try.underlying119, Try.underlying120, Try.underlying121, Try.underlying122, Try.underlying123, Try.underlying124, Try.underlying125, Try.underlying126, Try.underlying127, Try.underlying128, Try.underlying129, Try.underlying130, Try.underlying131, Try.underlying132, Try.underlying133, Try.underlying134, Try.underlying135, Try.underlying136, Try.underlying137, Try.underlying138, Try.underlying139, Try.underlying140, Try.underlying141, Try.underlying142, Try.underlying143, Try.underlying144, Try.underlying145, Try.underlying146, Try.underlying147, tyOk0, agg0, cells0, tyOk1, agg1, cells1, tyOk2, agg2, cells2, zero2, info2, mk2, bs2_0, bs2_1, bs2_2, bs2_3, bs2_4, bs2_5, bs2_6, bs2_7, bs2_8, bs2_10, bs2_11, bs2_12, bs2_13, tyOk3, agg3, cells3, zero3, apS26, apN26, info3, mk3, bs3_0, bs3_1, bs3_2, bs3_3, bs3_4, bs3_5, bs3_6, bs3_7, bs3_8, bs3_10, bs3_11, bs3_12, bs3_13, tyOk4, agg4, cells4, zero4, info4, mk4, bs4_0, bs4_1, bs4_2, apS52, apN52, tyOk5, agg5, cells5, isU5, zero5, apS22, apN22, apStr22, info5, mk5, bs5_0, bs5_1, bs5_2, bs5_3, bs5_4, bs5_5, bs5_6, bs5_7, bs5_8, bs5_10, bs5_11, bs5_12, bs5_13, tyOk6, agg6, cells6, isU6, zero6, info6, mk6, bs6_0, bs6_1, bs6_2, bs6_3, bs6_4, bs6_5, bs6_6, bs6_7, bs6_8, bs6_10, bs6_11, bs6_12, bs6_13, tyOk7, agg7, cells7, zero7, fadr7_0, fld7_0, fadr7_1, fld7_1, fadr7_2, fld7_2, fadr7_3, fld7_3, bz7, bds7, tyOk8, agg8, cells8, zero8, fadr8_0, fld8_0, fadr8_1, fld8_1, fadr8_2, fld8_2, fadr8_3, fld8_3, bz8, bds8, tyOk9, agg9, cells9, zero9, info9, bs9_0, bs9_1, bs9_2, bs9_3, bs9_4, bs9_5, bs9_6, bs9_8, bs9_9, bs9_10, apS125, apN125, tyOk10, agg10, cells10, zero10, info10, bs10_0, bs10_1, bs10_2, bs10_3, bs10_4, bs10_5, bs10_6, bs10_8, bs10_9, bs10_10, tyOk11, agg11, cells11, zero11, info11, bs11_0, bs11_1, bs11_2, bs11_3, bs11_4, bs11_5, bs11_6, bs11_8, bs11_9, bs11_10, tyOk12, agg12, cells12, zero12, info12, mk12, bs12_0, bs12_1, bs12_2, bs12_3, bs12_4, bs12_5, bs12_6, bs12_7, bs12_8, bs12_10, bs12_11, bs12_12, bs12_13, tyOk13, agg13, cells13, zero13, fadr13_0, fld13_0, fadr13_1, fld13_1, bz13, bds13, tyOk14, agg14, cells14, zero14, fadr14_0, fld14_0, fadr14_1, fld14_1, bz14, bds14, tyOk15, agg15, cells15, zero15, tyOk16, agg16, cells16, zero16, tyOk17, agg17, cells17, zero17, tyOk18, agg18, cells18, zero18, fadr18_0, fld18_0, bz18, bds18, tyOk19, agg19, cells19, zero19, fadr19_0, fld19_0, bz19, bds19, tyOk20, agg20, cells20, tyOk21, agg21, cells21, zero21, info21, mk21, bs21_0, bs21_1, bs21_2, bs21_3, bs21_4, bs21_5, bs21_6, bs21_7, bs21_8, bs21_10, bs21_11, bs21_12, bs21_13, tyOk22, agg22, cells22, zero22, tyOk23, agg23, cells23, tyOk24, agg24, cells24, tyOk25, agg25, cells25, tyOk26, agg26, cells26, zero26, tyOk27, agg27, cells27, tyOk28, agg28, cells28, tyOk29, agg29, cells29, zero29, info29, mk29, bs29_0, bs29_1, bs29_2, bs29_3, bs29_4, bs29_5, bs29_6, bs29_7, bs29_8, bs29_10, bs29_11, bs29_12, bs29_13, tyOk30, agg30, cells30, tyOk31, agg31, cells31, tyOk32, agg32, cells32, tyOk33, agg33, cells33, tyOk34, agg34, cells34, tyOk35, agg35, cells35, tyOk36, agg36, cells36, tyOk37, agg37, cells37, tyOk38, agg38, cells38, tyOk39, agg39, cells39, tyOk40, agg40, cells40, tyOk41, agg41, cells41, tyOk42, agg42, cells42, tyOk43, agg43, cells43, tyOk44, agg44, cells44, tyOk45, agg45, cells45, tyOk46, agg46, cells46, tyOk47, agg47, cells47, tyOk48, agg48, cells48, tyOk49, agg49, cells49, zero49, tyOk50, agg50, cells50, tyOk51, agg51, cells51, tyOk52, agg52, cells52, zero52, tyOk53, agg53, cells53, zero53, fadr53_0, fld53_0, fadr53_1, fld53_1, fadr53_2, fld53_2, fadr53_3, fld53_3, bz53, bds53, tyOk54, agg54, cells54, zero54, fadr54_0, fld54_0, fadr54_1, fld54_1, fadr54_2, fld54_2, fadr54_3, fld54_3, bz54, bds54, tyOk55, agg55, cells55, tyOk56, agg56, cells56, tyOk57, agg57, cells57, zero57, fadr57_0, fld57_0, fadr57_1, fld57_1, fadr57_2, fld57_2, fadr57_3, fld57_3, bz57, bds57, tyOk58, agg58, cells58, zero58, info58, apS49, apN49, bs58_1, bs58_0, fadr58_0, fld58_0, fadr58_1, fld58_1, fadr58_2, fld58_2, fadr58_3, fld58_3, bz58, bds58, tyOk59, agg59, cells59, tyOk60, agg60, cells60, tyOk61, agg61, cells61, tyOk62, agg62, cells62, tyOk63, agg63, cells63, tyOk64, agg64, cells64, tyOk65, agg65, cells65, tyOk66, agg66, cells66, tyOk67, agg67, cells67, tyOk68, agg68, cells68, tyOk69, agg69, cells69, tyOk70, agg70, cells70, tyOk71, agg71, cells71, tyOk72, agg72, cells72, tyOk73, agg73, cells73, tyOk74, agg74, cells74, zero74, tyOk75, agg75, cells75, tyOk76, agg76, cells76, tyOk77, agg77, cells77, tyOk78, agg78, cells78, zero78, ix78, bz78, tyOk79, agg79, cells79, tyOk80, agg80, cells80, tyOk81, agg81, cells81, tyOk82, agg82, cells82, tyOk83, agg83, cells83, tyOk84, agg84, cells84, tyOk85, agg85, cells85, zero85, info85, mk85, bs85_0, bs85_1, bs85_2, bs85_3, bs85_4, bs85_5, bs85_6, bs85_7, bs85_8, bs85_10, bs85_11, bs85_12, bs85_13, tyOk86, agg86, cells86, zero86, ix86, bz86, bd86, tyOk87, agg87, cells87, tyOk88, agg88, cells88, zero88, ix88, bz88, tyOk89, agg89, cells89, tyOk90, agg90, cells90, tyOk91, agg91, cells91, tyOk92, agg92, cells92, tyOk93, agg93, cells93, tyOk94, agg94, cells94, tyOk95, agg95, cells95, tyOk96, agg96, cells96, tyOk97, agg97, cells97, tyOk98, agg98, cells98, tyOk99, agg99, cells99, tyOk100, agg100, cells100, tyOk101, agg101, cells101, tyOk102, agg102, cells102, tyOk103, agg103, cells103, tyOk104, agg104, cells104, tyOk105, agg105, cells105, tyOk106, agg106, cells106, tyOk107, agg107, cells107, tyOk108, agg108, cells108, tyOk109, agg109, cells109, zero109, fadr109_0, fld109_0, fadr109_1, fld109_1, fadr109_2, fld109_2, bz109, bds109, tyOk110, agg110, cells110, zero110, fadr110_0, fld110_0, fadr110_1, fld110_1, fadr110_2, fld110_2, bz110, bds110, tyOk111, agg111, cells111, tyOk112, agg112, cells112, tyOk113, agg113, cells113, zero113, tyOk114, agg114, cells114, zero114, fadr114_0, fld114_0, fadr114_1, fld114_1, bz114, bds114, tyOk115, agg115, cells115, zero115, fadr115_0, fld115_0, fadr115_1, fld115_1, bz115, bds115, tyOk116, agg116, cells116, tyOk117, agg117, cells117, tyOk118, agg118, cells118, tyOk119, agg119, cells119, tyOk120, agg120, cells120, tyOk121, agg121, cells121, tyOk122, agg122, cells122, tyOk123, agg123, cells123, tyOk124, agg124, cells124, tyOk125, agg125, cells125, zero125, tyOk126, agg126, cells126, tyOk127, agg127, cells127, tyOk128, agg128, cells128, tyOk129, agg129, cells129, zero129, info129, mk129, bs129_0, bs129_1, bs129_2, bs129_3, bs129_4, bs129_5, bs129_6, bs129_7, bs129_8, bs129_10, bs129_11, bs129_12, bs129_13, tyOk130, agg130, cells130, tyOk131, agg131, cells131, tyOk132, agg132, cells132, zero132, tyOk133, agg133, cells133, zero133, tyOk134, agg134, cells134, tyOk135, agg135, cells135, tyOk136, agg136, cells136, zero136, fadr136_0, fld136_0, fadr136_1, fld136_1, fadr136_2, fld136_2, fadr136_3, fld136_3, bz136, bds136, tyOk137, agg137, cells137, zero137, fadr137_0, fld137_0, fadr137_1, fld137_1, fadr137_2, fld137_2, fadr137_3, fld137_3, bz137, bds137, tyOk138, agg138, cells138, zero138, tyOk139, agg139, cells139, zero139, tyOk140, agg140, cells140, zero140, tyOk141, agg141, cells141, isU141, zero141, info141, mk141, bs141_0, bs141_1, bs141_2, bs141_3, bs141_4, bs141_5, bs141_6, bs141_7, bs141_8, bs141_10, bs141_11, bs141_12, bs141_13, tyOk142, agg142, cells142, isU142, zero142, info142, mk142, bs142_0, bs142_1, bs142_2, bs142_3, bs142_4, bs142_5, bs142_6, bs142_7, bs142_8, bs142_10, bs142_11, bs142_12, bs142_13, tyOk143, agg143, cells143, tyOk144, agg144, cells144, zero144, info144, mk144, bs144_0, bs144_1, bs144_2, bs144_3, bs144_4, bs144_5, bs144_6, bs144_7, bs144_8, bs144_10, bs144_11, bs144_12, bs144_13, tyOk145, agg145, cells145, zero145, info145, mk145, bs145_0, bs145_1, bs145_2, bs145_3, bs145_4, bs145_5, bs145_6, bs145_7, bs145_8, bs145_10, bs145_11, bs145_12, bs145_13, tyOk146, agg146, cells146, fadr146_0, fld146_0, fadr146_1, fld146_1, fadr146_2, fld146_2, fadr146_3, fld146_3, fadr146_4, fld146_4, fadr146_5, fld146_5, fadr146_6, fld146_6, fadr146_7, fld146_7, fadr146_8, fld146_8, fadr146_9, fld146_9, fadr146_10, fld146_10, tyOk147, agg147, cells147, fadr147_0, fld147_0, fadr147_1, fld147_1, fadr147_2, fld147_2, fadr147_3, fld147_3, fadr147_4, fld147_4, fadr147_5, fld147_5, fadr147_6, fld147_6, fadr147_7, fld147_7, fadr147_8, fld147_8, fadr147_9, fld147_9, fadr147_10, fld147_10]
theorem drawBoxWhole {H : AHeap} {x : AV} {L : List Int} (hx : IsL H x .u8 L) (hL : L.length ≤ 4000000) : ∃ (i t : Int) (T : ByteArray) (l : List Bool) (X : AV) (Z : AHeap), l.length ≤ 1000000 ∧ Sound Try.prog 53 [x] H (bx i t T X) Z ∧ Ext H Z ∧ IsB Z X l := by
  suffices h : ∃ v Z, Sound Try.prog 53 [x] H v Z ∧ ∃ (i t : Int) (T : ByteArray) (l : List Bool) (X : AV), l.length ≤ 1000000 ∧ v = .agg [.sc (.int .i64 i), .sc (.int .i64 t), .sc (.string T), X] ∧ Ext H Z ∧ IsB Z X l by
    obtain ⟨v, Z, h1, i, t, T, l, X, h3, rfl, h5⟩ := h
    exact ⟨i, t, T, l, X, Z, h3, h1, h5⟩
  refine Sound.runP (args := [x]) 38 [.cell 2 54] Try.func53 rfl rfl rfl rfl (by simp) (fun v Z => ∃ (i t : Int) (T : ByteArray) (l : List Bool) (X : AV), l.length ≤ 1000000 ∧ v = .agg [.sc (.int .i64 i), .sc (.int .i64 t), .sc (.string T), X] ∧ Ext H Z ∧ IsB Z X l) ?_
  obtain ⟨A, hA⟩ : ∃ B : Reg, B = ⟨[.sc (.int .i64 0), .sc (.int .i64 0), .sc (.string ByteArray.empty), .sc (.slice none 0 0)], true, true⟩ := ⟨_, rfl⟩
  have e0 := Ext.more H [A]
  have a0 : (H ++ [A])[H.length]? = some ⟨[.sc (.int .i64 0), .sc (.int .i64 0), .sc (.string ByteArray.empty), .sc (.slice none 0 0)], true, true⟩ := by rw [← hA]; exact hap_0 H [A]
  obtain ⟨r, Z0, n1, n2, n3, n4⟩ := drawNew (e0.isL hx) hL
  obtain ⟨i, t, T, l, X, p, Z1, p1, p2, p3, p4, p5, p6⟩ := draw30Box n3 hL
  have x1 := p6.one
  have hpc : pcs p = [.sc (.int .i64 p.i), .sc (.int .i64 p.t), .sc (.int .i64 p.f), .sc (.string p.z)] := rfl
  obtain ⟨B, hB⟩ : ∃ C : Reg, C = ⟨[.sc (.int .i64 i), .sc (.int .i64 t), .sc (.string T), X], true, true⟩ := ⟨_, rfl⟩
  obtain ⟨C, hC⟩ : ∃ C : Reg, C = ⟨[.sc (.int .i64 p.i), .sc (.int .i64 p.t), .sc (.int .i64 p.f), .sc (.string p.z)], true, true⟩ := ⟨_, rfl⟩
  have xB := Ext.more Z1 [B, C]
  have b2 : (Z1 ++ [B, C])[Z1.length]? = some ⟨[.sc (.int .i64 i), .sc (.int .i64 t), .sc (.string T), X], true, true⟩ := by rw [← hB]; exact hap_0 Z1 _
  have c2 : (Z1 ++ [B, C])[Z1.length + 1]? = some ⟨[.sc (.int .i64 p.i), .sc (.int .i64 p.t), .sc (.int .i64 p.f), .sc (.string p.z)], true, true⟩ := by rw [← hC]; exact hap_k Z1 _ 1
  have cur := (n3.dr p5).app [B, C]
  obtain ⟨o, Z2, o1, o2⟩ := drawOnce cur hL 3 (by omega) (by omega)
  have rl := n3.lt
  have hrA : H.length + 1 ≤ r := by rw [List.length_append] at n2; exact n2
  have d2 : Dr r x Z0 Z2 := (p5.more rl [B, C]).trans o2
  have e2 : Ext (H ++ [A]) Z2 := Dr.ext n4 d2 n2
  have lp := p5.1
  have lB : (Z1 ++ [B, C]).length = Z1.length + 2 := by rw [List.length_append]; rfl
  have b3 := (o2.2.1 Z1.length (by omega) (by omega)).trans b2
  have c3 := (o2.2.1 (Z1.length + 1) (by omega) (by omega)).trans c2
  have h3 := DrB o2 cur (xB.isB p6)
  have a3 := e2.at a0
  have la := at_lt a3
  have lo := o2.1
  unfold bx at p4
  simp -implicitDefEqProofs only [↓w_seq, ↓w_region, ↓ops_cons, ↓g_alloc, zero54, Option.map_some, ↓ops_nil, ↓g_move, Nat.reduceLT, ev_tab, ne_eq, reduceCtorEq, not_false_eq_true, upd_ne, par0, alK_some, List.all_cons, one_int, one_str, one_nil, List.all_nil, Bool.and_self, true_and]
  rw [← hA]
  refine call1S (by simp -implicitDefEqProofs only [List.map_cons, Nat.reduceLT, ev_tab, upd_eq, List.map_nil] <;> rfl) n1 ?_
  simp -implicitDefEqProofs only [↓ops_cons, ↓g_assign, ↓ops_nil, ↓w_seq, ↓w_region, Nat.reduceLT, ev_tab, upd_eq, ↓g_move]
  refine call1S (by simp -implicitDefEqProofs only [List.map_cons, Nat.reduceLT, ev_tab, upd_eq, List.map_nil] <;> rfl) p4 ?_
  simp -implicitDefEqProofs only [↓ops_cons, ↓g_move, ↓g_extract, hpc, Nat.reduceLT, ev_tab, upd_eq, ext_0, ne_eq, Nat.reduceEqDiff, not_false_eq_true, upd_ne, ext_1, ↓g_alloc, zero54, Option.map_some, zero58, ↓g_store, ↓ops_nil, ↓w_seq, ↓w_region, alK_some, List.all_cons, one_int, one_str, List.all_nil, Bool.and_self, wr_def, tyOk58, cells58, true_and, one_nil, List.append_assoc, List.cons_append, List.nil_append, tyOk54, cells54, hap_0, List.getElem?_cons_zero, wr_c, Nat.zero_add, List.length_cons, List.length_nil, Nat.reduceAdd, Nat.le_refl, hset_0, List.set_cons_zero, List.length_append, onS_ite, hap_k, List.getElem?_cons_succ, hset_k, List.set_cons_succ, onS_some, cells_agg, and_self, ovr_m, ovr_n, x1]
  rw [← hB, ← hC]
  refine call1S (by simp -implicitDefEqProofs only [List.map_cons, Nat.reduceLT, ev_tab, upd_eq, ev_const, of_int, List.map_nil, Int.cast_ofNat_Int] <;> rfl) o1 ?_
  cases o with
  | false =>
    obtain ⟨u, l', n, u1, u2, _, u4⟩ := bpS h3 (by omega) i t T (by omega) p (by omega)
    obtain ⟨Y, Z3, v1, v2, v3⟩ := u4 Z2 (Ext.refl _)
    have y1 := v3.one
    have a4 := v2.at a3
    have lv := v2.1
    rw [hpc] at v1
    unfold bx at v1
    simp -implicitDefEqProofs only [↓ops_nil, ↓w_cond, Nat.reduceLT, ev_tab, upd_eq, ↓w_seq, ↓w_region, ↓ops_cons, ↓g_move, ne_eq, Nat.reduceEqDiff, not_false_eq_true, upd_ne, ↓w_skip, ↓g_load, rd_def, tyOk54, agg54, cells54, b3, rd_aggc, Nat.zero_add, List.length_cons, List.length_nil, Nat.reduceAdd, Nat.le_refl, List.drop_zero, List.take_succ_cons, List.take_zero, if_true, tyOk58, agg58, cells58, c3, onS_some, onB_false]
    refine call1S (by simp -implicitDefEqProofs only [List.map_cons, Nat.reduceLT, ev_tab, ne_eq, Nat.reduceEqDiff, not_false_eq_true, upd_ne, upd_eq, List.map_nil] <;> rfl) v1 ?_
    simp -implicitDefEqProofs only [↓ops_cons, ↓g_move, ↓g_extract, Nat.reduceLT, ev_tab, upd_eq, ext_0, ne_eq, Nat.reduceEqDiff, not_false_eq_true, upd_ne, ext_1, ↓g_alloc, zero54, Option.map_some, ↓g_store, ↓g_assign, ↓ops_nil, ↓w_seq, ↓w_region, ↓g_load, wr_def, tyOk54, cells54, ↓w_ret, retP_1, res_cell, rd_def, agg54, alK_some, List.all_cons, one_int, one_str, one_nil, List.all_nil, Bool.and_self, hap_0, List.getElem?_cons_zero, wr_c, Nat.zero_add, List.length_cons, List.length_nil, Nat.reduceAdd, Nat.le_refl, true_and, hset_0, List.set_cons_zero, onS_ite, onS_some, cells_agg, y1, and_self, ovr_m, ovr_n, rd_aggc, List.drop_zero, List.take_succ_cons, List.take_zero, if_true]
    rw [(at_more _ _ _ (by omega) : _ = Z3[H.length]?), a4]
    simp -implicitDefEqProofs only [wr_c, cells_agg, List.length_cons, List.length_nil, Nat.zero_add, Nat.reduceAdd, Nat.le_refl, List.all_cons, one_int, one_str, y1, List.all_nil, Bool.and_self, and_self, ovr_m, ovr_n, if_true, onS_some]
    rw [List.getElem?_set_self (by rw [List.length_append]; omega)]
    simp -implicitDefEqProofs only [rd_aggc, Nat.zero_add, List.length_cons, List.length_nil, Nat.reduceAdd, Nat.le_refl, List.drop_zero, List.take_succ_cons, List.take_zero, if_true, onS_some]
    refine ⟨i, t, u, l', Y, by omega, rfl, (((e0.trans e2).trans v2).add _).set (Nat.le_refl _) _, ?_⟩
    rcases v3 with ⟨rfl, h⟩ | ⟨k, ow, rfl, h⟩
    · exact .inl ⟨rfl, h⟩
    · refine .at (own := ow) ((List.getElem?_set_ne ?_).trans ((at_more _ _ _ (at_lt h)).trans h)) rfl
      rintro rfl
      rw [a4] at h
      injection h with h
      injection h with h
      revert h
      cases l' <;> simp [bools, lits]
  | true =>
    obtain ⟨z, Z3, z1, z2, z3⟩ := draw30Text (cur.dr o2) hL
    obtain ⟨i', t', u, l', b, _, _, _, _, u1, _, u3, _⟩ := boBoth ⟨1, z.size, 0, z⟩ (by show z.size ≤ _; omega) Z3
    obtain ⟨Y, Z4, v1, v2, v3⟩ := u3 Z3
    have y1 := v3.one
    have a4 := v2.at ((z3.2.1 H.length (by omega) (by omega)).trans a3)
    have lv := v2.1
    have lz := z3.1
    have e4 : Ext (H ++ [A]) Z4 := (Dr.ext n4 (d2.trans z3) n2).trans v2
    unfold bx at v1
    simp -implicitDefEqProofs only [↓ops_nil, ↓w_cond, Nat.reduceLT, ev_tab, upd_eq, ↓w_seq, ↓w_region, ↓ops_cons, ↓g_move, ne_eq, Nat.reduceEqDiff, not_false_eq_true, upd_ne, ↓w_skip, ↓g_load, rd_def, tyOk54, agg54, cells54, tyOk58, agg58, cells58, onB_true]
    refine call1S (by simp -implicitDefEqProofs only [List.map_cons, Nat.reduceLT, ev_tab, upd_eq, List.map_nil] <;> rfl) z2 ?_
    simp -implicitDefEqProofs only [↓ops_cons, ↓g_assign, ↓ops_nil, ↓w_seq, ↓w_region, Nat.reduceLT, ev_tab, upd_eq, ↓g_move, ↓g_len, Try.underlying9, len_str, ↓g_buildV, ne_eq, Nat.reduceEqDiff, not_false_eq_true, upd_ne, List.map_cons, ev_const, of_int, List.map_nil, onS_some, bdPt]
    refine call1S (by simp -implicitDefEqProofs only [List.map_cons, Nat.reduceLT, ev_tab, upd_eq, List.map_nil] <;> rfl) v1 ?_
    simp -implicitDefEqProofs only [↓ops_cons, ↓g_move, ↓g_extract, Nat.reduceLT, ev_tab, upd_eq, ext_0, ne_eq, Nat.reduceEqDiff, not_false_eq_true, upd_ne, ext_1, ↓g_alloc, zero54, Option.map_some, ↓g_store, ↓g_assign, ↓ops_nil, ↓w_seq, ↓w_region, ↓g_load, wr_def, tyOk54, cells54, ↓w_ret, retP_1, res_cell, rd_def, agg54, alK_some, List.all_cons, one_int, one_str, one_nil, List.all_nil, Bool.and_self, hap_0, List.getElem?_cons_zero, wr_c, Nat.zero_add, List.length_cons, List.length_nil, Nat.reduceAdd, Nat.le_refl, true_and, hset_0, List.set_cons_zero, onS_ite, onS_some, cells_agg, y1, and_self, ovr_m, ovr_n, rd_aggc, List.drop_zero, List.take_succ_cons, List.take_zero, if_true]
    rw [(at_more _ _ _ (by omega) : _ = Z4[H.length]?), a4]
    simp -implicitDefEqProofs only [wr_c, cells_agg, List.length_cons, List.length_nil, Nat.zero_add, Nat.reduceAdd, Nat.le_refl, List.all_cons, one_int, one_str, y1, List.all_nil, Bool.and_self, and_self, ovr_m, ovr_n, if_true, onS_some]
    rw [List.getElem?_set_self (by rw [List.length_append]; omega)]
    simp -implicitDefEqProofs only [rd_aggc, Nat.zero_add, List.length_cons, List.length_nil, Nat.reduceAdd, Nat.le_refl, List.drop_zero, List.take_succ_cons, List.take_zero, if_true, onS_some]
    refine ⟨i', t', u, l', Y, u1, rfl, ((e0.trans e4).add _).set (Nat.le_refl _) _, ?_⟩
    rcases v3 with ⟨rfl, h⟩ | ⟨k, ow, rfl, h⟩
    · exact .inl ⟨rfl, h⟩
    · refine .at (own := ow) ((List.getElem?_set_ne ?_).trans ((at_more _ _ _ (at_lt h)).trans h)) rfl
      rintro rfl
      rw [a4] at h
      injection h with h
      injection h with h
      revert h
      cases l' <;> simp [bools, lits]
end Go.Proofs.Ytknmbiebnpojjaa.Sim
namespace Go.Proofs.Ytknmbiebnpojjaa.Sim
open Go
set_option linter.unusedSimpArgs false
set_option linter.unusedVariables false
theorem entry {P : Program} {f : FuncId} {v : Value} {ags : List AV} {H0 H' : AHeap} (hs : Sound P f ags H0 (.sc v) H') (w : World) (cargs : Array Value) (ρ0 : Ren)
    (hreg : ∀ r g l, H0[r]? = some g → ρ0 r = some l → RegOk ρ0 w.heap.size w l g ∧ g.own = false) (hdom : ∀ r l, ρ0 r = some l → ∃ g, H0[r]? = some g)
    (hA : LR ρ0 ags cargs.toList) (hg : Gl w.heap.size w := by exact Gl.none rfl) : Calls P f cargs w fun e w' => e = .returned v ∧ RowKit.Below w.heap.size w w' := by
  obtain ⟨_, hlen, h3⟩ := hs
  have hR : Rel H'.length ρ0 w.heap.size (hf H0) w := by
    refine ⟨⟨Nat.le_refl _, hg⟩, ?_, ?_, ?_, ?_, ?_⟩
    · intro r l h
      obtain ⟨g, hg⟩ := hdom r l h
      obtain ⟨⟨c, e, fz, hb, _⟩, _⟩ := hreg r g l hg h
      exact (Array.getElem?_eq_some_iff.1 hb).1
    · intro r l h
      obtain ⟨g, hg⟩ := hdom r l h
      exact .inl ⟨g, hg⟩
    · intro r g h
      exact Nat.lt_of_lt_of_le (List.getElem?_eq_some_iff.1 h).1 hlen
    · intro r g l hg _ h
      exact (hreg r g l hg h).1
    · intro r1 r2 g1 g2 l1 l2 a1 _ _ _ c1 _ k1 _ _
      have := (hreg r1 g1 l1 a1 k1).2
      rw [this] at c1
      cases c1
  refine (h3 H'.length ρ0 w.heap.size w cargs (Nat.le_refl _) hR hA).mono ?_
  rintro e w' ⟨cv, ρ', rfl, hvr, hR', hG⟩
  refine ⟨by rw [hvr.sc_inv], hG.os, hG.tape, hG.output, hG.size, fun k hk => hG.frame k hk fun r g l hg _ ho hρ => ?_⟩
  have := (hreg r g l hg hρ).2
  rw [this] at ho
  cases ho
theorem add_spot {a : Addr} (h : a.spot = none) (i : Nat) : a.add i = ⟨a.block, a.off + i, none⟩ := by
  unfold Addr.add
  split
  · rename_i h0
    subst h0
    cases a
    simp_all
  · rfl
theorem param_ints {w : World} {a : Addr} {len cap : Nat} {zs : List Int} {k : IntKind} (hsp : a.spot = none) (hsh : ∃ row cells, w.shape? a.block = some (row, cells)) (hl : len ≤ cap) (hz : zs.length = cap)
    (hcell : ∀ i, i < zs.length → w.cell? (a.add i) = some (.int k (zs.getD i 0))) : ∃ (l : Loc) (off : Nat), (∀ ρ : Ren, RegOk ρ w.heap.size w l ⟨ints k (zs.take len), false, true⟩) ∧ ∀ (ρ : Ren) (r : Nat), ρ r = some l → VR ρ (.sl r 0 (zs.take len).length 1) (.slice (some a) len cap) := by
  obtain ⟨row, cells, hsh⟩ := hsh
  unfold World.shape? at hsh
  split at hsh
  case h_2 => cases hsh
  rename_i c elem fz hb
  have hbl : a.block < w.heap.size := (Array.getElem?_eq_some_iff.1 hb).1
  have hlen : (zs.take len).length = len := by rw [List.length_take]; omega
  rw [hlen]
  have ea : a = ⟨a.block, a.off, none⟩ := by cases a; simp_all
  rcases Nat.eq_zero_or_pos cap with h0 | h0
  · have hl0 : len = 0 := by omega
    subst hl0
    subst h0
    refine ⟨⟨a.block, 0, c.size⟩, 0, fun ρ => ⟨c, elem, fz, hb, rfl, by simp [ints], ?_, ⟨fun h => (by cases h), fun _ => hbl⟩⟩, fun ρ r h => ?_⟩
    · simp only [List.take_zero, ints, List.map_nil, List.length_nil]
      exact LR.nil
    · rw [ea]
      exact .sl0 h
  · have hc : ∀ i, i < cap → c[a.off + i]? = some (.int k (zs.getD i 0)) := by
      intro i hi
      have := hcell i (by omega)
      rw [add_spot hsp] at this
      rw [← this]
      simp [World.cell?, hb]
    have hfit : a.off + cap ≤ c.size := by
      have := (Array.getElem?_eq_some_iff.1 (hc (cap - 1) (by omega))).1
      omega
    refine ⟨⟨a.block, a.off, c.size⟩, 0, fun ρ => ⟨c, elem, fz, hb, rfl, by simp [ints]; omega, ?_, ⟨fun h => (by cases h), fun _ => hbl⟩⟩, fun ρ r h => ?_⟩
    · refine ⟨by simp [ints]; omega, ?_⟩
      intro i x y hx hy
      have hi : i < len := by
        have := (List.getElem?_eq_some_iff.1 hx).1
        simp [ints] at this
        omega
      have hx2 : x = .sc (.int k (zs.getD i 0)) := by
        simp only [ints, List.getElem?_map, List.getElem?_take, hi, if_true] at hx
        have hzi : i < zs.length := by omega
        rw [List.getElem?_eq_getElem hzi] at hx
        simp at hx
        rw [← hx]
        simp [hzi]
      have hy2 : y = .int k (zs.getD i 0) := by
        rw [List.getElem?_take] at hy
        split at hy
        · rw [List.getElem?_drop, Array.getElem?_toList, hc i (by omega)] at hy
          injection hy with hy
          exact hy.symm
        · cases hy
      rw [hx2, hy2]
      exact .sc _
    · rw [ea]
      have := VR.sl (ρ := ρ) (r := r) (off := 0) (len := len) (sz := 1) (cap := cap) (l := ⟨a.block, a.off, c.size⟩) h hl (by simp; omega)
      simpa using this
/-- A slice that is given holds its block. -/
theorem okWide_shape {P : Program} {w : World} {r : Reach} {b : Nat} {t e : TypeId} {a : Addr} {len cap : Nat} (ht : P.underlying t = some (.slice e)) (h : Value.okWide P w r b t (.slice (some a) len cap)) : a.spot = none ∧ ∃ row cells, w.shape? a.block = some (row, cells) := by
  unfold Value.okWide at h
  simp only [ht] at h
  unfold Cell.okWide at h
  simp only [ht] at h
  unfold Cell.ok at h
  simp only [ht] at h
  obtain ⟨_, _, _, h1, row, cells, h2, _⟩ := h
  exact ⟨h1, row, cells, h2⟩
theorem shut_nil {H : Type} {enc : TypeId × Value → H} {P : Program} {w : World} {base : Nat} {spare : Nat → Bool} {held : Bool} {t e : TypeId} (ht : P.underlying t = some (.slice e)) : DataW.Trod enc P w base spare held t (.slice none 0 0) .nil [] := ⟨1, by simp [DataW.trod_step, DataW.trodStep, Value.cells, ht]⟩
end Go.Proofs.Ytknmbiebnpojjaa.Sim
namespace Go.Proofs.Ytknmbiebnpojjaa.Sim
open Go
set_option linter.unusedSimpArgs false
set_option linter.unusedVariables false
/-- The kinds of flat cells. -/
inductive Kd where
  | b
  | s
  | i (k : IntKind)
def Kd.ok (k : Kd) (v : Value) : Prop :=
  match k with
  | .b => ∃ x, v = .bool x
  | .s => ∃ z, v = .string z ∧ z.size ≤ maxLen
  | .i q => ∃ n, v = .int q n
theorem Kd.ok.one {k : Kd} {v : Value} (h : k.ok v) : (AV.sc v).one = true := by
  cases k with
  | b => obtain ⟨x, rfl⟩ := h; rfl
  | s => obtain ⟨x, rfl, _⟩ := h; rfl
  | i q => obtain ⟨x, rfl⟩ := h; rfl
theorem Kd.ok.flat {k : Kd} {v : Value} (h : k.ok v) : Flat (.sc v) := .sc v
inductive Leaf where
  | f (k : Kd)
  | l (e : TypeId) (ks : List Kd)
def Leaf.kd? : Leaf → Option Kd
  | .f k => some k
  | .l _ _ => none
def leavesFs (P : Program) (rec : TypeId → Option (List Leaf)) : List Field → Nat → Option (List Leaf)
  | [], _ => some []
  | f :: fs, off => match rec f.type, leavesFs P rec fs (off + P.cellsOf f.type) with
    | some a, some b => if f.offset = off ∧ a.length = P.cellsOf f.type then some (a ++ b) else none
    | _, _ => none
def leaves (P : Program) : Nat → TypeId → Option (List Leaf)
  | 0, _ => none
  | d + 1, t => match P.underlying t with
    | some .bool => some [.f .b]
    | some .string => some [.f .s]
    | some (.int k) => some [.f (.i k)]
    | some (.slice e) => match leaves P d e with
      | some ls => match ls.mapM Leaf.kd? with
        | some ks => if P.cellsOf e = ks.length ∧ 0 < ks.length then some [.l e ks] else none
        | none => none
      | none => none
    | some (.struct fs) => match leavesFs P (leaves P d) fs.toList 0 with
      | some ls => if ls.length = P.cellsOf t then some ls else none
      | none => none
    | _ => none
section
variable {H : Type} {enc : TypeId × Value → H} {P : Program} {W : World} {base : Nat} {spare : Nat → Bool} {held : Bool}
def LeafOk (enc : TypeId × Value → H) (P : Program) (W : World) (base : Nat) (spare : Nat → Bool) (held : Bool) (l : Leaf) (v : Value) : Prop :=
  match l with
  | .f k => k.ok v
  | .l e ks => P.cellsOf e = ks.length ∧ 0 < ks.length ∧ (∃ d, leaves P d e = some (ks.map .f)) ∧ ∃ t n y, P.underlying t = some (.slice e) ∧ DataW.trod enc P W base spare held n t [v] = some y
theorem kd_map : ∀ (ls : List Leaf) (ks : List Kd), ls.mapM Leaf.kd? = some ks → ls = ks.map .f
  | [], ks, h => by
    simp at h
    subst h
    rfl
  | l :: ls, ks, h => by
    rw [List.mapM_cons] at h
    cases l with
    | l e k => simp [Leaf.kd?] at h
    | f k =>
      cases hl : ls.mapM Leaf.kd? with
      | none => simp [Leaf.kd?, hl] at h
      | some ks' =>
        simp [Leaf.kd?, hl] at h
        subst h
        rw [List.map_cons, ← kd_map ls ks' hl]
theorem mapM_all {α β : Type} {f : α → Option β} : ∀ {l : List α} {r : List β}, l.mapM f = some r → ∀ x ∈ l, ∃ y, f x = some y
  | [], r, _, x, hx => by cases hx
  | a :: l, r, h, x, hx => by
    rw [List.mapM_cons] at h
    cases ha : f a with
    | none => simp [ha] at h
    | some y =>
      cases hl : l.mapM f with
      | none => simp [ha, hl] at h
      | some ys =>
        rcases List.mem_cons.1 hx with rfl | hx
        · exact ⟨y, ha⟩
        · exact mapM_all hl x hx
theorem fs_ok (rec : TypeId → Option (List Leaf)) (r : TypeId → List Value → Option (DataW H × List MemPlace)) (L : Leaf → Value → Prop)
    (hr : ∀ t cs y ls, rec t = some ls → r t cs = some y → ∀ (i : Nat) l v, ls[i]? = some l → cs[i]? = some v → L l v) (cs : List Value) :
    ∀ (fs : List Field) (off : Nat) (ls : List Leaf), leavesFs P rec fs off = some ls → (∀ f ∈ fs, ∃ y, r f.type ((cs.drop f.offset).take (P.cellsOf f.type)) = some y) →
      ∀ (i : Nat) l v, ls[i]? = some l → cs[off + i]? = some v → L l v
  | [], off, ls, h, _, i, l, v, hl, _ => by
    simp [leavesFs] at h
    subst h
    simp at hl
  | f :: fs, off, ls, h, ha, i, l, v, hl, hv => by
    rw [leavesFs] at h
    cases h1 : rec f.type with
    | none => simp [h1] at h
    | some a =>
      cases h2 : leavesFs P rec fs (off + P.cellsOf f.type) with
      | none => simp [h1, h2] at h
      | some b =>
        simp only [h1, h2] at h
        split at h
        · rename_i hc
          obtain ⟨c1, c2⟩ := hc
          simp only [Option.some.injEq] at h
          subst h
          by_cases hi : i < a.length
          · rw [List.getElem?_append_left hi] at hl
            obtain ⟨y, hy⟩ := ha f (by simp)
            refine hr _ _ _ _ h1 hy i l v hl ?_
            rw [List.getElem?_take, if_pos (by omega), List.getElem?_drop, c1]
            exact hv
          · rw [List.getElem?_append_right (by omega)] at hl
            refine fs_ok rec r L hr cs fs _ b h2 (fun g hg => ha g (by simp [hg])) (i - a.length) l v hl ?_
            rw [← c2, show off + a.length + (i - a.length) = off + i by omega]
            exact hv
        · cases h
theorem leaves_ok : ∀ (d : Nat) (n : Nat) (t : TypeId) (cs : List Value) (y : DataW H × List MemPlace) (ls : List Leaf), leaves P d t = some ls → DataW.trod enc P W base spare held n t cs = some y →
    ∀ (i : Nat) l v, ls[i]? = some l → cs[i]? = some v → LeafOk enc P W base spare held l v
  | 0, n, t, cs, y, ls, h, _, i, l, v, _, _ => by cases h
  | d + 1, 0, t, cs, y, ls, h, hy, i, l, v, hl, hv => by simp [DataW.trod] at hy
  | d + 1, n + 1, t, cs, y, ls, h, hy, i, l, v, hl, hv => by
    have hy0 := hy
    rw [DataW.trod_step] at hy
    rw [leaves] at h
    cases hu : P.underlying t with
    | none => simp [hu] at h
    | some D =>
      rw [hu] at h
      unfold DataW.trodStep at hy
      cases D with
      | bool =>
        simp only [Option.some.injEq] at h
        subst h
        rw [hu] at hy
        have hc : ∃ b, cs = [.bool b] := by
          split at hy <;> simp_all
        obtain ⟨b, rfl⟩ := hc
        obtain ⟨rfl, rfl⟩ : i = 0 ∧ l = .f .b := by
          cases i with
          | zero => exact ⟨rfl, by simpa using hl.symm⟩
          | succ i => simp at hl
        simp at hv
        subst hv
        exact ⟨b, rfl⟩
      | string =>
        simp only [Option.some.injEq] at h
        subst h
        rw [hu] at hy
        have hc : ∃ b, cs = [.string b] ∧ b.size ≤ maxLen := by
          split at hy <;> simp_all
        obtain ⟨b, rfl, hb⟩ := hc
        obtain ⟨rfl, rfl⟩ : i = 0 ∧ l = .f .s := by
          cases i with
          | zero => exact ⟨rfl, by simpa using hl.symm⟩
          | succ i => simp at hl
        simp at hv
        subst hv
        exact ⟨b, rfl, hb⟩
      | int k =>
        simp only [Option.some.injEq] at h
        subst h
        rw [hu] at hy
        have hc : ∃ m, cs = [.int k m] := by
          split at hy <;> simp_all
        obtain ⟨m, rfl⟩ := hc
        obtain ⟨rfl, rfl⟩ : i = 0 ∧ l = .f (.i k) := by
          cases i with
          | zero => exact ⟨rfl, by simpa using hl.symm⟩
          | succ i => simp at hl
        simp at hv
        subst hv
        exact ⟨m, rfl⟩
      | slice e =>
        cases h1 : leaves P d e with
        | none => simp [h1] at h
        | some ls' =>
          cases h2 : ls'.mapM Leaf.kd? with
          | none => simp [h1, h2] at h
          | some ks =>
            simp only [h1, h2] at h
            split at h
            · rename_i hc
              simp only [Option.some.injEq] at h
              subst h
              obtain ⟨rfl, rfl⟩ : i = 0 ∧ l = .l e ks := by
                cases i with
                | zero => exact ⟨rfl, by simpa using hl.symm⟩
                | succ i => simp at hl
              have hcs : cs = [v] := by
                rw [hu] at hy
                split at hy <;> simp_all
              subst hcs
              exact ⟨hc.1, hc.2, ⟨d, by rw [h1, kd_map _ _ h2]⟩, t, n + 1, y, hu, hy0⟩
            · cases h
      | struct fs =>
        cases h1 : leavesFs P (leaves P d) fs.toList 0 with
        | none => simp [h1] at h
        | some ls' =>
          simp only [h1] at h
          split at h
          · rename_i hc
            simp only [Option.some.injEq] at h
            subst h
            rw [hu] at hy
            have hm : ∃ xs, fs.toList.mapM (fun f => DataW.trod enc P W base spare held n f.type ((cs.drop f.offset).take (P.cellsOf f.type))) = some xs := by
              split at hy <;> simp_all
              obtain ⟨xs, hx, _⟩ := hy.2
              exact ⟨xs, hx⟩
            obtain ⟨xs, hx⟩ := hm
            exact fs_ok (P := P) (leaves P d) (DataW.trod enc P W base spare held n) (LeafOk enc P W base spare held) (fun t cs y ls a b i l v => leaves_ok d n t cs y ls a b i l v) cs fs.toList 0 ls' h1 (fun f hf => mapM_all hx f hf) i l v hl (by simpa using hv)
          · cases h
      | _ => simp at h
/-- A row of flat cells. -/
structure Rw (ks : List Kd) where
  val : List Value
  ok : val.length = ks.length ∧ ∀ (i : Nat) k v, ks[i]? = some k → val[i]? = some v → k.ok v
def Rw.cs {ks : List Kd} (r : Rw ks) : List AV := r.val.map .sc
theorem Rw.encs {ks : List Kd} (h : 0 < ks.length) : Enc (Rw.cs (ks := ks)) ks.length := by
  refine ⟨fun a => by rw [Rw.cs, List.length_map]; exact a.ok.1, fun a => List.all_eq_true.2 fun x hx => ?_, h⟩
  obtain ⟨v, hv, rfl⟩ := List.mem_map.1 hx
  obtain ⟨i, hi⟩ := List.getElem?_of_mem hv
  have hlt := (List.getElem?_eq_some_iff.1 hi).1
  rw [a.ok.1] at hlt
  exact (a.ok.2 i ks[i] v (List.getElem?_eq_getElem hlt) hi).one
/-- A slice of the whole of a region of such rows, or none at all. -/
def IsR {ks : List Kd} (H : AHeap) (x : AV) (l : List (Rw ks)) : Prop := (x = .sc (.slice none 0 0) ∧ l = []) ∨ ∃ r own, x = .sl r 0 l.length ks.length ∧ H[r]? = some ⟨rows Rw.cs l, own, true⟩
def SlotOk (W : World) (s : Reg × Option Loc) : Prop := s.1.own = false ∧ ∀ (ρ : Ren) l, s.2 = some l → RegOk ρ W.heap.size W l s.1
theorem rows_mem {α : Type} {f : α → List AV} {l : List α} {a : AV} (h : a ∈ rows f l) : ∃ x ∈ l, a ∈ f x := by
  obtain ⟨y, hy, hya⟩ := List.mem_flatten.1 h
  obtain ⟨x, hx, rfl⟩ := List.mem_map.1 hy
  exact ⟨x, hx, hya⟩
theorem chunks {α : Type} (m : Nat) (p : List α → Prop) : ∀ (n : Nat) (cs : List α), cs.length = n * m → (∀ i, i < n → p ((cs.drop (i * m)).take m)) → ∃ rs : List (List α), rs.length = n ∧ rs.flatten = cs ∧ (∀ r ∈ rs, p r ∧ r.length = m)
  | 0, cs, hl, _ => ⟨[], rfl, by simp at hl; simp [hl], by simp⟩
  | n + 1, cs, hl, h => by
    have h1 : (cs.drop m).length = n * m := by rw [List.length_drop, hl, Nat.add_mul]; omega
    obtain ⟨rs, r1, r2, r3⟩ := chunks m p n (cs.drop m) h1 (fun i hi => by
      have := h (i + 1) (by omega)
      rw [List.drop_drop]
      rwa [Nat.add_mul, Nat.one_mul, Nat.add_comm] at this)
    refine ⟨cs.take m :: rs, by simp [r1], by simp [r2], ?_⟩
    intro r hr
    rcases List.mem_cons.1 hr with rfl | hr
    · refine ⟨by simpa using h 0 (by omega), ?_⟩
      rw [List.length_take, hl, Nat.add_mul]
      omega
    · exact r3 r hr
theorem map_rows {ks : List Kd} : ∀ (rs : List (List Value)), (∀ r ∈ rs, r.length = ks.length ∧ ∀ (i : Nat) k v, ks[i]? = some k → r[i]? = some v → k.ok v) → ∃ l : List (Rw ks), l.length = rs.length ∧ rows Rw.cs l = rs.flatten.map .sc
  | [], _ => ⟨[], rfl, rfl⟩
  | r :: rs, h => by
    obtain ⟨l, l1, l2⟩ := map_rows rs (fun q hq => h q (by simp [hq]))
    refine ⟨⟨r, h r (by simp)⟩ :: l, by simp [l1], ?_⟩
    rw [rows_cons, l2, List.flatten_cons, List.map_append]
    rfl
theorem slot {t e : TypeId} {ks : List Kd} {v : Value} {y : DataW H × List MemPlace} {n d : Nat} (ht : P.underlying t = some (.slice e)) (hm : P.cellsOf e = ks.length) (hp : 0 < ks.length) (hk : leaves P d e = some (ks.map .f))
    (h : DataW.trod enc P W 0 (fun _ => true) true n t [v] = some y) {u e2 : TypeId} (hu : P.underlying u = some (.slice e2)) {b0 : Nat} (hok : Cell.okWide P W .any b0 u v) :
    ∃ (l : List (Rw ks)) (s : Reg × Option Loc) (x : Nat → AV), SlotOk W s ∧ (∀ (ρ : Ren) r, ρ r = s.2 → VR ρ (x r) v) ∧ l.length ≤ 9223372036854775807 ∧ ∀ r (G : AHeap), G[r]? = some s.1 → IsR G (x r) l := by
  rcases DataW.trod_slice ht h with ⟨hv, _⟩ | ⟨a, len, cap, elems, rest, n', rfl, hv, _, hb, hl, hc, he1, he2, hsp, _⟩
  · simp only [List.cons.injEq, and_true] at hv
    subst hv
    refine ⟨[], (⟨[], false, true⟩, none), fun _ => .sc (.slice none 0 0), ⟨rfl, fun _ _ h => by cases h⟩, fun _ _ _ => .sc _, by simp, fun _ _ _ => .inl ⟨rfl, rfl⟩⟩
  · simp only [List.cons.injEq, and_true] at hv
    subst hv
    have hasp : a.spot = none ∧ ∃ row cells, W.shape? a.block = some (row, cells) := by
      unfold Cell.okWide at hok
      simp only [hu] at hok
      unfold Cell.ok at hok
      simp only [hu] at hok
      obtain ⟨_, _, _, h1, row, cells, h2, _⟩ := hok
      exact ⟨h1, row, cells, h2⟩
    obtain ⟨hspot, row, cells, hsh⟩ := hasp
    unfold World.shape? at hsh
    split at hsh
    case h_2 => cases hsh
    rename_i c elem fz hblk
    have hbl : a.block < W.heap.size := (Array.getElem?_eq_some_iff.1 hblk).1
    have ea : a = ⟨a.block, a.off, none⟩ := by cases a; simp_all
    have hadd : ∀ i, a.add i = ⟨a.block, a.off + i, none⟩ := fun i => add_spot hspot i
    have hadd2 : ∀ i j, (a.add i).add j = ⟨a.block, a.off + i + j, none⟩ := fun i j => by rw [hadd, add_spot rfl]
    have hcell : ∀ k, W.cell? ⟨a.block, k, none⟩ = c[k]? := fun k => by simp [World.cell?, hblk]
    obtain ⟨hr1, hr2⟩ := hsp rfl
    -- each element is read
    have each : ∀ i, i < cap → ∃ q yy, W.cells? 0 (a.add (i * P.cellsOf e)) (P.cellsOf e) = some q ∧ DataW.trod enc P W 0 (fun _ => true) true n' e q = some yy := by
      intro i hi
      by_cases h1 : i < len
      · have := he2 i h1
        rw [List.getElem?_eq_getElem (by omega), Option.bind_eq_some_iff] at this
        obtain ⟨q, q1, q2⟩ := this
        exact ⟨q, _, q1, q2⟩
      · have := hr2 (i - len) (by omega)
        rw [show len + (i - len) = i by omega, List.getElem?_eq_getElem (by omega), Option.bind_eq_some_iff] at this
        obtain ⟨q, q1, q2⟩ := this
        exact ⟨q, _, q1, q2⟩
    have eachc : ∀ i, i < cap → ∃ q yy, q.length = ks.length ∧ (∀ j, j < ks.length → c[a.off + i * ks.length + j]? = q[j]?) ∧ DataW.trod enc P W 0 (fun _ => true) true n' e q = some yy := by
      intro i hi
      obtain ⟨q, yy, q1, q2⟩ := each i hi
      obtain ⟨_, q4, q5⟩ := World.cells?_some q1
      rw [hm] at q4 q5
      refine ⟨q, yy, q4, fun j hj => ?_, q2⟩
      have := q5 j hj
      rw [hadd2, hcell] at this
      exact this
    have hfit : a.off + cap * ks.length ≤ c.size ∨ cap = 0 := by
      rcases Nat.eq_zero_or_pos cap with h0 | h0
      · exact .inr h0
      · obtain ⟨q, yy, q1, q2, _⟩ := eachc (cap - 1) (by omega)
        have := q2 (ks.length - 1) (by omega)
        rw [List.getElem?_eq_getElem (by omega)] at this
        have := (Array.getElem?_eq_some_iff.1 this).1
        have e2 : cap * ks.length = (cap - 1) * ks.length + ks.length := by
          obtain ⟨k, rfl⟩ : ∃ k, cap = k + 1 := ⟨cap - 1, by omega⟩
          rw [Nat.add_mul, Nat.one_mul, Nat.add_sub_cancel]
        exact .inl (by omega)
    rcases hfit with hfit | h0
    · have hlm : len * ks.length ≤ cap * ks.length := Nat.mul_le_mul_right _ hl
      let cs := (c.toList.drop a.off).take (len * ks.length)
      have hcl : cs.length = len * ks.length := by
        show ((c.toList.drop a.off).take (len * ks.length)).length = _
        have hcz : c.toList.length = c.size := Array.length_toList
        rw [List.length_take, List.length_drop, hcz]
        omega
      obtain ⟨rs, rs1, rs2, rs3⟩ := chunks ks.length (fun r => ∀ (i : Nat) k v, ks[i]? = some k → r[i]? = some v → k.ok v) len cs hcl (by
        intro i hi
        obtain ⟨q, yy, q1, q2, q3⟩ := eachc i (by omega)
        have hq : (cs.drop (i * ks.length)).take ks.length = q := by
          apply List.ext_getElem?
          intro j
          by_cases hj : j < ks.length
          · have hij : i * ks.length + j < len * ks.length := by
              have : (i + 1) * ks.length ≤ len * ks.length := Nat.mul_le_mul_right _ hi
              rw [Nat.add_mul, Nat.one_mul] at this
              omega
            rw [List.getElem?_take, if_pos hj, List.getElem?_drop, ← q2 j hj]
            show ((c.toList.drop a.off).take (len * ks.length))[i * ks.length + j]? = _
            rw [List.getElem?_take, if_pos hij, List.getElem?_drop, Array.getElem?_toList, Nat.add_assoc]
          · rw [List.getElem?_eq_none (by rw [List.length_take]; omega), List.getElem?_eq_none (by omega)]
        rw [hq]
        intro j k v hk1 hv1
        have := leaves_ok d n' e q yy _ hk q3 j (.f k) v (by rw [List.getElem?_map, hk1]; rfl) hv1
        exact this)
      obtain ⟨l, l1, l2⟩ := map_rows rs (fun r hr => ⟨(rs3 r hr).2, (rs3 r hr).1⟩)
      have hlen : l.length = len := by rw [l1, rs1]
      have hrl : (rows Rw.cs l).length = len * ks.length := by rw [rows_len (Rw.encs hp), hlen]
      refine ⟨l, (⟨rows Rw.cs l, false, true⟩, some ⟨a.block, a.off, c.size⟩), fun r => .sl r 0 len ks.length, ⟨rfl, ?_⟩, ?_, by rw [hlen]; exact Nat.le_trans hl (Nat.le_trans hc (by decide)), ?_⟩
      · intro ρ lc hlc
        simp only [Option.some.injEq] at hlc
        subst hlc
        refine ⟨c, elem, fz, hblk, rfl, ?_, ?_, fun h => (by cases h), fun _ => hbl⟩
        · rw [hrl]
          exact Nat.le_trans (Nat.add_le_add_left hlm _) hfit
        · rw [l2, rs2, List.length_map, hcl]
          refine ⟨by rw [List.length_map], ?_⟩
          intro i x z hx hz
          rw [List.getElem?_map] at hx
          have : cs[i]? = some z := hz
          rw [this] at hx
          simp at hx
          subst hx
          exact .sc _
      · intro ρ r hr
        rw [ea]
        have := VR.sl (ρ := ρ) (r := r) (off := 0) (len := len) (sz := ks.length) (cap := cap) (l := ⟨a.block, a.off, c.size⟩) hr hl (by simpa using hfit)
        simpa using this
      · intro r G hG
        exact .inr ⟨r, false, by rw [hlen], hG⟩
    · have hl0 : len = 0 := by omega
      subst hl0
      subst h0
      refine ⟨[], (⟨rows Rw.cs ([] : List (Rw ks)), false, true⟩, some ⟨a.block, 0, c.size⟩), fun r => .sl r 0 0 ks.length, ⟨rfl, ?_⟩, ?_, by simp, ?_⟩
      · intro ρ lc hlc
        simp only [Option.some.injEq] at hlc
        subst hlc
        refine ⟨c, elem, fz, hblk, rfl, by simp [rows], ?_, fun h => (by cases h), fun _ => hbl⟩
        simp only [rows, List.map_nil, List.flatten_nil, List.length_nil, List.take_zero]
        exact LR.nil
      · intro ρ r hr
        rw [ea]
        exact .sl0 hr
      · intro r G hG
        exact .inr ⟨r, false, rfl, hG⟩
/-- What a cell is told to be. -/
def CellSpec (l : Leaf) (v : Value) (x : AV) (g : Reg) (r : Nat) : Prop :=
  match l with
  | .f k => x = .sc v ∧ k.ok v
  | .l _ ks => ∃ q : List (Rw ks), q.length ≤ 9223372036854775807 ∧ ∀ G : AHeap, G[r]? = some g → IsR G x q
theorem open_cells : ∀ (ls : List Leaf) (cs : List Value) (off : Nat), cs.length = ls.length → (∀ (i : Nat) l v, ls[i]? = some l → cs[i]? = some v → LeafOk enc P W 0 (fun _ => true) true l v) →
    (∀ (i : Nat) e ks v, ls[i]? = some (.l e ks) → cs[i]? = some v → ∃ u e2 b0, P.underlying u = some (.slice e2) ∧ Cell.okWide P W .any b0 u v) →
    ∃ (S : List (Reg × Option Loc)) (xs : List AV), S.length = ls.length ∧ (∀ p ∈ S, SlotOk W p) ∧ (∀ ρ : Ren, (∀ i p, S[i]? = some p → ρ (off + i) = p.2) → LR ρ xs cs) ∧
      ∀ (i : Nat) l v, ls[i]? = some l → cs[i]? = some v → ∃ x p, xs[i]? = some x ∧ S[i]? = some p ∧ CellSpec l v x p.1 (off + i)
  | [], cs, off, hl, _, _ => ⟨[], [], rfl, by simp, fun ρ _ => by
      have : cs = [] := by simpa using hl
      subst this
      exact LR.nil, by simp⟩
  | l :: ls, [], off, hl, _, _ => by simp at hl
  | l :: ls, v :: cs, off, hl, h, hw => by
    obtain ⟨S, xs, s1, s2, s3, s4⟩ := open_cells ls cs (off + 1) (by simpa using hl) (fun i l v a b => h (i + 1) l v a b) (fun i e ks v a b => hw (i + 1) e ks v a b)
    have key : ∃ (p : Reg × Option Loc) (x : AV), SlotOk W p ∧ (∀ ρ : Ren, ρ off = p.2 → VR ρ x v) ∧ CellSpec l v x p.1 off := by
      have h0 := h 0 l v rfl rfl
      cases l with
      | f k => exact ⟨(⟨[], false, true⟩, none), .sc v, ⟨rfl, fun _ _ h => by cases h⟩, fun _ _ => .sc _, rfl, h0⟩
      | l e ks =>
        obtain ⟨h1, h2, ⟨d, h3⟩, t, n, y, h4, h5⟩ := h0
        obtain ⟨u, e2, b0, u1, u2⟩ := hw 0 e ks v rfl rfl
        obtain ⟨q, p, x, q1, q2, q4, q3⟩ := slot h4 h1 h2 h3 h5 u1 u2
        exact ⟨p, x off, q1, fun ρ hρ => q2 ρ off hρ, q, q4, fun G hG => q3 off G hG⟩
    obtain ⟨p, x, k1, k2, k3⟩ := key
    refine ⟨p :: S, x :: xs, by simp [s1], ?_, ?_, ?_⟩
    · intro q hq
      rcases List.mem_cons.1 hq with rfl | hq
      · exact k1
      · exact s2 q hq
    · intro ρ hρ
      refine LR.cons (k2 ρ (hρ 0 p rfl)) (s3 ρ fun i q hq => ?_)
      have := hρ (i + 1) q hq
      rwa [show off + (i + 1) = off + 1 + i by omega] at this
    · intro i l' v' hl' hv'
      cases i with
      | zero =>
        simp at hl' hv'
        subst hl' hv'
        exact ⟨x, p, rfl, rfl, k3⟩
      | succ i =>
        obtain ⟨x', p', a1, a2, a3⟩ := s4 i l' v' hl' hv'
        rw [show off + 1 + i = off + (i + 1) by omega] at a3
        exact ⟨x', p', a1, a2, a3⟩
theorem entryS {f : FuncId} {v : Value} {ags : List AV} {H' : AHeap} (S : List (Reg × Option Loc)) (hs : Sound P f ags (S.map (·.1)) (.sc v) H') (cargs : Array Value) (hS : ∀ p ∈ S, SlotOk W p)
    (hA : LR (fun r => (S[r]?).bind (·.2)) ags cargs.toList) : Calls P f cargs W fun e w' => e = .returned v ∧ RowKit.Below W.heap.size W w' := by
  refine entry hs W cargs _ ?_ ?_ hA
  · intro r g l hg hr
    rw [List.getElem?_map] at hg
    cases hp : S[r]? with
    | none => simp [hp] at hg
    | some p =>
      simp only [hp, Option.map_some, Option.some.injEq] at hg
      simp only [hp, Option.bind_some] at hr
      subst hg
      obtain ⟨o1, o2⟩ := hS p (List.mem_of_getElem? hp)
      exact ⟨o2 _ l hr, o1⟩
  · intro r l hr
    cases hp : S[r]? with
    | none => simp [hp] at hr
    | some p => exact ⟨p.1, by rw [List.getElem?_map, hp]; rfl⟩
def slicesPos (P : Program) : Bool := (List.range P.types.size).all fun t => match P.underlying t with | some (.slice e) => decide (0 < P.cellsOf e) | _ => true
/-- What was given is as it was. -/
theorem trodAll_stays {W' : World} {sp' : Nat → Bool} (h1 : laidOutB P = true) (h2 : mapsRowed P = true) (h3 : slicesPos P = true) (bel : RowKit.Below W.heap.size W W') (hsp : ∀ b, b < W.heap.size → sp' b = true) : ∀ {ts : List TypeId} {vs : List Value} {ds : List (DataW H)} {ps : List MemPlace}, (∀ t ∈ ts, t < P.types.size) → DataW.TrodAll enc P W base (fun _ => true) true ts vs ds ps → DataW.TrodAll enc P W' base sp' true ts vs ds ps
  | [], [], [], _, _, h => h
  | t :: _, _ :: _, _ :: _, _, hts, ⟨a, b, ⟨n, h4⟩, h5, e⟩ => by
    have hlt := DataW.trod_lt n _ _ _ h4
    refine ⟨a, b, ⟨n, DataW.trod_stays (kids_rows h1 h2) (fun {t e} ht hu => ?_) (fun h => by cases h) (hts t (by simp)) h4 (fun p hp => ?_) fun p hp => hsp _ (hlt p hp)⟩, trodAll_stays h1 h2 h3 bel hsp (fun t ht => hts t (by simp [ht])) h5, e⟩
    · have := List.all_eq_true.1 h3 t (List.mem_range.2 ht)
      rw [hu] at this
      simpa using this
    · have hl := hlt p hp
      cases p with
      | cell b off =>
        show W'.cell? ⟨b, off, none⟩ = W.cell? ⟨b, off, none⟩
        simp only [World.cell?, bel.block b hl]
      | map b => exact bel.block b hl
/-- The cells of a struct that is given. -/
theorem row_wide {t : TypeId} {cs : Array Value} {b0 : Nat} {r : Reach} (ts : List TypeId) (hts : P.cellTypes P.depth t = some ts) (h : Row.okWide P W r b0 t cs) (hn : cs.size = ts.length) : ∀ (i : Nat) v, cs[i]? = some v → ∃ u, ts[i]? = some u ∧ Cell.okWide P W r b0 u v := by
  obtain ⟨ts', h1, _, h3⟩ := h
  rw [hts] at h1
  simp only [Option.some.injEq] at h1
  subst h1
  intro i v hv
  obtain ⟨u, u1, u2⟩ := h3 i v hv
  have hi := (Array.getElem?_eq_some_iff.1 hv).1
  rw [Nat.mod_eq_of_lt (by omega)] at u1
  exact ⟨u, u1, u2⟩
def wideB (P : Program) (t : TypeId) (ls : List Leaf) : Bool :=
  match P.cellTypes P.depth t with
  | some ts => ts.length == ls.length && P.cellsOf t == ls.length && (List.range ls.length).all fun i => match ls[i]? with
    | some (.l _ _) => (match ts[i]? with
      | some u => (match P.underlying u with | some (.slice _) => true | _ => false)
      | none => false)
    | _ => true
  | none => false
theorem range_getD {α : Type} (d : α) (xs : List α) : xs = (List.range xs.length).map fun i => xs.getD i d := by
  apply List.ext_getElem (by simp)
  intro i h1 h2
  simp [h1]
def noSlot : Reg × Option Loc := (⟨[], false, true⟩, none)
theorem noSlot_ok : SlotOk W noSlot := ⟨rfl, fun _ _ h => by cases h⟩
/-- A struct that is given. -/
theorem open_struct {t : TypeId} {fs : Array Field} {v : Value} {d : DataW H} {p : List MemPlace} {b0 : Nat} (ls : List Leaf) (D : Nat) (ht : P.underlying t = some (.struct fs)) (hl : leaves P D t = some ls) (hw : wideB P t ls = true)
    (hv : Value.okWide P W .any b0 t v) (h : DataW.Trod enc P W 0 (fun _ => true) true t v d p) (off : Nat) :
    ∃ (X : Nat → AV) (G : Nat → Reg × Option Loc), (∀ i, SlotOk W (G i)) ∧ (∀ ρ : Ren, (∀ i, i < ls.length → ρ (off + i) = (G i).2) → VR ρ (.agg ((List.range ls.length).map X)) v) ∧ ∀ (i : Nat) l, ls[i]? = some l → ∃ v, CellSpec l v (X i) (G i).1 (off + i) := by
  unfold Value.okWide at hv
  simp only [ht] at hv
  obtain ⟨cs, rfl, hsz, hrow⟩ := hv
  unfold wideB at hw
  cases hts : P.cellTypes P.depth t with
  | none => simp [hts] at hw
  | some ts =>
    simp only [hts, Bool.and_eq_true, beq_iff_eq] at hw
    obtain ⟨⟨w1, w2⟩, w3⟩ := hw
    obtain ⟨n, hn⟩ := h
    have hcs : (Value.agg cs).cells.toList = cs.toList := rfl
    rw [hcs] at hn
    have hcl : cs.toList.length = ls.length := by rw [← w2, ← hsz]; exact Array.length_toList
    have hrw := row_wide ts hts hrow (by rw [hsz, w2, w1])
    obtain ⟨S, xs, s1, s2, s3, s4⟩ := open_cells ls cs.toList off hcl (leaves_ok D n t cs.toList _ ls hl hn) (fun i e ks v hi hvi => by
      rw [Array.getElem?_toList] at hvi
      obtain ⟨u, u1, u2⟩ := hrw i v hvi
      have hil := (List.getElem?_eq_some_iff.1 hi).1
      have := List.all_eq_true.1 w3 i (List.mem_range.2 hil)
      simp only [hi, u1] at this
      cases hu : P.underlying u with
      | none => simp [hu] at this
      | some D =>
        cases D with
        | slice e2 => exact ⟨u, e2, b0, hu, u2⟩
        | _ => simp [hu] at this)
    have hG : ∀ i, i < ls.length → S[i]? = some ((S[i]?).getD noSlot) := fun i hi => by rw [List.getElem?_eq_getElem (by omega)]; rfl
    have hxl : xs.length = ls.length := by
      have := (s3 (fun r => ((S[r - off]?).getD noSlot).2) (fun i p hp => by simp only [Nat.add_sub_cancel_left, hp]; rfl)).1
      rw [this, hcl]
    refine ⟨fun i => xs.getD i und, fun i => (S[i]?).getD noSlot, fun i => ?_, fun ρ hρ => ?_, fun i l hi => ?_⟩
    · cases hp : S[i]? with
      | none =>
        simp only [hp, Option.getD_none]
        exact noSlot_ok
      | some p =>
        simp only [hp, Option.getD_some]
        exact s2 p (List.mem_of_getElem? hp)
    · have := s3 ρ (fun i p hp => by
        have := hρ i (by rw [← s1]; exact (List.getElem?_eq_some_iff.1 hp).1)
        simp only [hp, Option.getD_some] at this
        exact this)
      rw [← hxl, ← range_getD]
      exact .agg (this.1.trans (Array.length_toList)) (fun i a v ha hv => this.2 i a v ha hv)
    · have hil := (List.getElem?_eq_some_iff.1 hi).1
      obtain ⟨x, p, a1, a2, a3⟩ := s4 i l cs.toList[i] hi (List.getElem?_eq_getElem (by omega))
      refine ⟨cs.toList[i], ?_⟩
      simp only [a2, Option.getD_some, List.getD_eq_getElem?_getD, a1]
      exact a3
/-- A slice, a number, a text that is given. -/
theorem open_one {t : TypeId} {v : Value} {d : DataW H} {p : List MemPlace} {b0 : Nat} (l : Leaf) (D : Nat) (hl : leaves P D t = some [l]) (hv : Value.okWide P W .any b0 t v) (hcw : ∀ e ks, l = .l e ks → ∃ e2, P.underlying t = some (.slice e2))
    (hvc : v.cells.toList = [v]) (h : DataW.Trod enc P W 0 (fun _ => true) true t v d p) (off : Nat) :
    ∃ (X : AV) (G : Reg × Option Loc), SlotOk W G ∧ (∀ ρ : Ren, ρ off = G.2 → VR ρ X v) ∧ CellSpec l v X G.1 off := by
  obtain ⟨n, hn⟩ := h
  rw [hvc] at hn
  obtain ⟨S, xs, s1, s2, s3, s4⟩ := open_cells [l] [v] off rfl (leaves_ok D n t [v] _ [l] hl hn) (fun i e ks u hi hvi => by
    cases i with
    | zero =>
      simp at hi hvi
      subst hi hvi
      obtain ⟨e2, he⟩ := hcw e ks rfl
      refine ⟨t, e2, b0, he, ?_⟩
      unfold Value.okWide at hv
      simpa only [he] using hv
    | succ i => simp at hi)
  obtain ⟨x, p, a1, a2, a3⟩ := s4 0 l v rfl rfl
  refine ⟨x, p, s2 p (List.mem_of_getElem? a2), fun ρ hρ => ?_, a3⟩
  have := s3 ρ (fun i q hq => by
    have hi := (List.getElem?_eq_some_iff.1 hq).1
    rw [s1] at hi
    obtain rfl : i = 0 := by simpa using hi
    rw [a2] at hq
    simp only [Option.some.injEq] at hq
    rw [← hq]
    exact hρ)
  exact this.2 0 x v a1 rfl
theorem slot_at (A B : List (Reg × Option Loc)) (n : Nat) (G : Nat → Reg × Option Loc) (off i : Nat) (hA : A.length = off) (hi : i < n) : ((A ++ ((List.range n).map G ++ B))[off + i]?).bind (·.2) = (G i).2 := by
  subst hA
  rw [List.getElem?_append_right (by omega), Nat.add_sub_cancel_left, List.getElem?_append_left (by simpa using hi), List.getElem?_map, List.getElem?_range hi]
  rfl
theorem slots_ok {n : Nat} {G : Nat → Reg × Option Loc} (h : ∀ i, SlotOk W (G i)) {B : List (Reg × Option Loc)} (hB : ∀ p ∈ B, SlotOk W p) : ∀ p ∈ (List.range n).map G ++ B, SlotOk W p := by
  intro p hp
  rcases List.mem_append.1 hp with hp | hp
  · obtain ⟨i, _, rfl⟩ := List.mem_map.1 hp
    exact h i
  · exact hB p hp
theorem slots_nil : ∀ p ∈ ([] : List (Reg × Option Loc)), SlotOk W p := fun p hp => by cases hp
/-- Rows of one number, of one truth. -/
def Rw.int1 {k : IntKind} (r : Rw [.i k]) : Int := match r.val with | [.int _ n] => n | _ => 0
def Rw.bool1 (r : Rw [.b]) : Bool := match r.val with | [.bool b] => b | _ => false
theorem rows_int1 {k : IntKind} : ∀ l : List (Rw [.i k]), rows Rw.cs l = ints k (l.map Rw.int1)
  | [] => rfl
  | ⟨r, h1, h2⟩ :: l => by
    rw [rows_cons, rows_int1 l]
    match r, h1, h2 with
    | [v], h1, h2 =>
      obtain ⟨n, rfl⟩ := h2 0 (.i k) v rfl rfl
      rfl
theorem rows_bool1 : ∀ l : List (Rw [.b]), rows Rw.cs l = bools (l.map Rw.bool1)
  | [] => rfl
  | ⟨r, h1, h2⟩ :: l => by
    rw [rows_cons, rows_bool1 l]
    match r, h1, h2 with
    | [v], h1, h2 =>
      obtain ⟨n, rfl⟩ := h2 0 .b v rfl rfl
      rfl
theorem IsR.ints {k : IntKind} {G : AHeap} {x : AV} {l : List (Rw [.i k])} (h : IsR G x l) : IsL G x k (l.map Rw.int1) := by
  rcases h with ⟨rfl, rfl⟩ | ⟨r, own, rfl, h⟩
  · exact .nil _ _
  · rw [rows_int1] at h
    exact .at h (by simp)
theorem IsR.bools {G : AHeap} {x : AV} {l : List (Rw [.b])} (h : IsR G x l) : IsB G x (l.map Rw.bool1) := by
  rcases h with ⟨rfl, rfl⟩ | ⟨r, own, rfl, h⟩
  · exact .nil _
  · rw [rows_bool1] at h
    exact .at h (by simp)
end
end Go.Proofs.Ytknmbiebnpojjaa.Sim
namespace Go.Proofs.Ytknmbiebnpojjaa.Sim
open Go
set_option maxRecDepth 100000
set_option maxHeartbeats 40000000
set_option linter.unusedSimpArgs false
set_option linter.unusedVariables false
theorem neqPt (p : Prt) : binV Try.prog .neq 58 (.agg (pcs p)) (.agg (pcs p)) = some (.sc (.bool false)) := by
  have h1 : Try.prog.stoodInHeld 58 = false := by kernel_rfl
  have h2 : Try.prog.eqGuardType Try.prog.depth 58 = false := by kernel_rfl
  simp [binV, evBin, boolBin, pcs, eqA, h1, h2, eqF, partA, eq1, Try.underlying0, Try.underlying1, Try.underlying2, Try.underlying3, Try.underlying4, Try.underlying5, Try.underlying6, Try.underlying7, Try.underlying8, Try.underlying9, Try.underlying10, Try.underlying11, Try.underlying12, Try.underlying13, Try.underlying14, Try.underlying15, Try.underlying16, Try.underlying17, Try.underlying18, Try.underlying19, Try.underlying20, Try.underlying21, Try.underlying22, Try.underlying23, Try.underlying24, Try.underlying25, Try.underlying26, Try.underlying27, Try.underlying28, Try.underlying29, Try.underlying30, Try.underlying31, Try.underlying32, Try.underlying33, Try.underlying34, Try.underlying35, Try.underlying36, Try.underlying37, Try.underlying38, Try.underlying39, Try.underlying40, Try.underlying41, Try.underlying42, Try.underlying43, Try.underlying44, Try.underlying45, Try.underlying46, Try.underlying47, Try.underlying48, Try.underlying49, Try.underlying50, Try.underlying51, Try.underlying52, Try.underlying53, Try.underlying54, Try.underlying55, Try.underlying56, Try.underlying57, Try.underlying58, Try.underlying59, Try.underlying60, Try.underlying61, Try.underlying62, Try.underlying63, Try.underlying64, Try.underlying65, Try.underlying66, Try.underlying67, Try.underlying68, Try.underlying69, Try.underlying70, Try.underlying71, Try.underlying72, Try.underlying73, Try.underlying74, Try.underlying75, Try.underlying76, Try.underlying77, Try.underlying78, Try.underlying79, Try.underlying80, Try.underlying81, Try.underlying82, Try.underlying83, Try.underlying84, Try.underlying85, Try.underlying86, Try.underlying87, Try.underlying88, Try.underlying89, Try.underlying90, Try.underlying91, Try.underlying92, Try.underlying93, Try.underlying94, Try.underlying95, Try.underlying96, Try.underlying97, Try.underlying98, Try.underlying99, Try.underlying100, Try.underlying101, Try.underlying102, Try.underlying103, Try.underlying104, Try.underlying105, Try.underlying106, Try.underlying107, Try.underlying108, Try.underlying109, Try.underlying110, Try.underlying111, Try.underlying112, Try.underlying113, Try.underlying114, Try.underlying115, Try.underlying116, Try.underlying117, Try.underlying118, Try.underlying119, Try.underlying120, Try.underlying121, Try.underlying122, Try.underlying123, Try.underlying124, Try.underlying125, Try.underlying126, Try.underlying127, Try.underlying128, Try.underlying129, Try.underlying130, Try.underlying131, Try.underlying132, Try.underlying133, Try.underlying134, Try.underlying135, Try.underlying136, Try.underlying137, Try.underlying138, Try.underlying139, Try.underlying140, Try.underlying141, Try.underlying142, Try.underlying143, Try.underlying144, Try.underlying145, Try.underlying146, Try.underlying147, tyOk0, agg0, cells0, tyOk1, agg1, cells1, tyOk2, agg2, cells2, zero2, info2, mk2, bs2_0, bs2_1, bs2_2, bs2_3, bs2_4, bs2_5, bs2_6, bs2_7, bs2_8, bs2_10, bs2_11, bs2_12, bs2_13, tyOk3, agg3, cells3, zero3, apS26, apN26, info3, mk3, bs3_0, bs3_1, bs3_2, bs3_3, bs3_4, bs3_5, bs3_6, bs3_7, bs3_8, bs3_10, bs3_11, bs3_12, bs3_13, tyOk4, agg4, cells4, zero4, info4, mk4, bs4_0, bs4_1, bs4_2, apS52, apN52, tyOk5, agg5, cells5, isU5, zero5, apS22, apN22, apStr22, info5, mk5, bs5_0, bs5_1, bs5_2, bs5_3, bs5_4, bs5_5, bs5_6, bs5_7, bs5_8, bs5_10, bs5_11, bs5_12, bs5_13, tyOk6, agg6, cells6, isU6, zero6, info6, mk6, bs6_0, bs6_1, bs6_2, bs6_3, bs6_4, bs6_5, bs6_6, bs6_7, bs6_8, bs6_10, bs6_11, bs6_12, bs6_13, tyOk7, agg7, cells7, zero7, fadr7_0, fld7_0, fadr7_1, fld7_1, fadr7_2, fld7_2, fadr7_3, fld7_3, bz7, bds7, tyOk8, agg8, cells8, zero8, fadr8_0, fld8_0, fadr8_1, fld8_1, fadr8_2, fld8_2, fadr8_3, fld8_3, bz8, bds8, tyOk9, agg9, cells9, zero9, info9, bs9_0, bs9_1, bs9_2, bs9_3, bs9_4, bs9_5, bs9_6, bs9_8, bs9_9, bs9_10, apS125, apN125, tyOk10, agg10, cells10, zero10, info10, bs10_0, bs10_1, bs10_2, bs10_3, bs10_4, bs10_5, bs10_6, bs10_8, bs10_9, bs10_10, tyOk11, agg11, cells11, zero11, info11, bs11_0, bs11_1, bs11_2, bs11_3, bs11_4, bs11_5, bs11_6, bs11_8, bs11_9, bs11_10, tyOk12, agg12, cells12, zero12, info12, mk12, bs12_0, bs12_1, bs12_2, bs12_3, bs12_4, bs12_5, bs12_6, bs12_7, bs12_8, bs12_10, bs12_11, bs12_12, bs12_13, tyOk13, agg13, cells13, zero13, fadr13_0, fld13_0, fadr13_1, fld13_1, bz13, bds13, tyOk14, agg14, cells14, zero14, fadr14_0, fld14_0, fadr14_1, fld14_1, bz14, bds14, tyOk15, agg15, cells15, zero15, tyOk16, agg16, cells16, zero16, tyOk17, agg17, cells17, zero17, tyOk18, agg18, cells18, zero18, fadr18_0, fld18_0, bz18, bds18, tyOk19, agg19, cells19, zero19, fadr19_0, fld19_0, bz19, bds19, tyOk20, agg20, cells20, tyOk21, agg21, cells21, zero21, info21, mk21, bs21_0, bs21_1, bs21_2, bs21_3, bs21_4, bs21_5, bs21_6, bs21_7, bs21_8, bs21_10, bs21_11, bs21_12, bs21_13, tyOk22, agg22, cells22, zero22, tyOk23, agg23, cells23, tyOk24, agg24, cells24, tyOk25, agg25, cells25, tyOk26, agg26, cells26, zero26, tyOk27, agg27, cells27, tyOk28, agg28, cells28, tyOk29, agg29, cells29, zero29, info29, mk29, bs29_0, bs29_1, bs29_2, bs29_3, bs29_4, bs29_5, bs29_6, bs29_7, bs29_8, bs29_10, bs29_11, bs29_12, bs29_13, tyOk30, agg30, cells30, tyOk31, agg31, cells31, tyOk32, agg32, cells32, tyOk33, agg33, cells33, tyOk34, agg34, cells34, tyOk35, agg35, cells35, tyOk36, agg36, cells36, tyOk37, agg37, cells37, tyOk38, agg38, cells38, tyOk39, agg39, cells39, tyOk40, agg40, cells40, tyOk41, agg41, cells41, tyOk42, agg42, cells42, tyOk43, agg43, cells43, tyOk44, agg44, cells44, tyOk45, agg45, cells45, tyOk46, agg46, cells46, tyOk47, agg47, cells47, tyOk48, agg48, cells48, tyOk49, agg49, cells49, zero49, tyOk50, agg50, cells50, tyOk51, agg51, cells51, tyOk52, agg52, cells52, zero52, tyOk53, agg53, cells53, zero53, fadr53_0, fld53_0, fadr53_1, fld53_1, fadr53_2, fld53_2, fadr53_3, fld53_3, bz53, bds53, tyOk54, agg54, cells54, zero54, fadr54_0, fld54_0, fadr54_1, fld54_1, fadr54_2, fld54_2, fadr54_3, fld54_3, bz54, bds54, tyOk55, agg55, cells55, tyOk56, agg56, cells56, tyOk57, agg57, cells57, zero57, fadr57_0, fld57_0, fadr57_1, fld57_1, fadr57_2, fld57_2, fadr57_3, fld57_3, bz57, bds57, tyOk58, agg58, cells58, zero58, info58, apS49, apN49, bs58_1, bs58_0, fadr58_0, fld58_0, fadr58_1, fld58_1, fadr58_2, fld58_2, fadr58_3, fld58_3, bz58, bds58, tyOk59, agg59, cells59, tyOk60, agg60, cells60, tyOk61, agg61, cells61, tyOk62, agg62, cells62, tyOk63, agg63, cells63, tyOk64, agg64, cells64, tyOk65, agg65, cells65, tyOk66, agg66, cells66, tyOk67, agg67, cells67, tyOk68, agg68, cells68, tyOk69, agg69, cells69, tyOk70, agg70, cells70, tyOk71, agg71, cells71, tyOk72, agg72, cells72, tyOk73, agg73, cells73, tyOk74, agg74, cells74, zero74, tyOk75, agg75, cells75, tyOk76, agg76, cells76, tyOk77, agg77, cells77, tyOk78, agg78, cells78, zero78, ix78, bz78, tyOk79, agg79, cells79, tyOk80, agg80, cells80, tyOk81, agg81, cells81, tyOk82, agg82, cells82, tyOk83, agg83, cells83, tyOk84, agg84, cells84, tyOk85, agg85, cells85, zero85, info85, mk85, bs85_0, bs85_1, bs85_2, bs85_3, bs85_4, bs85_5, bs85_6, bs85_7, bs85_8, bs85_10, bs85_11, bs85_12, bs85_13, tyOk86, agg86, cells86, zero86, ix86, bz86, bd86, tyOk87, agg87, cells87, tyOk88, agg88, cells88, zero88, ix88, bz88, tyOk89, agg89, cells89, tyOk90, agg90, cells90, tyOk91, agg91, cells91, tyOk92, agg92, cells92, tyOk93, agg93, cells93, tyOk94, agg94, cells94, tyOk95, agg95, cells95, tyOk96, agg96, cells96, tyOk97, agg97, cells97, tyOk98, agg98, cells98, tyOk99, agg99, cells99, tyOk100, agg100, cells100, tyOk101, agg101, cells101, tyOk102, agg102, cells102, tyOk103, agg103, cells103, tyOk104, agg104, cells104, tyOk105, agg105, cells105, tyOk106, agg106, cells106, tyOk107, agg107, cells107, tyOk108, agg108, cells108, tyOk109, agg109, cells109, zero109, fadr109_0, fld109_0, fadr109_1, fld109_1, fadr109_2, fld109_2, bz109, bds109, tyOk110, agg110, cells110, zero110, fadr110_0, fld110_0, fadr110_1, fld110_1, fadr110_2, fld110_2, bz110, bds110, tyOk111, agg111, cells111, tyOk112, agg112, cells112, tyOk113, agg113, cells113, zero113, tyOk114, agg114, cells114, zero114, fadr114_0, fld114_0, fadr114_1, fld114_1, bz114, bds114, tyOk115, agg115, cells115, zero115, fadr115_0, fld115_0, fadr115_1, fld115_1, bz115, bds115, tyOk116, agg116, cells116, tyOk117, agg117, cells117, tyOk118, agg118, cells118, tyOk119, agg119, cells119, tyOk120, agg120, cells120, tyOk121, agg121, cells121, tyOk122, agg122, cells122, tyOk123, agg123, cells123, tyOk124, agg124, cells124, tyOk125, agg125, cells125, zero125, tyOk126, agg126, cells126, tyOk127, agg127, cells127, tyOk128, agg128, cells128, tyOk129, agg129, cells129, zero129, info129, mk129, bs129_0, bs129_1, bs129_2, bs129_3, bs129_4, bs129_5, bs129_6, bs129_7, bs129_8, bs129_10, bs129_11, bs129_12, bs129_13, tyOk130, agg130, cells130, tyOk131, agg131, cells131, tyOk132, agg132, cells132, zero132, tyOk133, agg133, cells133, zero133, tyOk134, agg134, cells134, tyOk135, agg135, cells135, tyOk136, agg136, cells136, zero136, fadr136_0, fld136_0, fadr136_1, fld136_1, fadr136_2, fld136_2, fadr136_3, fld136_3, bz136, bds136, tyOk137, agg137, cells137, zero137, fadr137_0, fld137_0, fadr137_1, fld137_1, fadr137_2, fld137_2, fadr137_3, fld137_3, bz137, bds137, tyOk138, agg138, cells138, zero138, tyOk139, agg139, cells139, zero139, tyOk140, agg140, cells140, zero140, tyOk141, agg141, cells141, isU141, zero141, info141, mk141, bs141_0, bs141_1, bs141_2, bs141_3, bs141_4, bs141_5, bs141_6, bs141_7, bs141_8, bs141_10, bs141_11, bs141_12, bs141_13, tyOk142, agg142, cells142, isU142, zero142, info142, mk142, bs142_0, bs142_1, bs142_2, bs142_3, bs142_4, bs142_5, bs142_6, bs142_7, bs142_8, bs142_10, bs142_11, bs142_12, bs142_13, tyOk143, agg143, cells143, tyOk144, agg144, cells144, zero144, info144, mk144, bs144_0, bs144_1, bs144_2, bs144_3, bs144_4, bs144_5, bs144_6, bs144_7, bs144_8, bs144_10, bs144_11, bs144_12, bs144_13, tyOk145, agg145, cells145, zero145, info145, mk145, bs145_0, bs145_1, bs145_2, bs145_3, bs145_4, bs145_5, bs145_6, bs145_7, bs145_8, bs145_10, bs145_11, bs145_12, bs145_13, tyOk146, agg146, cells146, fadr146_0, fld146_0, fadr146_1, fld146_1, fadr146_2, fld146_2, fadr146_3, fld146_3, fadr146_4, fld146_4, fadr146_5, fld146_5, fadr146_6, fld146_6, fadr146_7, fld146_7, fadr146_8, fld146_8, fadr146_9, fld146_9, fadr146_10, fld146_10, tyOk147, agg147, cells147, fadr147_0, fld147_0, fadr147_1, fld147_1, fadr147_2, fld147_2, fadr147_3, fld147_3, fadr147_4, fld147_4, fadr147_5, fld147_5, fadr147_6, fld147_6, fadr147_7, fld147_7, fadr147_8, fld147_8, fadr147_9, fld147_9, fadr147_10, fld147_10]
theorem eqlPt (p : Prt) : binV Try.prog .eql 58 (.agg (pcs p)) (.agg (pcs p)) = some (.sc (.bool true)) := by
  have h1 : Try.prog.stoodInHeld 58 = false := by kernel_rfl
  have h2 : Try.prog.eqGuardType Try.prog.depth 58 = false := by kernel_rfl
  simp [binV, evBin, boolBin, pcs, eqA, h1, h2, eqF, partA, eq1, Try.underlying0, Try.underlying1, Try.underlying2, Try.underlying3, Try.underlying4, Try.underlying5, Try.underlying6, Try.underlying7, Try.underlying8, Try.underlying9, Try.underlying10, Try.underlying11, Try.underlying12, Try.underlying13, Try.underlying14, Try.underlying15, Try.underlying16, Try.underlying17, Try.underlying18, Try.underlying19, Try.underlying20, Try.underlying21, Try.underlying22, Try.underlying23, Try.underlying24, Try.underlying25, Try.underlying26, Try.underlying27, Try.underlying28, Try.underlying29, Try.underlying30, Try.underlying31, Try.underlying32, Try.underlying33, Try.underlying34, Try.underlying35, Try.underlying36, Try.underlying37, Try.underlying38, Try.underlying39, Try.underlying40, Try.underlying41, Try.underlying42, Try.underlying43, Try.underlying44, Try.underlying45, Try.underlying46, Try.underlying47, Try.underlying48, Try.underlying49, Try.underlying50, Try.underlying51, Try.underlying52, Try.underlying53, Try.underlying54, Try.underlying55, Try.underlying56, Try.underlying57, Try.underlying58, Try.underlying59, Try.underlying60, Try.underlying61, Try.underlying62, Try.underlying63, Try.underlying64, Try.underlying65, Try.underlying66, Try.underlying67, Try.underlying68, Try.underlying69, Try.underlying70, Try.underlying71, Try.underlying72, Try.underlying73, Try.underlying74, Try.underlying75, Try.underlying76, Try.underlying77, Try.underlying78, Try.underlying79, Try.underlying80, Try.underlying81, Try.underlying82, Try.underlying83, Try.underlying84, Try.underlying85, Try.underlying86, Try.underlying87, Try.underlying88, Try.underlying89, Try.underlying90, Try.underlying91, Try.underlying92, Try.underlying93, Try.underlying94, Try.underlying95, Try.underlying96, Try.underlying97, Try.underlying98, Try.underlying99, Try.underlying100, Try.underlying101, Try.underlying102, Try.underlying103, Try.underlying104, Try.underlying105, Try.underlying106, Try.underlying107, Try.underlying108, Try.underlying109, Try.underlying110, Try.underlying111, Try.underlying112, Try.underlying113, Try.underlying114, Try.underlying115, Try.underlying116, Try.underlying117, Try.underlying118, Try.underlying119, Try.underlying120, Try.underlying121, Try.underlying122, Try.underlying123, Try.underlying124, Try.underlying125, Try.underlying126, Try.underlying127, Try.underlying128, Try.underlying129, Try.underlying130, Try.underlying131, Try.underlying132, Try.underlying133, Try.underlying134, Try.underlying135, Try.underlying136, Try.underlying137, Try.underlying138, Try.underlying139, Try.underlying140, Try.underlying141, Try.underlying142, Try.underlying143, Try.underlying144, Try.underlying145, Try.underlying146, Try.underlying147, tyOk0, agg0, cells0, tyOk1, agg1, cells1, tyOk2, agg2, cells2, zero2, info2, mk2, bs2_0, bs2_1, bs2_2, bs2_3, bs2_4, bs2_5, bs2_6, bs2_7, bs2_8, bs2_10, bs2_11, bs2_12, bs2_13, tyOk3, agg3, cells3, zero3, apS26, apN26, info3, mk3, bs3_0, bs3_1, bs3_2, bs3_3, bs3_4, bs3_5, bs3_6, bs3_7, bs3_8, bs3_10, bs3_11, bs3_12, bs3_13, tyOk4, agg4, cells4, zero4, info4, mk4, bs4_0, bs4_1, bs4_2, apS52, apN52, tyOk5, agg5, cells5, isU5, zero5, apS22, apN22, apStr22, info5, mk5, bs5_0, bs5_1, bs5_2, bs5_3, bs5_4, bs5_5, bs5_6, bs5_7, bs5_8, bs5_10, bs5_11, bs5_12, bs5_13, tyOk6, agg6, cells6, isU6, zero6, info6, mk6, bs6_0, bs6_1, bs6_2, bs6_3, bs6_4, bs6_5, bs6_6, bs6_7, bs6_8, bs6_10, bs6_11, bs6_12, bs6_13, tyOk7, agg7, cells7, zero7, fadr7_0, fld7_0, fadr7_1, fld7_1, fadr7_2, fld7_2, fadr7_3, fld7_3, bz7, bds7, tyOk8, agg8, cells8, zero8, fadr8_0, fld8_0, fadr8_1, fld8_1, fadr8_2, fld8_2, fadr8_3, fld8_3, bz8, bds8, tyOk9, agg9, cells9, zero9, info9, bs9_0, bs9_1, bs9_2, bs9_3, bs9_4, bs9_5, bs9_6, bs9_8, bs9_9, bs9_10, apS125, apN125, tyOk10, agg10, cells10, zero10, info10, bs10_0, bs10_1, bs10_2, bs10_3, bs10_4, bs10_5, bs10_6, bs10_8, bs10_9, bs10_10, tyOk11, agg11, cells11, zero11, info11, bs11_0, bs11_1, bs11_2, bs11_3, bs11_4, bs11_5, bs11_6, bs11_8, bs11_9, bs11_10, tyOk12, agg12, cells12, zero12, info12, mk12, bs12_0, bs12_1, bs12_2, bs12_3, bs12_4, bs12_5, bs12_6, bs12_7, bs12_8, bs12_10, bs12_11, bs12_12, bs12_13, tyOk13, agg13, cells13, zero13, fadr13_0, fld13_0, fadr13_1, fld13_1, bz13, bds13, tyOk14, agg14, cells14, zero14, fadr14_0, fld14_0, fadr14_1, fld14_1, bz14, bds14, tyOk15, agg15, cells15, zero15, tyOk16, agg16, cells16, zero16, tyOk17, agg17, cells17, zero17, tyOk18, agg18, cells18, zero18, fadr18_0, fld18_0, bz18, bds18, tyOk19, agg19, cells19, zero19, fadr19_0, fld19_0, bz19, bds19, tyOk20, agg20, cells20, tyOk21, agg21, cells21, zero21, info21, mk21, bs21_0, bs21_1, bs21_2, bs21_3, bs21_4, bs21_5, bs21_6, bs21_7, bs21_8, bs21_10, bs21_11, bs21_12, bs21_13, tyOk22, agg22, cells22, zero22, tyOk23, agg23, cells23, tyOk24, agg24, cells24, tyOk25, agg25, cells25, tyOk26, agg26, cells26, zero26, tyOk27, agg27, cells27, tyOk28, agg28, cells28, tyOk29, agg29, cells29, zero29, info29, mk29, bs29_0, bs29_1, bs29_2, bs29_3, bs29_4, bs29_5, bs29_6, bs29_7, bs29_8, bs29_10, bs29_11, bs29_12, bs29_13, tyOk30, agg30, cells30, tyOk31, agg31, cells31, tyOk32, agg32, cells32, tyOk33, agg33, cells33, tyOk34, agg34, cells34, tyOk35, agg35, cells35, tyOk36, agg36, cells36, tyOk37, agg37, cells37, tyOk38, agg38, cells38, tyOk39, agg39, cells39, tyOk40, agg40, cells40, tyOk41, agg41, cells41, tyOk42, agg42, cells42, tyOk43, agg43, cells43, tyOk44, agg44, cells44, tyOk45, agg45, cells45, tyOk46, agg46, cells46, tyOk47, agg47, cells47, tyOk48, agg48, cells48, tyOk49, agg49, cells49, zero49, tyOk50, agg50, cells50, tyOk51, agg51, cells51, tyOk52, agg52, cells52, zero52, tyOk53, agg53, cells53, zero53, fadr53_0, fld53_0, fadr53_1, fld53_1, fadr53_2, fld53_2, fadr53_3, fld53_3, bz53, bds53, tyOk54, agg54, cells54, zero54, fadr54_0, fld54_0, fadr54_1, fld54_1, fadr54_2, fld54_2, fadr54_3, fld54_3, bz54, bds54, tyOk55, agg55, cells55, tyOk56, agg56, cells56, tyOk57, agg57, cells57, zero57, fadr57_0, fld57_0, fadr57_1, fld57_1, fadr57_2, fld57_2, fadr57_3, fld57_3, bz57, bds57, tyOk58, agg58, cells58, zero58, info58, apS49, apN49, bs58_1, bs58_0, fadr58_0, fld58_0, fadr58_1, fld58_1, fadr58_2, fld58_2, fadr58_3, fld58_3, bz58, bds58, tyOk59, agg59, cells59, tyOk60, agg60, cells60, tyOk61, agg61, cells61, tyOk62, agg62, cells62, tyOk63, agg63, cells63, tyOk64, agg64, cells64, tyOk65, agg65, cells65, tyOk66, agg66, cells66, tyOk67, agg67, cells67, tyOk68, agg68, cells68, tyOk69, agg69, cells69, tyOk70, agg70, cells70, tyOk71, agg71, cells71, tyOk72, agg72, cells72, tyOk73, agg73, cells73, tyOk74, agg74, cells74, zero74, tyOk75, agg75, cells75, tyOk76, agg76, cells76, tyOk77, agg77, cells77, tyOk78, agg78, cells78, zero78, ix78, bz78, tyOk79, agg79, cells79, tyOk80, agg80, cells80, tyOk81, agg81, cells81, tyOk82, agg82, cells82, tyOk83, agg83, cells83, tyOk84, agg84, cells84, tyOk85, agg85, cells85, zero85, info85, mk85, bs85_0, bs85_1, bs85_2, bs85_3, bs85_4, bs85_5, bs85_6, bs85_7, bs85_8, bs85_10, bs85_11, bs85_12, bs85_13, tyOk86, agg86, cells86, zero86, ix86, bz86, bd86, tyOk87, agg87, cells87, tyOk88, agg88, cells88, zero88, ix88, bz88, tyOk89, agg89, cells89, tyOk90, agg90, cells90, tyOk91, agg91, cells91, tyOk92, agg92, cells92, tyOk93, agg93, cells93, tyOk94, agg94, cells94, tyOk95, agg95, cells95, tyOk96, agg96, cells96, tyOk97, agg97, cells97, tyOk98, agg98, cells98, tyOk99, agg99, cells99, tyOk100, agg100, cells100, tyOk101, agg101, cells101, tyOk102, agg102, cells102, tyOk103, agg103, cells103, tyOk104, agg104, cells104, tyOk105, agg105, cells105, tyOk106, agg106, cells106, tyOk107, agg107, cells107, tyOk108, agg108, cells108, tyOk109, agg109, cells109, zero109, fadr109_0, fld109_0, fadr109_1, fld109_1, fadr109_2, fld109_2, bz109, bds109, tyOk110, agg110, cells110, zero110, fadr110_0, fld110_0, fadr110_1, fld110_1, fadr110_2, fld110_2, bz110, bds110, tyOk111, agg111, cells111, tyOk112, agg112, cells112, tyOk113, agg113, cells113, zero113, tyOk114, agg114, cells114, zero114, fadr114_0, fld114_0, fadr114_1, fld114_1, bz114, bds114, tyOk115, agg115, cells115, zero115, fadr115_0, fld115_0, fadr115_1, fld115_1, bz115, bds115, tyOk116, agg116, cells116, tyOk117, agg117, cells117, tyOk118, agg118, cells118, tyOk119, agg119, cells119, tyOk120, agg120, cells120, tyOk121, agg121, cells121, tyOk122, agg122, cells122, tyOk123, agg123, cells123, tyOk124, agg124, cells124, tyOk125, agg125, cells125, zero125, tyOk126, agg126, cells126, tyOk127, agg127, cells127, tyOk128, agg128, cells128, tyOk129, agg129, cells129, zero129, info129, mk129, bs129_0, bs129_1, bs129_2, bs129_3, bs129_4, bs129_5, bs129_6, bs129_7, bs129_8, bs129_10, bs129_11, bs129_12, bs129_13, tyOk130, agg130, cells130, tyOk131, agg131, cells131, tyOk132, agg132, cells132, zero132, tyOk133, agg133, cells133, zero133, tyOk134, agg134, cells134, tyOk135, agg135, cells135, tyOk136, agg136, cells136, zero136, fadr136_0, fld136_0, fadr136_1, fld136_1, fadr136_2, fld136_2, fadr136_3, fld136_3, bz136, bds136, tyOk137, agg137, cells137, zero137, fadr137_0, fld137_0, fadr137_1, fld137_1, fadr137_2, fld137_2, fadr137_3, fld137_3, bz137, bds137, tyOk138, agg138, cells138, zero138, tyOk139, agg139, cells139, zero139, tyOk140, agg140, cells140, zero140, tyOk141, agg141, cells141, isU141, zero141, info141, mk141, bs141_0, bs141_1, bs141_2, bs141_3, bs141_4, bs141_5, bs141_6, bs141_7, bs141_8, bs141_10, bs141_11, bs141_12, bs141_13, tyOk142, agg142, cells142, isU142, zero142, info142, mk142, bs142_0, bs142_1, bs142_2, bs142_3, bs142_4, bs142_5, bs142_6, bs142_7, bs142_8, bs142_10, bs142_11, bs142_12, bs142_13, tyOk143, agg143, cells143, tyOk144, agg144, cells144, zero144, info144, mk144, bs144_0, bs144_1, bs144_2, bs144_3, bs144_4, bs144_5, bs144_6, bs144_7, bs144_8, bs144_10, bs144_11, bs144_12, bs144_13, tyOk145, agg145, cells145, zero145, info145, mk145, bs145_0, bs145_1, bs145_2, bs145_3, bs145_4, bs145_5, bs145_6, bs145_7, bs145_8, bs145_10, bs145_11, bs145_12, bs145_13, tyOk146, agg146, cells146, fadr146_0, fld146_0, fadr146_1, fld146_1, fadr146_2, fld146_2, fadr146_3, fld146_3, fadr146_4, fld146_4, fadr146_5, fld146_5, fadr146_6, fld146_6, fadr146_7, fld146_7, fadr146_8, fld146_8, fadr146_9, fld146_9, fadr146_10, fld146_10, tyOk147, agg147, cells147, fadr147_0, fld147_0, fadr147_1, fld147_1, fadr147_2, fld147_2, fadr147_3, fld147_3, fadr147_4, fld147_4, fadr147_5, fld147_5, fadr147_6, fld147_6, fadr147_7, fld147_7, fadr147_8, fld147_8, fadr147_9, fld147_9, fadr147_10, fld147_10]
def pcc (p : Prt) : Reg := ⟨[.sc (.int .i64 p.i), .sc (.int .i64 p.t), .sc (.int .i64 p.f), .sc (.string p.z)], true, true⟩
def bxr (i t : Int) (z : ByteArray) (x : AV) : Reg := ⟨[.sc (.int .i64 i), .sc (.int .i64 t), .sc (.string z), x], true, true⟩
theorem lawFnPiecesTold (H : AHeap) (x : AV) (L : List Int) (hL0 : L.length ≤ 9223372036854775807) (hx : IsL H x .u8 L) : ∃ H', Sound Try.prog 7 [x] H (.sc (.bool true)) H' := by
  have key : ∃ v H', Sound Try.prog 7 [x] H v H' ∧ v = .sc (.bool true) := by
    refine Sound.runP (args := [x]) 210 [.tmp 2] Try.func7 rfl rfl rfl rfl (by simp) (fun v Z => v = .sc (.bool true)) ?_
    have hb := bigS hx
    by_cases hL : L.length ≤ 1048576
    · rw [bigNo hL] at hb
      replace hL : L.length ≤ 4000000 := by omega
      obtain ⟨i0, s0, z0, Z1, hz0, a1, e1⟩ := drawCutParts hx hL
      obtain ⟨l, cb, X, Y, Za, Zb, hl, a2, a3, ea, eb, iX, iY⟩ := cutBoth i0 z0 s0 (by omega) Z1
      have E0 := (e1.trans ea).trans eb
      have lX := fun e => iX.len e
      have lY := fun e => iY.len e
      simp -implicitDefEqProofs only [↓w_seq, ↓w_region, ↓ops_cons, ↓g_assign, ↓ops_nil, ev_const, of_bool, ↓g_move, Nat.reduceLT, ev_tab, ne_eq, reduceCtorEq, not_false_eq_true, upd_ne, par0]
      refine call1S (by simp -implicitDefEqProofs only [List.map_cons, Nat.reduceLT, ev_tab, upd_eq, List.map_nil] <;> rfl) hb ?_
      simp -implicitDefEqProofs only [↓ops_nil, ↓w_cond, Nat.reduceLT, ev_tab, upd_eq, ↓w_seq, ↓w_region, ↓ops_cons, ↓g_assign, ↓w_ret, ev_const, of_bool, retP_1, res_tmp, onS_some, ↓w_skip, ↓g_move, ne_eq, reduceCtorEq, not_false_eq_true, upd_ne, par0, onB_false]
      refine call1S (by simp -implicitDefEqProofs only [List.map_cons, Nat.reduceLT, ev_tab, upd_eq, List.map_nil] <;> rfl) a1 ?_
      simp -implicitDefEqProofs only [↓ops_cons, ↓g_move, ↓g_extract, Nat.reduceLT, ev_tab, upd_eq, ext_0, ne_eq, Nat.reduceEqDiff, not_false_eq_true, upd_ne, ext_1, ext_2, ↓g_assign, ↓ops_nil, ↓w_seq, ↓w_region, onS_some]
      refine call1S (by simp -implicitDefEqProofs only [List.map_cons, Nat.reduceLT, ev_tab, ne_eq, Nat.reduceEqDiff, not_false_eq_true, upd_ne, upd_eq, List.map_nil] <;> rfl) a2 ?_
      simp -implicitDefEqProofs only [↓ops_cons, ↓g_move, ↓g_extract, Nat.reduceLT, ev_tab, upd_eq, ext_0, ne_eq, Nat.reduceEqDiff, not_false_eq_true, upd_ne, ext_1, ↓g_assign, ↓ops_nil, ↓w_seq, ↓w_region, onS_some]
      refine call1S (by simp -implicitDefEqProofs only [List.map_cons, Nat.reduceLT, ev_tab, ne_eq, Nat.reduceEqDiff, not_false_eq_true, upd_ne, upd_eq, List.map_nil] <;> rfl) a3 ?_
      simp -implicitDefEqProofs only [↓ops_cons, ↓g_move, ↓g_extract, Nat.reduceLT, ev_tab, upd_eq, ext_0, ne_eq, Nat.reduceEqDiff, not_false_eq_true, upd_ne, ext_1, ↓g_assign, ↓ops_nil, ↓w_seq, ↓w_region, ↓w_block, ev_const, of_int, onS_some]
      refine w_loop (ι := Nat) (fun i s => ∃ T : Nat → AV, s = ⟨tab 210 T, Zb⟩ ∧ i ≤ l.length ∧ T 0 = x ∧ T 6 = X ∧ T 7 = .sc (.bool cb) ∧ T 8 = Y ∧ T 9 = .sc (.bool cb) ∧ T 10 = .sc (.int .i64 i)) (fun i => l.length - i) ?_ (i := 0) ?_
      · rintro i s ⟨T, rfl, b1, t0, t6, t7, t8, t9, t10⟩
        by_cases h : i < l.length
        · have k1 : (i : Int) < l.length := by omega
          have k2 : (0 : Int) ≤ i := by omega
          have e1 : IntKind.i64.wrap ((i : Int) + 1) = i + 1 := w64 (by omega) (by omega)
          simp -implicitDefEqProofs only [↓w_seq, ↓w_region, ↓ops_cons, ↓g_move, ↓g_len, Try.underlying49, Nat.reduceLT, ev_tab, t10, ne_eq, Nat.reduceEqDiff, not_false_eq_true, upd_ne, t6, upd_eq, lX, ↓g_binOp, ↓ops_nil, ↓w_cond, ↓w_skip, ↓w_block, ↓w_exit, reduceCtorEq, if_true, onS_some, b_lss, k1, decide_true, onB_true]
          refine drawn [(9, 0), (13, 0)] follows (by kernel_rfl) (by kernel_rfl) ?_
          obtain ⟨r, o, hXr, hr⟩ := iX.get h
          obtain ⟨q, o2, hYr, hq⟩ := iY.get h
          have ha : l[i]? = some l[i] := List.getElem?_eq_getElem h
          generalize l[i] = p at *
          have rr := fun o => rd_row pcsE ha o
          have np := neqPt p
          have l1 := lX
          have l2 := lY
          rw [hXr] at t6 l1
          rw [hYr] at t8 l2
          simp -implicitDefEqProofs only [↓dops_cons, ↓g_move, ↓g_len, Try.underlying49, Nat.reduceLT, ev_tab, ne_eq, Nat.reduceEqDiff, not_false_eq_true, upd_ne, t6, upd_eq, len_sl, t8, ↓g_binOp, onS_some, b_neq, decide_true, Bool.not_true, yielded_tab, dstAt_s, dstAt_0, ybv_some, boolOf_b, ↓g_guard_t, t10, ↓g_indexAddr, adr_sl, k2, k1, cells58, tyOk58, and_self, Int.toNat_natCast, Nat.zero_add, if_true, ↓g_load, ↓g_pick, ev_const, of_bool, pick_b, Bool.false_eq_true, if_false, ↓dops_p, ↓w_cond, ↓w_seq, ↓w_region, ↓ops_cons, ↓g_assign, ↓ops_nil, ↓w_ret, retP_1, res_tmp, ↓w_skip, of_int, b_add, rd_def, agg58, hq, rr, hr, np, onB_false]
          refine ⟨pairs_cons (same_calm (by kernel_rfl)) (pairs_cons (same_calm (by kernel_rfl)) (pairs_nil)), ?_⟩
          simp -implicitDefEqProofs only [e1]
          refine ⟨i + 1, by omega, _, rfl, by omega, ?_, ?_, ?_, ?_, ?_, ?_⟩ <;> simp -implicitDefEqProofs only [hXr, ne_eq, reduceCtorEq, not_false_eq_true, upd_ne, t0, Nat.reduceEqDiff, t6, t7, t8, hYr, t9, upd_eq] <;> rfl
        · have k1 : ¬ (i : Int) < l.length := by omega
          obtain ⟨p1, Z2, hp1, c1, e2⟩ := drawPartText (E0.isL hx) hL
          have hpc1 : pcs p1 = [.sc (.int .i64 p1.i), .sc (.int .i64 p1.t), .sc (.int .i64 p1.f), .sc (.string p1.z)] := rfl
          obtain ⟨u1, ub, hu1, c2, c3⟩ := ptBoth p1 (by omega)
          obtain ⟨R1, hR1⟩ : ∃ C, C = pcc p1 := ⟨_, rfl⟩
          have x2 := Ext.more Z2 [R1]
          have f2 : (Z2 ++ [R1])[Z2.length]? = some ⟨[.sc (.int .i64 p1.i), .sc (.int .i64 p1.t), .sc (.int .i64 p1.f), .sc (.string p1.z)], true, true⟩ := by rw [hR1]; exact at_end _ _
          have E2 := (E0.trans e2).trans x2
          obtain ⟨u3, Z3, hu3, c4, e3⟩ := drawReadPart (E2.isL hx) hL
          obtain ⟨p2, pb, c5, c6⟩ := rpBoth u3 (by omega)
          have hpc2 : pcs p2 = [.sc (.int .i64 p2.i), .sc (.int .i64 p2.t), .sc (.int .i64 p2.f), .sc (.string p2.z)] := rfl
          obtain ⟨R2, hR2⟩ : ∃ C, C = pcc p2 := ⟨_, rfl⟩
          have x3 := Ext.more Z3 [R2, R2]
          have f3 : (Z3 ++ [R2, R2])[Z3.length]? = some ⟨[.sc (.int .i64 p2.i), .sc (.int .i64 p2.t), .sc (.int .i64 p2.f), .sc (.string p2.z)], true, true⟩ := by rw [hR2]; exact hap_0 _ _
          have g3 : (Z3 ++ [R2, R2])[Z3.length + 1]? = some ⟨[.sc (.int .i64 p2.i), .sc (.int .i64 p2.t), .sc (.int .i64 p2.f), .sc (.string p2.z)], true, true⟩ := by rw [hR2]; exact hap_k _ _ 1
          have E3 := (E2.trans e3).trans x3
          obtain ⟨bi, bt, bT, bl, bX, p4, Z4, h41, h42, h43, d1, e4, d2⟩ := drawBoxPut (E3.isL hx) hL
          have bX1 := d2.one
          have hpc4 : pcs p4 = [.sc (.int .i64 p4.i), .sc (.int .i64 p4.t), .sc (.int .i64 p4.f), .sc (.string p4.z)] := rfl
          obtain ⟨B4, hB4⟩ : ∃ C, C = bxr bi bt bT bX := ⟨_, rfl⟩
          obtain ⟨R4, hR4⟩ : ∃ C, C = pcc p4 := ⟨_, rfl⟩
          have x4 := Ext.more Z4 [B4, R4]
          have f4 : (Z4 ++ [B4, R4])[Z4.length]? = some ⟨[.sc (.int .i64 bi), .sc (.int .i64 bt), .sc (.string bT), bX], true, true⟩ := by rw [hB4]; exact hap_0 _ _
          have g4 : (Z4 ++ [B4, R4])[Z4.length + 1]? = some ⟨[.sc (.int .i64 p4.i), .sc (.int .i64 p4.t), .sc (.int .i64 p4.f), .sc (.string p4.z)], true, true⟩ := by rw [hR4]; exact hap_k _ _ 1
          have E4 := (E3.trans e4).trans x4
          obtain ⟨v5, l5, n5, h51, h52, d3, d4⟩ := bpS (x4.isB d2) (by omega) bi bt bT (by omega) p4 (by omega)
          obtain ⟨X5, Z5, d5, e5, d6⟩ := d3 _ (Ext.refl _)
          have X51 := d6.one
          obtain ⟨B5, hB5⟩ : ∃ C, C = bxr bi bt v5 X5 := ⟨_, rfl⟩
          have x5 := Ext.more Z5 [B5]
          have f5 : (Z5 ++ [B5])[Z5.length]? = some ⟨[.sc (.int .i64 bi), .sc (.int .i64 bt), .sc (.string v5), X5], true, true⟩ := by rw [hB5]; exact at_end _ _
          have y5 := e5.trans x5
          obtain ⟨X6, Z6, d7, e6, d8⟩ := d4 _ y5
          have X61 := d8.one
          obtain ⟨B6, hB6⟩ : ∃ C, C = bxr bi bt v5 X6 := ⟨_, rfl⟩
          have x6 := Ext.more Z6 [B6]
          have f6 : (Z6 ++ [B6])[Z6.length]? = some ⟨[.sc (.int .i64 bi), .sc (.int .i64 bt), .sc (.string v5), X6], true, true⟩ := by rw [hB6]; exact at_end _ _
          have y6 := e6.trans x6
          have w6 := (((e3.trans x3).trans (e4.trans x4)).trans y5).trans y6
          obtain ⟨ci, ct, cu, cl, cb2, X7, _, Z7, _, h71, g1, g2, e7, g3'⟩ := boBoth p1 (by omega) (Z6 ++ [B6])
          have X71 := g3'.one
          obtain ⟨B7, hB7⟩ : ∃ C, C = bxr ci ct cu X7 := ⟨_, rfl⟩
          have x7 := Ext.more Z7 [B7]
          have f7 : (Z7 ++ [B7])[Z7.length]? = some ⟨[.sc (.int .i64 ci), .sc (.int .i64 ct), .sc (.string cu), X7], true, true⟩ := by rw [hB7]; exact at_end _ _
          have y7 := e7.trans x7
          obtain ⟨X8, Z8, g4', e8, g5⟩ := g2 (Z7 ++ [B7])
          have X81 := g5.one
          obtain ⟨B8, hB8⟩ : ∃ C, C = bxr ci ct cu X8 := ⟨_, rfl⟩
          have x8 := Ext.more Z8 [B8]
          have f8 : (Z8 ++ [B8])[Z8.length]? = some ⟨[.sc (.int .i64 ci), .sc (.int .i64 ct), .sc (.string cu), X8], true, true⟩ := by rw [hB8]; exact at_end _ _
          have y8 := e8.trans x8
          have E8 := (((E4.trans y5).trans y6).trans y7).trans y8
          obtain ⟨wi, wt, wT, wl, wX, Z9, h91, k1', e9, k2'⟩ := drawBoxWhole (E8.isL hx) hL
          have wX1 := k2'.one
          obtain ⟨B9, hB9⟩ : ∃ C, C = bxr wi wt wT wX := ⟨_, rfl⟩
          have x9 := Ext.more Z9 [B9]
          have f9 : (Z9 ++ [B9])[Z9.length]? = some ⟨[.sc (.int .i64 wi), .sc (.int .i64 wt), .sc (.string wT), wX], true, true⟩ := by rw [hB9]; exact at_end _ _
          have y9 := e9.trans x9
          obtain ⟨wu, wb, k3, k4⟩ := bwBoth (x9.isB k2') (by omega) wi wt wT
          obtain ⟨Z10, k5, e10⟩ := k3 _ (Ext.refl _)
          obtain ⟨Z11, k6, e11⟩ := k4 _ e10
          have y11 := (y9.trans e10).trans e11
          -- at the last region
          have q1 := ((w6.trans (y7.trans y8)).trans y11).at f2
          have v4 := (((e4.trans x4).trans (y5.trans y6)).trans (y7.trans y8)).trans y11
          have q2 := v4.at f3
          have q3 := v4.at g3
          have q5 := ((y6.trans (y7.trans y8)).trans y11).at f5
          have q6 := ((y7.trans y8).trans y11).at f6
          have q7 := (y8.trans y11).at f7
          have q8 := y11.at f8
          have m5 := (((x5.trans y6).trans (y7.trans y8)).trans y11).isB d6
          have m6 := ((x6.trans (y7.trans y8)).trans y11).isB d8
          have m7 := ((x7.trans y8).trans y11).isB g3'
          have m8 := (x8.trans y11).isB g5
          obtain ⟨Z12, j1, j2⟩ := sameBoxS m5 m6 (by omega) bi bt v5
          obtain ⟨Z13, j3, j4⟩ := sameBoxS (j2.isB m7) (j2.isB m8) (by omega) ci ct cu
          obtain ⟨ob, j5, j6⟩ := pcBoth p1 (by omega)
          have q11 := (j2.trans j4).at q1
          have q72 := j2.at q7
          have q82 := j2.at q8
          have eq2 := eqlPt p2
          rw [hpc2] at eq2
          rw [hpc1] at c1 c2 c3 g1 g4' j5 j6
          rw [hpc2] at c5 c6
          rw [hpc4] at d1 d5 d7
          unfold bx at d1 d5 d7 g1 g4' k1' k5 k6 j1 j3
          simp -implicitDefEqProofs only [↓w_seq, ↓w_region, ↓ops_cons, ↓g_move, ↓g_len, Try.underlying49, Nat.reduceLT, ev_tab, t10, ne_eq, Nat.reduceEqDiff, not_false_eq_true, upd_ne, t6, upd_eq, lX, ↓g_binOp, ↓ops_nil, ↓w_cond, ↓w_skip, ↓w_block, ↓w_exit, reduceCtorEq, t0, if_true, onS_some, b_lss, k1, decide_false, onB_false]
          refine call1S (by simp -implicitDefEqProofs only [List.map_cons, Nat.reduceLT, ev_tab, upd_eq, List.map_nil] <;> rfl) c1 ?_
          simp -implicitDefEqProofs only [↓ops_cons, ↓g_alloc, zero58, Option.map_some, ↓g_store, Nat.reduceLT, ev_tab, upd_eq, ne_eq, Nat.reduceEqDiff, not_false_eq_true, upd_ne, ↓ops_nil, ↓w_seq, ↓w_region, ↓g_load, alK_some, List.all_cons, one_int, one_str, List.all_nil, Bool.and_self, wr_def, tyOk58, cells58, hap_0, List.getElem?_cons_zero, wr_c, cells_agg, List.length_cons, List.length_nil, Nat.zero_add, Nat.reduceAdd, Nat.le_refl, and_self, ovr_m, ovr_n, hset_0, List.set_cons_zero, if_true, rd_def, agg58, onS_some, rd_aggc, List.drop_zero, List.take_succ_cons, List.take_zero, true_and]
          rw [← pcc, ← hR1]
          try simp -implicitDefEqProofs only [↓w_seq, ↓w_skip, ↓w_ret, ↓w_exit, ↓w_block, ↓w_cond, ↓w_region, ↓ops_nil, ↓ops_cons, ↓dops_0, ↓dops_p, ↓dops_cons, ↓g_move, ↓g_assign, ↓g_binOp, ↓g_unOp, ↓g_pick, ↓g_len, ↓g_index, ↓g_indexAddr, ↓g_slice, ↓g_convert, ↓g_load, ↓g_store, ↓g_extract, ↓g_nilCheck, ↓g_fieldT, ↓g_fieldAddrT, of_agg, rd_aggc, rd_onec, wr_c, cells_int, cells_str, cells_bool, cells_nil, cells_sl, cells_ptr, cells_agg, one_int, one_str, one_bool, one_nil, one_sl, one_ptr, over_0, over_s, List.all_cons, List.all_nil, Bool.and_true, Bool.and_self, List.getElem?_nil, List.drop_succ_cons, List.drop_nil, ↓g_guard_t, ↓g_guard_f, ↓g_alloc, ↓g_box, ↓g_buildSlice, ↓g_makeSlice, ↓g_buildV, rdA, wrA, ints_one, List.length_replicate, bools_one, strs_one, rd_bools, rd_strs, wr_bools, wr_strs, at_bools, at_strs, ap_bools, ap_boolsN, ap_strs, ap_strsN, ↓g_append, src_sl, src_nil, src_str, ap_ints, ap_intsN, kill_len, kill_0, kill_s, bnd_none, bnd_int, cut_str, cutS_some, cut_sl, cutL_some, bits_i64, bits_u32, bits_u8, List.getD_cons_zero, List.getD_cons_succ, at_end, at_a, at_b, yielded_tab, dstAt_0, dstAt_s, ybv_some, boolOf_b, ext_0, ext_1, ext_2, ext_3, alK_some, ev_tab, ev_const, upd_eq, upd_ne, par0, par1, par2, par3, par4, par5, of_int, of_str, of_bool, len_str, len_arr, len_sl, idx_str, adr_sl, adr_arr, c_int, c_str, c_bytes, c_text, pick_b, onS_some, onS_ite, onS_not, b_add, b_sub, b_mul, b_and, b_or, b_xor, b_eql, b_neq, b_lss, b_leq, b_gtr, b_geq, b_shl, b_shr, b_quo, b_rem, t_add, t_eql, t_neq, v_eql, v_neq, b_andNot, u_not, onB_true, onB_false, onB_dec, onB_not, ret_cell, ret_ct, retP_0, retP_1, retP_2, retP_3, res_tmp, res_cell, ret_one, ret_two, ret_three, ret_none, List.set_set, if_true, if_false, ite_true, ite_false, List.map_cons, List.map_nil, Option.map_some, Option.map_none, List.toList_toArray, rd_def, rd_ints, wr_def, wr_ints, at_def, at_ints, bytes_ints, bytesA_ints, ints_set, nums_len, List.length_nil, List.length_cons, List.length_set, List.length_append, List.nil_append, List.cons_append, List.getElem?_cons_zero, List.getElem?_cons_succ, List.set_cons_zero, List.set_cons_succ, List.drop_zero, List.take_succ_cons, List.take_zero, List.take_length, Option.bind_some, true_and, and_true, Nat.zero_add, Nat.mul_one, Int.toNat_zero, Int.reduceToNat, Int.reduceAdd, Int.reduceSub, Int.reduceMul, Int.reduceNeg, Nat.reduceAdd, Nat.reduceSub, Nat.reduceMul, Nat.reducePow, Nat.min_eq_left, Int.reducePow, Nat.le_refl, Int.cast_ofNat_Int, Nat.reduceLT, Nat.reduceLeDiff, Nat.reduceEqDiff, Int.reduceLE, Int.reduceLT, Int.reduceEq, ne_eq, not_false_eq_true, not_true_eq_false, reduceCtorEq, decide_true, decide_false, and_self, and_false, false_and, Bool.not_true, Bool.not_false, Try.underlying0, Try.underlying1, Try.underlying2, Try.underlying3, Try.underlying4, Try.underlying5, Try.underlying6, Try.underlying7, Try.underlying8, Try.underlying9, Try.underlying10, Try.underlying11, Try.underlying12, Try.underlying13, Try.underlying14, Try.underlying15, Try.underlying16, Try.underlying17, Try.underlying18, Try.underlying19, Try.underlying20, Try.underlying21, Try.underlying22, Try.underlying23, Try.underlying24, Try.underlying25, Try.underlying26, Try.underlying27, Try.underlying28, Try.underlying29, Try.underlying30, Try.underlying31, Try.underlying32, Try.underlying33, Try.underlying34, Try.underlying35, Try.underlying36, Try.underlying37, Try.underlying38, Try.underlying39, Try.underlying40, Try.underlying41, Try.underlying42, Try.underlying43, Try.underlying44, Try.underlying45, Try.underlying46, Try.underlying47, Try.underlying48, Try.underlying49, Try.underlying50, Try.underlying51, Try.underlying52, Try.underlying53, Try.underlying54, Try.underlying55, Try.underlying56, Try.underlying57, Try.underlying58, Try.underlying59, Try.underlying60, Try.underlying61, Try.underlying62, Try.underlying63, Try.underlying64, Try.underlying65, Try.underlying66, Try.underlying67, Try.underlying68, Try.underlying69, Try.underlying70, Try.underlying71, Try.underlying72, Try.underlying73, Try.underlying74, Try.underlying75, Try.underlying76, Try.underlying77, Try.underlying78, Try.underlying79, Try.underlying80, Try.underlying81, Try.underlying82, Try.underlying83, Try.underlying84, Try.underlying85, Try.underlying86, Try.underlying87, Try.underlying88, Try.underlying89, Try.underlying90, Try.underlying91, Try.underlying92, Try.underlying93, Try.underlying94, Try.underlying95, Try.underlying96, Try.underlying97, Try.underlying98, Try.underlying99, Try.underlying100, Try.underlying101, Try.underlying102, Try.underlying103, Try.underlying104, Try.underlying105, Try.underlying106, Try.underlying107, Try.underlying108, Try.underlying109, Try.underlying110, Try.underlying111, Try.underlying112, Try.underlying113, Try.underlying114, Try.underlying115, Try.underlying116, Try.underlying117, Try.underlying118, Try.underlying119, Try.underlying120, Try.underlying121, Try.underlying122, Try.underlying123, Try.underlying124, Try.underlying125, Try.underlying126, Try.underlying127, Try.underlying128, Try.underlying129, Try.underlying130, Try.underlying131, Try.underlying132, Try.underlying133, Try.underlying134, Try.underlying135, Try.underlying136, Try.underlying137, Try.underlying138, Try.underlying139, Try.underlying140, Try.underlying141, Try.underlying142, Try.underlying143, Try.underlying144, Try.underlying145, Try.underlying146, Try.underlying147, tyOk0, agg0, cells0, tyOk1, agg1, cells1, tyOk2, agg2, cells2, zero2, info2, mk2, bs2_0, bs2_1, bs2_2, bs2_3, bs2_4, bs2_5, bs2_6, bs2_7, bs2_8, bs2_10, bs2_11, bs2_12, bs2_13, tyOk3, agg3, cells3, zero3, apS26, apN26, info3, mk3, bs3_0, bs3_1, bs3_2, bs3_3, bs3_4, bs3_5, bs3_6, bs3_7, bs3_8, bs3_10, bs3_11, bs3_12, bs3_13, tyOk4, agg4, cells4, zero4, info4, mk4, bs4_0, bs4_1, bs4_2, apS52, apN52, tyOk5, agg5, cells5, isU5, zero5, apS22, apN22, apStr22, info5, mk5, bs5_0, bs5_1, bs5_2, bs5_3, bs5_4, bs5_5, bs5_6, bs5_7, bs5_8, bs5_10, bs5_11, bs5_12, bs5_13, tyOk6, agg6, cells6, isU6, zero6, info6, mk6, bs6_0, bs6_1, bs6_2, bs6_3, bs6_4, bs6_5, bs6_6, bs6_7, bs6_8, bs6_10, bs6_11, bs6_12, bs6_13, tyOk7, agg7, cells7, zero7, fadr7_0, fld7_0, fadr7_1, fld7_1, fadr7_2, fld7_2, fadr7_3, fld7_3, bz7, bds7, tyOk8, agg8, cells8, zero8, fadr8_0, fld8_0, fadr8_1, fld8_1, fadr8_2, fld8_2, fadr8_3, fld8_3, bz8, bds8, tyOk9, agg9, cells9, zero9, info9, bs9_0, bs9_1, bs9_2, bs9_3, bs9_4, bs9_5, bs9_6, bs9_8, bs9_9, bs9_10, apS125, apN125, tyOk10, agg10, cells10, zero10, info10, bs10_0, bs10_1, bs10_2, bs10_3, bs10_4, bs10_5, bs10_6, bs10_8, bs10_9, bs10_10, tyOk11, agg11, cells11, zero11, info11, bs11_0, bs11_1, bs11_2, bs11_3, bs11_4, bs11_5, bs11_6, bs11_8, bs11_9, bs11_10, tyOk12, agg12, cells12, zero12, info12, mk12, bs12_0, bs12_1, bs12_2, bs12_3, bs12_4, bs12_5, bs12_6, bs12_7, bs12_8, bs12_10, bs12_11, bs12_12, bs12_13, tyOk13, agg13, cells13, zero13, fadr13_0, fld13_0, fadr13_1, fld13_1, bz13, bds13, tyOk14, agg14, cells14, zero14, fadr14_0, fld14_0, fadr14_1, fld14_1, bz14, bds14, tyOk15, agg15, cells15, zero15, tyOk16, agg16, cells16, zero16, tyOk17, agg17, cells17, zero17, tyOk18, agg18, cells18, zero18, fadr18_0, fld18_0, bz18, bds18, tyOk19, agg19, cells19, zero19, fadr19_0, fld19_0, bz19, bds19, tyOk20, agg20, cells20, tyOk21, agg21, cells21, zero21, info21, mk21, bs21_0, bs21_1, bs21_2, bs21_3, bs21_4, bs21_5, bs21_6, bs21_7, bs21_8, bs21_10, bs21_11, bs21_12, bs21_13, tyOk22, agg22, cells22, zero22, tyOk23, agg23, cells23, tyOk24, agg24, cells24, tyOk25, agg25, cells25, tyOk26, agg26, cells26, zero26, tyOk27, agg27, cells27, tyOk28, agg28, cells28, tyOk29, agg29, cells29, zero29, info29, mk29, bs29_0, bs29_1, bs29_2, bs29_3, bs29_4, bs29_5, bs29_6, bs29_7, bs29_8, bs29_10, bs29_11, bs29_12, bs29_13, tyOk30, agg30, cells30, tyOk31, agg31, cells31, tyOk32, agg32, cells32, tyOk33, agg33, cells33, tyOk34, agg34, cells34, tyOk35, agg35, cells35, tyOk36, agg36, cells36, tyOk37, agg37, cells37, tyOk38, agg38, cells38, tyOk39, agg39, cells39, tyOk40, agg40, cells40, tyOk41, agg41, cells41, tyOk42, agg42, cells42, tyOk43, agg43, cells43, tyOk44, agg44, cells44, tyOk45, agg45, cells45, tyOk46, agg46, cells46, tyOk47, agg47, cells47, tyOk48, agg48, cells48, tyOk49, agg49, cells49, zero49, tyOk50, agg50, cells50, tyOk51, agg51, cells51, tyOk52, agg52, cells52, zero52, tyOk53, agg53, cells53, zero53, fadr53_0, fld53_0, fadr53_1, fld53_1, fadr53_2, fld53_2, fadr53_3, fld53_3, bz53, bds53, tyOk54, agg54, cells54, zero54, fadr54_0, fld54_0, fadr54_1, fld54_1, fadr54_2, fld54_2, fadr54_3, fld54_3, bz54, bds54, tyOk55, agg55, cells55, tyOk56, agg56, cells56, tyOk57, agg57, cells57, zero57, fadr57_0, fld57_0, fadr57_1, fld57_1, fadr57_2, fld57_2, fadr57_3, fld57_3, bz57, bds57, tyOk58, agg58, cells58, zero58, info58, apS49, apN49, bs58_1, bs58_0, fadr58_0, fld58_0, fadr58_1, fld58_1, fadr58_2, fld58_2, fadr58_3, fld58_3, bz58, bds58, tyOk59, agg59, cells59, tyOk60, agg60, cells60, tyOk61, agg61, cells61, tyOk62, agg62, cells62, tyOk63, agg63, cells63, tyOk64, agg64, cells64, tyOk65, agg65, cells65, tyOk66, agg66, cells66, tyOk67, agg67, cells67, tyOk68, agg68, cells68, tyOk69, agg69, cells69, tyOk70, agg70, cells70, tyOk71, agg71, cells71, tyOk72, agg72, cells72, tyOk73, agg73, cells73, tyOk74, agg74, cells74, zero74, tyOk75, agg75, cells75, tyOk76, agg76, cells76, tyOk77, agg77, cells77, tyOk78, agg78, cells78, zero78, ix78, bz78, tyOk79, agg79, cells79, tyOk80, agg80, cells80, tyOk81, agg81, cells81, tyOk82, agg82, cells82, tyOk83, agg83, cells83, tyOk84, agg84, cells84, tyOk85, agg85, cells85, zero85, info85, mk85, bs85_0, bs85_1, bs85_2, bs85_3, bs85_4, bs85_5, bs85_6, bs85_7, bs85_8, bs85_10, bs85_11, bs85_12, bs85_13, tyOk86, agg86, cells86, zero86, ix86, bz86, bd86, tyOk87, agg87, cells87, tyOk88, agg88, cells88, zero88, ix88, bz88, tyOk89, agg89, cells89, tyOk90, agg90, cells90, tyOk91, agg91, cells91, tyOk92, agg92, cells92, tyOk93, agg93, cells93, tyOk94, agg94, cells94, tyOk95, agg95, cells95, tyOk96, agg96, cells96, tyOk97, agg97, cells97, tyOk98, agg98, cells98, tyOk99, agg99, cells99, tyOk100, agg100, cells100, tyOk101, agg101, cells101, tyOk102, agg102, cells102, tyOk103, agg103, cells103, tyOk104, agg104, cells104, tyOk105, agg105, cells105, tyOk106, agg106, cells106, tyOk107, agg107, cells107, tyOk108, agg108, cells108, tyOk109, agg109, cells109, zero109, fadr109_0, fld109_0, fadr109_1, fld109_1, fadr109_2, fld109_2, bz109, bds109, tyOk110, agg110, cells110, zero110, fadr110_0, fld110_0, fadr110_1, fld110_1, fadr110_2, fld110_2, bz110, bds110, tyOk111, agg111, cells111, tyOk112, agg112, cells112, tyOk113, agg113, cells113, zero113, tyOk114, agg114, cells114, zero114, fadr114_0, fld114_0, fadr114_1, fld114_1, bz114, bds114, tyOk115, agg115, cells115, zero115, fadr115_0, fld115_0, fadr115_1, fld115_1, bz115, bds115, tyOk116, agg116, cells116, tyOk117, agg117, cells117, tyOk118, agg118, cells118, tyOk119, agg119, cells119, tyOk120, agg120, cells120, tyOk121, agg121, cells121, tyOk122, agg122, cells122, tyOk123, agg123, cells123, tyOk124, agg124, cells124, tyOk125, agg125, cells125, zero125, tyOk126, agg126, cells126, tyOk127, agg127, cells127, tyOk128, agg128, cells128, tyOk129, agg129, cells129, zero129, info129, mk129, bs129_0, bs129_1, bs129_2, bs129_3, bs129_4, bs129_5, bs129_6, bs129_7, bs129_8, bs129_10, bs129_11, bs129_12, bs129_13, tyOk130, agg130, cells130, tyOk131, agg131, cells131, tyOk132, agg132, cells132, zero132, tyOk133, agg133, cells133, zero133, tyOk134, agg134, cells134, tyOk135, agg135, cells135, tyOk136, agg136, cells136, zero136, fadr136_0, fld136_0, fadr136_1, fld136_1, fadr136_2, fld136_2, fadr136_3, fld136_3, bz136, bds136, tyOk137, agg137, cells137, zero137, fadr137_0, fld137_0, fadr137_1, fld137_1, fadr137_2, fld137_2, fadr137_3, fld137_3, bz137, bds137, tyOk138, agg138, cells138, zero138, tyOk139, agg139, cells139, zero139, tyOk140, agg140, cells140, zero140, tyOk141, agg141, cells141, isU141, zero141, info141, mk141, bs141_0, bs141_1, bs141_2, bs141_3, bs141_4, bs141_5, bs141_6, bs141_7, bs141_8, bs141_10, bs141_11, bs141_12, bs141_13, tyOk142, agg142, cells142, isU142, zero142, info142, mk142, bs142_0, bs142_1, bs142_2, bs142_3, bs142_4, bs142_5, bs142_6, bs142_7, bs142_8, bs142_10, bs142_11, bs142_12, bs142_13, tyOk143, agg143, cells143, tyOk144, agg144, cells144, zero144, info144, mk144, bs144_0, bs144_1, bs144_2, bs144_3, bs144_4, bs144_5, bs144_6, bs144_7, bs144_8, bs144_10, bs144_11, bs144_12, bs144_13, tyOk145, agg145, cells145, zero145, info145, mk145, bs145_0, bs145_1, bs145_2, bs145_3, bs145_4, bs145_5, bs145_6, bs145_7, bs145_8, bs145_10, bs145_11, bs145_12, bs145_13, tyOk146, agg146, cells146, fadr146_0, fld146_0, fadr146_1, fld146_1, fadr146_2, fld146_2, fadr146_3, fld146_3, fadr146_4, fld146_4, fadr146_5, fld146_5, fadr146_6, fld146_6, fadr146_7, fld146_7, fadr146_8, fld146_8, fadr146_9, fld146_9, fadr146_10, fld146_10, tyOk147, agg147, cells147, fadr147_0, fld147_0, fadr147_1, fld147_1, fadr147_2, fld147_2, fadr147_3, fld147_3, fadr147_4, fld147_4, fadr147_5, fld147_5, fadr147_6, fld147_6, fadr147_7, fld147_7, fadr147_8, fld147_8, fadr147_9, fld147_9, fadr147_10, fld147_10, f2]
          refine call1 (by simp -implicitDefEqProofs only [List.map_cons, Nat.reduceLT, ev_tab, upd_eq, List.map_nil] <;> rfl) c2 ?_
          try simp -implicitDefEqProofs only [↓ops_cons, ↓g_move, ↓g_extract, Nat.reduceLT, ev_tab, upd_eq, ext_0, ne_eq, Nat.reduceEqDiff, not_false_eq_true, upd_ne, ext_1, ↓g_assign, ↓ops_nil, ↓w_seq, ↓w_region, ↓g_load, rd_def, tyOk58, agg58, cells58, f2, rd_aggc, Nat.zero_add, List.length_cons, List.length_nil, Nat.reduceAdd, Nat.le_refl, List.drop_zero, List.take_succ_cons, List.take_zero, if_true, onS_some]
          refine call1 (by simp -implicitDefEqProofs only [List.map_cons, Nat.reduceLT, ev_tab, upd_eq, List.map_nil] <;> rfl) c3 ?_
          try simp -implicitDefEqProofs only [↓ops_cons, ↓g_move, ↓g_extract, Nat.reduceLT, ev_tab, upd_eq, ext_0, ne_eq, Nat.reduceEqDiff, not_false_eq_true, upd_ne, ext_1, ↓g_assign, ↓ops_nil, ↓w_seq, ↓w_region, reduceCtorEq, t0, onS_some]
          refine call1S (by simp -implicitDefEqProofs only [List.map_cons, Nat.reduceLT, ev_tab, upd_eq, List.map_nil] <;> rfl) c4 ?_
          try simp -implicitDefEqProofs only [↓ops_cons, ↓g_assign, ↓ops_nil, ↓w_seq, ↓w_region, Nat.reduceLT, ev_tab, upd_eq, ↓g_move]
          refine call1 (by simp -implicitDefEqProofs only [List.map_cons, Nat.reduceLT, ev_tab, upd_eq, List.map_nil] <;> rfl) c5 ?_
          try simp -implicitDefEqProofs only [↓ops_cons, ↓g_move, ↓g_extract, Nat.reduceLT, ev_tab, upd_eq, ext_0, ne_eq, Nat.reduceEqDiff, not_false_eq_true, upd_ne, ext_1, ↓g_alloc, zero58, Option.map_some, ↓g_store, ↓g_assign, ↓ops_nil, ↓w_seq, ↓w_region, alK_some, List.all_cons, one_int, one_str, List.all_nil, Bool.and_self, wr_def, tyOk58, cells58, hap_0, List.getElem?_cons_zero, wr_c, Nat.zero_add, List.length_cons, List.length_nil, Nat.reduceAdd, Nat.le_refl, true_and, hset_0, List.set_cons_zero, onS_ite, onS_some, cells_agg, and_self, ovr_m, ovr_n]
          rw [← pcc, ← hR2]
          refine call1 (by simp -implicitDefEqProofs only [List.map_cons, Nat.reduceLT, ev_tab, upd_eq, List.map_nil] <;> rfl) c6 ?_
          try simp -implicitDefEqProofs only [↓ops_cons, ↓g_move, ↓g_extract, Nat.reduceLT, ev_tab, upd_eq, ext_0, ne_eq, Nat.reduceEqDiff, not_false_eq_true, upd_ne, ext_1, ↓g_alloc, zero58, Option.map_some, ↓g_store, ↓g_assign, ↓ops_nil, ↓w_seq, ↓w_region, reduceCtorEq, t0, alK_some, List.all_cons, one_int, one_str, List.all_nil, Bool.and_self, List.length_append, List.length_cons, List.length_nil, Nat.zero_add, List.append_assoc, List.cons_append, List.nil_append, wr_def, tyOk58, cells58, hap_k, List.getElem?_cons_succ, List.getElem?_cons_zero, wr_c, Nat.reduceAdd, Nat.le_refl, true_and, hset_k, List.set_cons_succ, List.set_cons_zero, onS_ite, onS_some, cells_agg, and_self, ovr_m, ovr_n]
          rw [← pcc, ← hR2]
          refine call1S (by simp -implicitDefEqProofs only [List.map_cons, Nat.reduceLT, ev_tab, upd_eq, List.map_nil] <;> rfl) d1 ?_
          try simp -implicitDefEqProofs only [↓ops_cons, ↓g_move, ↓g_extract, Nat.reduceLT, ev_tab, upd_eq, ext_0, ne_eq, Nat.reduceEqDiff, not_false_eq_true, upd_ne, ext_1, ↓g_alloc, zero54, Option.map_some, zero58, ↓g_store, ↓ops_nil, ↓w_seq, ↓w_region, ↓g_load, alK_some, List.all_cons, one_int, one_str, List.all_nil, Bool.and_self, wr_def, tyOk58, cells58, rd_def, agg58, true_and, one_nil, List.append_assoc, List.cons_append, List.nil_append, tyOk54, cells54, hap_0, List.getElem?_cons_zero, wr_c, Nat.zero_add, List.length_cons, List.length_nil, Nat.reduceAdd, Nat.le_refl, hset_0, List.set_cons_zero, List.length_append, agg54, onS_ite, hap_k, List.getElem?_cons_succ, hset_k, List.set_cons_succ, onS_some, cells_agg, and_self, ovr_m, ovr_n, rd_aggc, List.drop_zero, List.take_succ_cons, List.take_zero, if_true, bX1]
          rw [← pcc, ← hR4, ← bxr, ← hB4]
          try simp -implicitDefEqProofs only [↓w_seq, ↓w_skip, ↓w_ret, ↓w_exit, ↓w_block, ↓w_cond, ↓w_region, ↓ops_nil, ↓ops_cons, ↓dops_0, ↓dops_p, ↓dops_cons, ↓g_move, ↓g_assign, ↓g_binOp, ↓g_unOp, ↓g_pick, ↓g_len, ↓g_index, ↓g_indexAddr, ↓g_slice, ↓g_convert, ↓g_load, ↓g_store, ↓g_extract, ↓g_nilCheck, ↓g_fieldT, ↓g_fieldAddrT, of_agg, rd_aggc, rd_onec, wr_c, cells_int, cells_str, cells_bool, cells_nil, cells_sl, cells_ptr, cells_agg, one_int, one_str, one_bool, one_nil, one_sl, one_ptr, over_0, over_s, List.all_cons, List.all_nil, Bool.and_true, Bool.and_self, List.getElem?_nil, List.drop_succ_cons, List.drop_nil, ↓g_guard_t, ↓g_guard_f, ↓g_alloc, ↓g_box, ↓g_buildSlice, ↓g_makeSlice, ↓g_buildV, rdA, wrA, ints_one, List.length_replicate, bools_one, strs_one, rd_bools, rd_strs, wr_bools, wr_strs, at_bools, at_strs, ap_bools, ap_boolsN, ap_strs, ap_strsN, ↓g_append, src_sl, src_nil, src_str, ap_ints, ap_intsN, kill_len, kill_0, kill_s, bnd_none, bnd_int, cut_str, cutS_some, cut_sl, cutL_some, bits_i64, bits_u32, bits_u8, List.getD_cons_zero, List.getD_cons_succ, at_end, at_a, at_b, yielded_tab, dstAt_0, dstAt_s, ybv_some, boolOf_b, ext_0, ext_1, ext_2, ext_3, alK_some, ev_tab, ev_const, upd_eq, upd_ne, par0, par1, par2, par3, par4, par5, of_int, of_str, of_bool, len_str, len_arr, len_sl, idx_str, adr_sl, adr_arr, c_int, c_str, c_bytes, c_text, pick_b, onS_some, onS_ite, onS_not, b_add, b_sub, b_mul, b_and, b_or, b_xor, b_eql, b_neq, b_lss, b_leq, b_gtr, b_geq, b_shl, b_shr, b_quo, b_rem, t_add, t_eql, t_neq, v_eql, v_neq, b_andNot, u_not, onB_true, onB_false, onB_dec, onB_not, ret_cell, ret_ct, retP_0, retP_1, retP_2, retP_3, res_tmp, res_cell, ret_one, ret_two, ret_three, ret_none, List.set_set, if_true, if_false, ite_true, ite_false, List.map_cons, List.map_nil, Option.map_some, Option.map_none, List.toList_toArray, rd_def, rd_ints, wr_def, wr_ints, at_def, at_ints, bytes_ints, bytesA_ints, ints_set, nums_len, List.length_nil, List.length_cons, List.length_set, List.length_append, List.nil_append, List.cons_append, List.getElem?_cons_zero, List.getElem?_cons_succ, List.set_cons_zero, List.set_cons_succ, List.drop_zero, List.take_succ_cons, List.take_zero, List.take_length, Option.bind_some, true_and, and_true, Nat.zero_add, Nat.mul_one, Int.toNat_zero, Int.reduceToNat, Int.reduceAdd, Int.reduceSub, Int.reduceMul, Int.reduceNeg, Nat.reduceAdd, Nat.reduceSub, Nat.reduceMul, Nat.reducePow, Nat.min_eq_left, Int.reducePow, Nat.le_refl, Int.cast_ofNat_Int, Nat.reduceLT, Nat.reduceLeDiff, Nat.reduceEqDiff, Int.reduceLE, Int.reduceLT, Int.reduceEq, ne_eq, not_false_eq_true, not_true_eq_false, reduceCtorEq, decide_true, decide_false, and_self, and_false, false_and, Bool.not_true, Bool.not_false, Try.underlying0, Try.underlying1, Try.underlying2, Try.underlying3, Try.underlying4, Try.underlying5, Try.underlying6, Try.underlying7, Try.underlying8, Try.underlying9, Try.underlying10, Try.underlying11, Try.underlying12, Try.underlying13, Try.underlying14, Try.underlying15, Try.underlying16, Try.underlying17, Try.underlying18, Try.underlying19, Try.underlying20, Try.underlying21, Try.underlying22, Try.underlying23, Try.underlying24, Try.underlying25, Try.underlying26, Try.underlying27, Try.underlying28, Try.underlying29, Try.underlying30, Try.underlying31, Try.underlying32, Try.underlying33, Try.underlying34, Try.underlying35, Try.underlying36, Try.underlying37, Try.underlying38, Try.underlying39, Try.underlying40, Try.underlying41, Try.underlying42, Try.underlying43, Try.underlying44, Try.underlying45, Try.underlying46, Try.underlying47, Try.underlying48, Try.underlying49, Try.underlying50, Try.underlying51, Try.underlying52, Try.underlying53, Try.underlying54, Try.underlying55, Try.underlying56, Try.underlying57, Try.underlying58, Try.underlying59, Try.underlying60, Try.underlying61, Try.underlying62, Try.underlying63, Try.underlying64, Try.underlying65, Try.underlying66, Try.underlying67, Try.underlying68, Try.underlying69, Try.underlying70, Try.underlying71, Try.underlying72, Try.underlying73, Try.underlying74, Try.underlying75, Try.underlying76, Try.underlying77, Try.underlying78, Try.underlying79, Try.underlying80, Try.underlying81, Try.underlying82, Try.underlying83, Try.underlying84, Try.underlying85, Try.underlying86, Try.underlying87, Try.underlying88, Try.underlying89, Try.underlying90, Try.underlying91, Try.underlying92, Try.underlying93, Try.underlying94, Try.underlying95, Try.underlying96, Try.underlying97, Try.underlying98, Try.underlying99, Try.underlying100, Try.underlying101, Try.underlying102, Try.underlying103, Try.underlying104, Try.underlying105, Try.underlying106, Try.underlying107, Try.underlying108, Try.underlying109, Try.underlying110, Try.underlying111, Try.underlying112, Try.underlying113, Try.underlying114, Try.underlying115, Try.underlying116, Try.underlying117, Try.underlying118, Try.underlying119, Try.underlying120, Try.underlying121, Try.underlying122, Try.underlying123, Try.underlying124, Try.underlying125, Try.underlying126, Try.underlying127, Try.underlying128, Try.underlying129, Try.underlying130, Try.underlying131, Try.underlying132, Try.underlying133, Try.underlying134, Try.underlying135, Try.underlying136, Try.underlying137, Try.underlying138, Try.underlying139, Try.underlying140, Try.underlying141, Try.underlying142, Try.underlying143, Try.underlying144, Try.underlying145, Try.underlying146, Try.underlying147, tyOk0, agg0, cells0, tyOk1, agg1, cells1, tyOk2, agg2, cells2, zero2, info2, mk2, bs2_0, bs2_1, bs2_2, bs2_3, bs2_4, bs2_5, bs2_6, bs2_7, bs2_8, bs2_10, bs2_11, bs2_12, bs2_13, tyOk3, agg3, cells3, zero3, apS26, apN26, info3, mk3, bs3_0, bs3_1, bs3_2, bs3_3, bs3_4, bs3_5, bs3_6, bs3_7, bs3_8, bs3_10, bs3_11, bs3_12, bs3_13, tyOk4, agg4, cells4, zero4, info4, mk4, bs4_0, bs4_1, bs4_2, apS52, apN52, tyOk5, agg5, cells5, isU5, zero5, apS22, apN22, apStr22, info5, mk5, bs5_0, bs5_1, bs5_2, bs5_3, bs5_4, bs5_5, bs5_6, bs5_7, bs5_8, bs5_10, bs5_11, bs5_12, bs5_13, tyOk6, agg6, cells6, isU6, zero6, info6, mk6, bs6_0, bs6_1, bs6_2, bs6_3, bs6_4, bs6_5, bs6_6, bs6_7, bs6_8, bs6_10, bs6_11, bs6_12, bs6_13, tyOk7, agg7, cells7, zero7, fadr7_0, fld7_0, fadr7_1, fld7_1, fadr7_2, fld7_2, fadr7_3, fld7_3, bz7, bds7, tyOk8, agg8, cells8, zero8, fadr8_0, fld8_0, fadr8_1, fld8_1, fadr8_2, fld8_2, fadr8_3, fld8_3, bz8, bds8, tyOk9, agg9, cells9, zero9, info9, bs9_0, bs9_1, bs9_2, bs9_3, bs9_4, bs9_5, bs9_6, bs9_8, bs9_9, bs9_10, apS125, apN125, tyOk10, agg10, cells10, zero10, info10, bs10_0, bs10_1, bs10_2, bs10_3, bs10_4, bs10_5, bs10_6, bs10_8, bs10_9, bs10_10, tyOk11, agg11, cells11, zero11, info11, bs11_0, bs11_1, bs11_2, bs11_3, bs11_4, bs11_5, bs11_6, bs11_8, bs11_9, bs11_10, tyOk12, agg12, cells12, zero12, info12, mk12, bs12_0, bs12_1, bs12_2, bs12_3, bs12_4, bs12_5, bs12_6, bs12_7, bs12_8, bs12_10, bs12_11, bs12_12, bs12_13, tyOk13, agg13, cells13, zero13, fadr13_0, fld13_0, fadr13_1, fld13_1, bz13, bds13, tyOk14, agg14, cells14, zero14, fadr14_0, fld14_0, fadr14_1, fld14_1, bz14, bds14, tyOk15, agg15, cells15, zero15, tyOk16, agg16, cells16, zero16, tyOk17, agg17, cells17, zero17, tyOk18, agg18, cells18, zero18, fadr18_0, fld18_0, bz18, bds18, tyOk19, agg19, cells19, zero19, fadr19_0, fld19_0, bz19, bds19, tyOk20, agg20, cells20, tyOk21, agg21, cells21, zero21, info21, mk21, bs21_0, bs21_1, bs21_2, bs21_3, bs21_4, bs21_5, bs21_6, bs21_7, bs21_8, bs21_10, bs21_11, bs21_12, bs21_13, tyOk22, agg22, cells22, zero22, tyOk23, agg23, cells23, tyOk24, agg24, cells24, tyOk25, agg25, cells25, tyOk26, agg26, cells26, zero26, tyOk27, agg27, cells27, tyOk28, agg28, cells28, tyOk29, agg29, cells29, zero29, info29, mk29, bs29_0, bs29_1, bs29_2, bs29_3, bs29_4, bs29_5, bs29_6, bs29_7, bs29_8, bs29_10, bs29_11, bs29_12, bs29_13, tyOk30, agg30, cells30, tyOk31, agg31, cells31, tyOk32, agg32, cells32, tyOk33, agg33, cells33, tyOk34, agg34, cells34, tyOk35, agg35, cells35, tyOk36, agg36, cells36, tyOk37, agg37, cells37, tyOk38, agg38, cells38, tyOk39, agg39, cells39, tyOk40, agg40, cells40, tyOk41, agg41, cells41, tyOk42, agg42, cells42, tyOk43, agg43, cells43, tyOk44, agg44, cells44, tyOk45, agg45, cells45, tyOk46, agg46, cells46, tyOk47, agg47, cells47, tyOk48, agg48, cells48, tyOk49, agg49, cells49, zero49, tyOk50, agg50, cells50, tyOk51, agg51, cells51, tyOk52, agg52, cells52, zero52, tyOk53, agg53, cells53, zero53, fadr53_0, fld53_0, fadr53_1, fld53_1, fadr53_2, fld53_2, fadr53_3, fld53_3, bz53, bds53, tyOk54, agg54, cells54, zero54, fadr54_0, fld54_0, fadr54_1, fld54_1, fadr54_2, fld54_2, fadr54_3, fld54_3, bz54, bds54, tyOk55, agg55, cells55, tyOk56, agg56, cells56, tyOk57, agg57, cells57, zero57, fadr57_0, fld57_0, fadr57_1, fld57_1, fadr57_2, fld57_2, fadr57_3, fld57_3, bz57, bds57, tyOk58, agg58, cells58, zero58, info58, apS49, apN49, bs58_1, bs58_0, fadr58_0, fld58_0, fadr58_1, fld58_1, fadr58_2, fld58_2, fadr58_3, fld58_3, bz58, bds58, tyOk59, agg59, cells59, tyOk60, agg60, cells60, tyOk61, agg61, cells61, tyOk62, agg62, cells62, tyOk63, agg63, cells63, tyOk64, agg64, cells64, tyOk65, agg65, cells65, tyOk66, agg66, cells66, tyOk67, agg67, cells67, tyOk68, agg68, cells68, tyOk69, agg69, cells69, tyOk70, agg70, cells70, tyOk71, agg71, cells71, tyOk72, agg72, cells72, tyOk73, agg73, cells73, tyOk74, agg74, cells74, zero74, tyOk75, agg75, cells75, tyOk76, agg76, cells76, tyOk77, agg77, cells77, tyOk78, agg78, cells78, zero78, ix78, bz78, tyOk79, agg79, cells79, tyOk80, agg80, cells80, tyOk81, agg81, cells81, tyOk82, agg82, cells82, tyOk83, agg83, cells83, tyOk84, agg84, cells84, tyOk85, agg85, cells85, zero85, info85, mk85, bs85_0, bs85_1, bs85_2, bs85_3, bs85_4, bs85_5, bs85_6, bs85_7, bs85_8, bs85_10, bs85_11, bs85_12, bs85_13, tyOk86, agg86, cells86, zero86, ix86, bz86, bd86, tyOk87, agg87, cells87, tyOk88, agg88, cells88, zero88, ix88, bz88, tyOk89, agg89, cells89, tyOk90, agg90, cells90, tyOk91, agg91, cells91, tyOk92, agg92, cells92, tyOk93, agg93, cells93, tyOk94, agg94, cells94, tyOk95, agg95, cells95, tyOk96, agg96, cells96, tyOk97, agg97, cells97, tyOk98, agg98, cells98, tyOk99, agg99, cells99, tyOk100, agg100, cells100, tyOk101, agg101, cells101, tyOk102, agg102, cells102, tyOk103, agg103, cells103, tyOk104, agg104, cells104, tyOk105, agg105, cells105, tyOk106, agg106, cells106, tyOk107, agg107, cells107, tyOk108, agg108, cells108, tyOk109, agg109, cells109, zero109, fadr109_0, fld109_0, fadr109_1, fld109_1, fadr109_2, fld109_2, bz109, bds109, tyOk110, agg110, cells110, zero110, fadr110_0, fld110_0, fadr110_1, fld110_1, fadr110_2, fld110_2, bz110, bds110, tyOk111, agg111, cells111, tyOk112, agg112, cells112, tyOk113, agg113, cells113, zero113, tyOk114, agg114, cells114, zero114, fadr114_0, fld114_0, fadr114_1, fld114_1, bz114, bds114, tyOk115, agg115, cells115, zero115, fadr115_0, fld115_0, fadr115_1, fld115_1, bz115, bds115, tyOk116, agg116, cells116, tyOk117, agg117, cells117, tyOk118, agg118, cells118, tyOk119, agg119, cells119, tyOk120, agg120, cells120, tyOk121, agg121, cells121, tyOk122, agg122, cells122, tyOk123, agg123, cells123, tyOk124, agg124, cells124, tyOk125, agg125, cells125, zero125, tyOk126, agg126, cells126, tyOk127, agg127, cells127, tyOk128, agg128, cells128, tyOk129, agg129, cells129, zero129, info129, mk129, bs129_0, bs129_1, bs129_2, bs129_3, bs129_4, bs129_5, bs129_6, bs129_7, bs129_8, bs129_10, bs129_11, bs129_12, bs129_13, tyOk130, agg130, cells130, tyOk131, agg131, cells131, tyOk132, agg132, cells132, zero132, tyOk133, agg133, cells133, zero133, tyOk134, agg134, cells134, tyOk135, agg135, cells135, tyOk136, agg136, cells136, zero136, fadr136_0, fld136_0, fadr136_1, fld136_1, fadr136_2, fld136_2, fadr136_3, fld136_3, bz136, bds136, tyOk137, agg137, cells137, zero137, fadr137_0, fld137_0, fadr137_1, fld137_1, fadr137_2, fld137_2, fadr137_3, fld137_3, bz137, bds137, tyOk138, agg138, cells138, zero138, tyOk139, agg139, cells139, zero139, tyOk140, agg140, cells140, zero140, tyOk141, agg141, cells141, isU141, zero141, info141, mk141, bs141_0, bs141_1, bs141_2, bs141_3, bs141_4, bs141_5, bs141_6, bs141_7, bs141_8, bs141_10, bs141_11, bs141_12, bs141_13, tyOk142, agg142, cells142, isU142, zero142, info142, mk142, bs142_0, bs142_1, bs142_2, bs142_3, bs142_4, bs142_5, bs142_6, bs142_7, bs142_8, bs142_10, bs142_11, bs142_12, bs142_13, tyOk143, agg143, cells143, tyOk144, agg144, cells144, zero144, info144, mk144, bs144_0, bs144_1, bs144_2, bs144_3, bs144_4, bs144_5, bs144_6, bs144_7, bs144_8, bs144_10, bs144_11, bs144_12, bs144_13, tyOk145, agg145, cells145, zero145, info145, mk145, bs145_0, bs145_1, bs145_2, bs145_3, bs145_4, bs145_5, bs145_6, bs145_7, bs145_8, bs145_10, bs145_11, bs145_12, bs145_13, tyOk146, agg146, cells146, fadr146_0, fld146_0, fadr146_1, fld146_1, fadr146_2, fld146_2, fadr146_3, fld146_3, fadr146_4, fld146_4, fadr146_5, fld146_5, fadr146_6, fld146_6, fadr146_7, fld146_7, fadr146_8, fld146_8, fadr146_9, fld146_9, fadr146_10, fld146_10, tyOk147, agg147, cells147, fadr147_0, fld147_0, fadr147_1, fld147_1, fadr147_2, fld147_2, fadr147_3, fld147_3, fadr147_4, fld147_4, fadr147_5, fld147_5, fadr147_6, fld147_6, fadr147_7, fld147_7, fadr147_8, fld147_8, fadr147_9, fld147_9, fadr147_10, fld147_10, f4, g4]
          refine call1S (by simp -implicitDefEqProofs only [List.map_cons, Nat.reduceLT, ev_tab, ne_eq, Nat.reduceEqDiff, not_false_eq_true, upd_ne, upd_eq, List.map_nil] <;> rfl) d5 ?_
          try simp -implicitDefEqProofs only [↓ops_cons, ↓g_move, ↓g_extract, Nat.reduceLT, ev_tab, upd_eq, ext_0, ne_eq, Nat.reduceEqDiff, not_false_eq_true, upd_ne, ext_1, ↓g_alloc, zero54, Option.map_some, ↓g_store, ↓g_assign, ↓ops_nil, ↓w_seq, ↓w_region, ↓g_load, rd_def, tyOk54, agg54, cells54, tyOk58, agg58, cells58, alK_some, List.all_cons, one_int, one_str, one_nil, List.all_nil, Bool.and_self, wr_def, hap_0, List.getElem?_cons_zero, wr_c, Nat.zero_add, List.length_cons, List.length_nil, Nat.reduceAdd, Nat.le_refl, true_and, hset_0, List.set_cons_zero, onS_ite, onS_some, cells_agg, X51, and_self, ovr_m, ovr_n]
          rw [← bxr, ← hB5]
          try simp -implicitDefEqProofs only [y5.at f4, rd_aggc, Nat.zero_add, List.length_cons, List.length_nil, Nat.reduceAdd, Nat.le_refl, List.drop_zero, List.take_succ_cons, List.take_zero, if_true, y5.at g4, onS_some]
          refine call1S (by simp -implicitDefEqProofs only [List.map_cons, Nat.reduceLT, ev_tab, ne_eq, Nat.reduceEqDiff, not_false_eq_true, upd_ne, upd_eq, List.map_nil] <;> rfl) d7 ?_
          try simp -implicitDefEqProofs only [↓ops_cons, ↓g_move, ↓g_extract, Nat.reduceLT, ev_tab, upd_eq, ext_0, ne_eq, Nat.reduceEqDiff, not_false_eq_true, upd_ne, ext_1, ↓g_alloc, zero54, Option.map_some, ↓g_store, ↓g_assign, ↓ops_nil, ↓w_seq, ↓w_region, ↓g_load, rd_def, tyOk58, agg58, cells58, alK_some, List.all_cons, one_int, one_str, one_nil, List.all_nil, Bool.and_self, wr_def, tyOk54, cells54, hap_0, List.getElem?_cons_zero, wr_c, Nat.zero_add, List.length_cons, List.length_nil, Nat.reduceAdd, Nat.le_refl, true_and, hset_0, List.set_cons_zero, onS_ite, onS_some, cells_agg, X61, and_self, ovr_m, ovr_n]
          rw [← bxr, ← hB6]
          try simp -implicitDefEqProofs only [w6.at f2, rd_aggc, Nat.zero_add, List.length_cons, List.length_nil, Nat.reduceAdd, Nat.le_refl, List.drop_zero, List.take_succ_cons, List.take_zero, if_true, onS_some]
          refine call1S (by simp -implicitDefEqProofs only [List.map_cons, Nat.reduceLT, ev_tab, upd_eq, List.map_nil] <;> rfl) g1 ?_
          try simp -implicitDefEqProofs only [↓ops_cons, ↓g_move, ↓g_extract, Nat.reduceLT, ev_tab, upd_eq, ext_0, ne_eq, Nat.reduceEqDiff, not_false_eq_true, upd_ne, ext_1, ↓g_alloc, zero54, Option.map_some, ↓g_store, ↓g_assign, ↓ops_nil, ↓w_seq, ↓w_region, ↓g_load, rd_def, tyOk58, agg58, cells58, alK_some, List.all_cons, one_int, one_str, one_nil, List.all_nil, Bool.and_self, wr_def, tyOk54, cells54, hap_0, List.getElem?_cons_zero, wr_c, Nat.zero_add, List.length_cons, List.length_nil, Nat.reduceAdd, Nat.le_refl, true_and, hset_0, List.set_cons_zero, onS_ite, onS_some, cells_agg, X71, and_self, ovr_m, ovr_n]
          rw [← bxr, ← hB7]
          try simp -implicitDefEqProofs only [(w6.trans y7).at f2, rd_aggc, Nat.zero_add, List.length_cons, List.length_nil, Nat.reduceAdd, Nat.le_refl, List.drop_zero, List.take_succ_cons, List.take_zero, if_true, onS_some]
          refine call1S (by simp -implicitDefEqProofs only [List.map_cons, Nat.reduceLT, ev_tab, upd_eq, List.map_nil] <;> rfl) g4' ?_
          try simp -implicitDefEqProofs only [↓ops_cons, ↓g_move, ↓g_extract, Nat.reduceLT, ev_tab, upd_eq, ext_0, ne_eq, Nat.reduceEqDiff, not_false_eq_true, upd_ne, ext_1, ↓g_alloc, zero54, Option.map_some, ↓g_store, ↓g_assign, ↓ops_nil, ↓w_seq, ↓w_region, reduceCtorEq, t0, alK_some, List.all_cons, one_int, one_str, one_nil, List.all_nil, Bool.and_self, wr_def, tyOk54, cells54, hap_0, List.getElem?_cons_zero, wr_c, Nat.zero_add, List.length_cons, List.length_nil, Nat.reduceAdd, Nat.le_refl, true_and, hset_0, List.set_cons_zero, onS_ite, onS_some, cells_agg, X81, and_self, ovr_m, ovr_n]
          rw [← bxr, ← hB8]
          refine call1S (by simp -implicitDefEqProofs only [List.map_cons, Nat.reduceLT, ev_tab, upd_eq, List.map_nil] <;> rfl) k1' ?_
          try simp -implicitDefEqProofs only [↓ops_cons, ↓g_alloc, zero54, Option.map_some, ↓g_store, Nat.reduceLT, ev_tab, upd_eq, ne_eq, Nat.reduceEqDiff, not_false_eq_true, upd_ne, ↓ops_nil, ↓w_seq, ↓w_region, ↓g_load, alK_some, List.all_cons, one_int, one_str, one_nil, List.all_nil, Bool.and_self, wr_def, tyOk54, cells54, hap_0, List.getElem?_cons_zero, wr_c, cells_agg, List.length_cons, List.length_nil, Nat.zero_add, Nat.reduceAdd, Nat.le_refl, wX1, and_self, ovr_m, ovr_n, hset_0, List.set_cons_zero, if_true, rd_def, agg54, onS_some, rd_aggc, List.drop_zero, List.take_succ_cons, List.take_zero, true_and]
          rw [← bxr, ← hB9]
          try simp -implicitDefEqProofs only [↓w_seq, ↓w_skip, ↓w_ret, ↓w_exit, ↓w_block, ↓w_cond, ↓w_region, ↓ops_nil, ↓ops_cons, ↓dops_0, ↓dops_p, ↓dops_cons, ↓g_move, ↓g_assign, ↓g_binOp, ↓g_unOp, ↓g_pick, ↓g_len, ↓g_index, ↓g_indexAddr, ↓g_slice, ↓g_convert, ↓g_load, ↓g_store, ↓g_extract, ↓g_nilCheck, ↓g_fieldT, ↓g_fieldAddrT, of_agg, rd_aggc, rd_onec, wr_c, cells_int, cells_str, cells_bool, cells_nil, cells_sl, cells_ptr, cells_agg, one_int, one_str, one_bool, one_nil, one_sl, one_ptr, over_0, over_s, List.all_cons, List.all_nil, Bool.and_true, Bool.and_self, List.getElem?_nil, List.drop_succ_cons, List.drop_nil, ↓g_guard_t, ↓g_guard_f, ↓g_alloc, ↓g_box, ↓g_buildSlice, ↓g_makeSlice, ↓g_buildV, rdA, wrA, ints_one, List.length_replicate, bools_one, strs_one, rd_bools, rd_strs, wr_bools, wr_strs, at_bools, at_strs, ap_bools, ap_boolsN, ap_strs, ap_strsN, ↓g_append, src_sl, src_nil, src_str, ap_ints, ap_intsN, kill_len, kill_0, kill_s, bnd_none, bnd_int, cut_str, cutS_some, cut_sl, cutL_some, bits_i64, bits_u32, bits_u8, List.getD_cons_zero, List.getD_cons_succ, at_end, at_a, at_b, yielded_tab, dstAt_0, dstAt_s, ybv_some, boolOf_b, ext_0, ext_1, ext_2, ext_3, alK_some, ev_tab, ev_const, upd_eq, upd_ne, par0, par1, par2, par3, par4, par5, of_int, of_str, of_bool, len_str, len_arr, len_sl, idx_str, adr_sl, adr_arr, c_int, c_str, c_bytes, c_text, pick_b, onS_some, onS_ite, onS_not, b_add, b_sub, b_mul, b_and, b_or, b_xor, b_eql, b_neq, b_lss, b_leq, b_gtr, b_geq, b_shl, b_shr, b_quo, b_rem, t_add, t_eql, t_neq, v_eql, v_neq, b_andNot, u_not, onB_true, onB_false, onB_dec, onB_not, ret_cell, ret_ct, retP_0, retP_1, retP_2, retP_3, res_tmp, res_cell, ret_one, ret_two, ret_three, ret_none, List.set_set, if_true, if_false, ite_true, ite_false, List.map_cons, List.map_nil, Option.map_some, Option.map_none, List.toList_toArray, rd_def, rd_ints, wr_def, wr_ints, at_def, at_ints, bytes_ints, bytesA_ints, ints_set, nums_len, List.length_nil, List.length_cons, List.length_set, List.length_append, List.nil_append, List.cons_append, List.getElem?_cons_zero, List.getElem?_cons_succ, List.set_cons_zero, List.set_cons_succ, List.drop_zero, List.take_succ_cons, List.take_zero, List.take_length, Option.bind_some, true_and, and_true, Nat.zero_add, Nat.mul_one, Int.toNat_zero, Int.reduceToNat, Int.reduceAdd, Int.reduceSub, Int.reduceMul, Int.reduceNeg, Nat.reduceAdd, Nat.reduceSub, Nat.reduceMul, Nat.reducePow, Nat.min_eq_left, Int.reducePow, Nat.le_refl, Int.cast_ofNat_Int, Nat.reduceLT, Nat.reduceLeDiff, Nat.reduceEqDiff, Int.reduceLE, Int.reduceLT, Int.reduceEq, ne_eq, not_false_eq_true, not_true_eq_false, reduceCtorEq, decide_true, decide_false, and_self, and_false, false_and, Bool.not_true, Bool.not_false, Try.underlying0, Try.underlying1, Try.underlying2, Try.underlying3, Try.underlying4, Try.underlying5, Try.underlying6, Try.underlying7, Try.underlying8, Try.underlying9, Try.underlying10, Try.underlying11, Try.underlying12, Try.underlying13, Try.underlying14, Try.underlying15, Try.underlying16, Try.underlying17, Try.underlying18, Try.underlying19, Try.underlying20, Try.underlying21, Try.underlying22, Try.underlying23, Try.underlying24, Try.underlying25, Try.underlying26, Try.underlying27, Try.underlying28, Try.underlying29, Try.underlying30, Try.underlying31, Try.underlying32, Try.underlying33, Try.underlying34, Try.underlying35, Try.underlying36, Try.underlying37, Try.underlying38, Try.underlying39, Try.underlying40, Try.underlying41, Try.underlying42, Try.underlying43, Try.underlying44, Try.underlying45, Try.underlying46, Try.underlying47, Try.underlying48, Try.underlying49, Try.underlying50, Try.underlying51, Try.underlying52, Try.underlying53, Try.underlying54, Try.underlying55, Try.underlying56, Try.underlying57, Try.underlying58, Try.underlying59, Try.underlying60, Try.underlying61, Try.underlying62, Try.underlying63, Try.underlying64, Try.underlying65, Try.underlying66, Try.underlying67, Try.underlying68, Try.underlying69, Try.underlying70, Try.underlying71, Try.underlying72, Try.underlying73, Try.underlying74, Try.underlying75, Try.underlying76, Try.underlying77, Try.underlying78, Try.underlying79, Try.underlying80, Try.underlying81, Try.underlying82, Try.underlying83, Try.underlying84, Try.underlying85, Try.underlying86, Try.underlying87, Try.underlying88, Try.underlying89, Try.underlying90, Try.underlying91, Try.underlying92, Try.underlying93, Try.underlying94, Try.underlying95, Try.underlying96, Try.underlying97, Try.underlying98, Try.underlying99, Try.underlying100, Try.underlying101, Try.underlying102, Try.underlying103, Try.underlying104, Try.underlying105, Try.underlying106, Try.underlying107, Try.underlying108, Try.underlying109, Try.underlying110, Try.underlying111, Try.underlying112, Try.underlying113, Try.underlying114, Try.underlying115, Try.underlying116, Try.underlying117, Try.underlying118, Try.underlying119, Try.underlying120, Try.underlying121, Try.underlying122, Try.underlying123, Try.underlying124, Try.underlying125, Try.underlying126, Try.underlying127, Try.underlying128, Try.underlying129, Try.underlying130, Try.underlying131, Try.underlying132, Try.underlying133, Try.underlying134, Try.underlying135, Try.underlying136, Try.underlying137, Try.underlying138, Try.underlying139, Try.underlying140, Try.underlying141, Try.underlying142, Try.underlying143, Try.underlying144, Try.underlying145, Try.underlying146, Try.underlying147, tyOk0, agg0, cells0, tyOk1, agg1, cells1, tyOk2, agg2, cells2, zero2, info2, mk2, bs2_0, bs2_1, bs2_2, bs2_3, bs2_4, bs2_5, bs2_6, bs2_7, bs2_8, bs2_10, bs2_11, bs2_12, bs2_13, tyOk3, agg3, cells3, zero3, apS26, apN26, info3, mk3, bs3_0, bs3_1, bs3_2, bs3_3, bs3_4, bs3_5, bs3_6, bs3_7, bs3_8, bs3_10, bs3_11, bs3_12, bs3_13, tyOk4, agg4, cells4, zero4, info4, mk4, bs4_0, bs4_1, bs4_2, apS52, apN52, tyOk5, agg5, cells5, isU5, zero5, apS22, apN22, apStr22, info5, mk5, bs5_0, bs5_1, bs5_2, bs5_3, bs5_4, bs5_5, bs5_6, bs5_7, bs5_8, bs5_10, bs5_11, bs5_12, bs5_13, tyOk6, agg6, cells6, isU6, zero6, info6, mk6, bs6_0, bs6_1, bs6_2, bs6_3, bs6_4, bs6_5, bs6_6, bs6_7, bs6_8, bs6_10, bs6_11, bs6_12, bs6_13, tyOk7, agg7, cells7, zero7, fadr7_0, fld7_0, fadr7_1, fld7_1, fadr7_2, fld7_2, fadr7_3, fld7_3, bz7, bds7, tyOk8, agg8, cells8, zero8, fadr8_0, fld8_0, fadr8_1, fld8_1, fadr8_2, fld8_2, fadr8_3, fld8_3, bz8, bds8, tyOk9, agg9, cells9, zero9, info9, bs9_0, bs9_1, bs9_2, bs9_3, bs9_4, bs9_5, bs9_6, bs9_8, bs9_9, bs9_10, apS125, apN125, tyOk10, agg10, cells10, zero10, info10, bs10_0, bs10_1, bs10_2, bs10_3, bs10_4, bs10_5, bs10_6, bs10_8, bs10_9, bs10_10, tyOk11, agg11, cells11, zero11, info11, bs11_0, bs11_1, bs11_2, bs11_3, bs11_4, bs11_5, bs11_6, bs11_8, bs11_9, bs11_10, tyOk12, agg12, cells12, zero12, info12, mk12, bs12_0, bs12_1, bs12_2, bs12_3, bs12_4, bs12_5, bs12_6, bs12_7, bs12_8, bs12_10, bs12_11, bs12_12, bs12_13, tyOk13, agg13, cells13, zero13, fadr13_0, fld13_0, fadr13_1, fld13_1, bz13, bds13, tyOk14, agg14, cells14, zero14, fadr14_0, fld14_0, fadr14_1, fld14_1, bz14, bds14, tyOk15, agg15, cells15, zero15, tyOk16, agg16, cells16, zero16, tyOk17, agg17, cells17, zero17, tyOk18, agg18, cells18, zero18, fadr18_0, fld18_0, bz18, bds18, tyOk19, agg19, cells19, zero19, fadr19_0, fld19_0, bz19, bds19, tyOk20, agg20, cells20, tyOk21, agg21, cells21, zero21, info21, mk21, bs21_0, bs21_1, bs21_2, bs21_3, bs21_4, bs21_5, bs21_6, bs21_7, bs21_8, bs21_10, bs21_11, bs21_12, bs21_13, tyOk22, agg22, cells22, zero22, tyOk23, agg23, cells23, tyOk24, agg24, cells24, tyOk25, agg25, cells25, tyOk26, agg26, cells26, zero26, tyOk27, agg27, cells27, tyOk28, agg28, cells28, tyOk29, agg29, cells29, zero29, info29, mk29, bs29_0, bs29_1, bs29_2, bs29_3, bs29_4, bs29_5, bs29_6, bs29_7, bs29_8, bs29_10, bs29_11, bs29_12, bs29_13, tyOk30, agg30, cells30, tyOk31, agg31, cells31, tyOk32, agg32, cells32, tyOk33, agg33, cells33, tyOk34, agg34, cells34, tyOk35, agg35, cells35, tyOk36, agg36, cells36, tyOk37, agg37, cells37, tyOk38, agg38, cells38, tyOk39, agg39, cells39, tyOk40, agg40, cells40, tyOk41, agg41, cells41, tyOk42, agg42, cells42, tyOk43, agg43, cells43, tyOk44, agg44, cells44, tyOk45, agg45, cells45, tyOk46, agg46, cells46, tyOk47, agg47, cells47, tyOk48, agg48, cells48, tyOk49, agg49, cells49, zero49, tyOk50, agg50, cells50, tyOk51, agg51, cells51, tyOk52, agg52, cells52, zero52, tyOk53, agg53, cells53, zero53, fadr53_0, fld53_0, fadr53_1, fld53_1, fadr53_2, fld53_2, fadr53_3, fld53_3, bz53, bds53, tyOk54, agg54, cells54, zero54, fadr54_0, fld54_0, fadr54_1, fld54_1, fadr54_2, fld54_2, fadr54_3, fld54_3, bz54, bds54, tyOk55, agg55, cells55, tyOk56, agg56, cells56, tyOk57, agg57, cells57, zero57, fadr57_0, fld57_0, fadr57_1, fld57_1, fadr57_2, fld57_2, fadr57_3, fld57_3, bz57, bds57, tyOk58, agg58, cells58, zero58, info58, apS49, apN49, bs58_1, bs58_0, fadr58_0, fld58_0, fadr58_1, fld58_1, fadr58_2, fld58_2, fadr58_3, fld58_3, bz58, bds58, tyOk59, agg59, cells59, tyOk60, agg60, cells60, tyOk61, agg61, cells61, tyOk62, agg62, cells62, tyOk63, agg63, cells63, tyOk64, agg64, cells64, tyOk65, agg65, cells65, tyOk66, agg66, cells66, tyOk67, agg67, cells67, tyOk68, agg68, cells68, tyOk69, agg69, cells69, tyOk70, agg70, cells70, tyOk71, agg71, cells71, tyOk72, agg72, cells72, tyOk73, agg73, cells73, tyOk74, agg74, cells74, zero74, tyOk75, agg75, cells75, tyOk76, agg76, cells76, tyOk77, agg77, cells77, tyOk78, agg78, cells78, zero78, ix78, bz78, tyOk79, agg79, cells79, tyOk80, agg80, cells80, tyOk81, agg81, cells81, tyOk82, agg82, cells82, tyOk83, agg83, cells83, tyOk84, agg84, cells84, tyOk85, agg85, cells85, zero85, info85, mk85, bs85_0, bs85_1, bs85_2, bs85_3, bs85_4, bs85_5, bs85_6, bs85_7, bs85_8, bs85_10, bs85_11, bs85_12, bs85_13, tyOk86, agg86, cells86, zero86, ix86, bz86, bd86, tyOk87, agg87, cells87, tyOk88, agg88, cells88, zero88, ix88, bz88, tyOk89, agg89, cells89, tyOk90, agg90, cells90, tyOk91, agg91, cells91, tyOk92, agg92, cells92, tyOk93, agg93, cells93, tyOk94, agg94, cells94, tyOk95, agg95, cells95, tyOk96, agg96, cells96, tyOk97, agg97, cells97, tyOk98, agg98, cells98, tyOk99, agg99, cells99, tyOk100, agg100, cells100, tyOk101, agg101, cells101, tyOk102, agg102, cells102, tyOk103, agg103, cells103, tyOk104, agg104, cells104, tyOk105, agg105, cells105, tyOk106, agg106, cells106, tyOk107, agg107, cells107, tyOk108, agg108, cells108, tyOk109, agg109, cells109, zero109, fadr109_0, fld109_0, fadr109_1, fld109_1, fadr109_2, fld109_2, bz109, bds109, tyOk110, agg110, cells110, zero110, fadr110_0, fld110_0, fadr110_1, fld110_1, fadr110_2, fld110_2, bz110, bds110, tyOk111, agg111, cells111, tyOk112, agg112, cells112, tyOk113, agg113, cells113, zero113, tyOk114, agg114, cells114, zero114, fadr114_0, fld114_0, fadr114_1, fld114_1, bz114, bds114, tyOk115, agg115, cells115, zero115, fadr115_0, fld115_0, fadr115_1, fld115_1, bz115, bds115, tyOk116, agg116, cells116, tyOk117, agg117, cells117, tyOk118, agg118, cells118, tyOk119, agg119, cells119, tyOk120, agg120, cells120, tyOk121, agg121, cells121, tyOk122, agg122, cells122, tyOk123, agg123, cells123, tyOk124, agg124, cells124, tyOk125, agg125, cells125, zero125, tyOk126, agg126, cells126, tyOk127, agg127, cells127, tyOk128, agg128, cells128, tyOk129, agg129, cells129, zero129, info129, mk129, bs129_0, bs129_1, bs129_2, bs129_3, bs129_4, bs129_5, bs129_6, bs129_7, bs129_8, bs129_10, bs129_11, bs129_12, bs129_13, tyOk130, agg130, cells130, tyOk131, agg131, cells131, tyOk132, agg132, cells132, zero132, tyOk133, agg133, cells133, zero133, tyOk134, agg134, cells134, tyOk135, agg135, cells135, tyOk136, agg136, cells136, zero136, fadr136_0, fld136_0, fadr136_1, fld136_1, fadr136_2, fld136_2, fadr136_3, fld136_3, bz136, bds136, tyOk137, agg137, cells137, zero137, fadr137_0, fld137_0, fadr137_1, fld137_1, fadr137_2, fld137_2, fadr137_3, fld137_3, bz137, bds137, tyOk138, agg138, cells138, zero138, tyOk139, agg139, cells139, zero139, tyOk140, agg140, cells140, zero140, tyOk141, agg141, cells141, isU141, zero141, info141, mk141, bs141_0, bs141_1, bs141_2, bs141_3, bs141_4, bs141_5, bs141_6, bs141_7, bs141_8, bs141_10, bs141_11, bs141_12, bs141_13, tyOk142, agg142, cells142, isU142, zero142, info142, mk142, bs142_0, bs142_1, bs142_2, bs142_3, bs142_4, bs142_5, bs142_6, bs142_7, bs142_8, bs142_10, bs142_11, bs142_12, bs142_13, tyOk143, agg143, cells143, tyOk144, agg144, cells144, zero144, info144, mk144, bs144_0, bs144_1, bs144_2, bs144_3, bs144_4, bs144_5, bs144_6, bs144_7, bs144_8, bs144_10, bs144_11, bs144_12, bs144_13, tyOk145, agg145, cells145, zero145, info145, mk145, bs145_0, bs145_1, bs145_2, bs145_3, bs145_4, bs145_5, bs145_6, bs145_7, bs145_8, bs145_10, bs145_11, bs145_12, bs145_13, tyOk146, agg146, cells146, fadr146_0, fld146_0, fadr146_1, fld146_1, fadr146_2, fld146_2, fadr146_3, fld146_3, fadr146_4, fld146_4, fadr146_5, fld146_5, fadr146_6, fld146_6, fadr146_7, fld146_7, fadr146_8, fld146_8, fadr146_9, fld146_9, fadr146_10, fld146_10, tyOk147, agg147, cells147, fadr147_0, fld147_0, fadr147_1, fld147_1, fadr147_2, fld147_2, fadr147_3, fld147_3, fadr147_4, fld147_4, fadr147_5, fld147_5, fadr147_6, fld147_6, fadr147_7, fld147_7, fadr147_8, fld147_8, fadr147_9, fld147_9, fadr147_10, fld147_10, f9]
          refine call1S (by simp -implicitDefEqProofs only [List.map_cons, Nat.reduceLT, ev_tab, upd_eq, List.map_nil] <;> rfl) k5 ?_
          try simp -implicitDefEqProofs only [↓ops_cons, ↓g_move, ↓g_extract, Nat.reduceLT, ev_tab, upd_eq, ext_0, ne_eq, Nat.reduceEqDiff, not_false_eq_true, upd_ne, ext_1, ↓g_assign, ↓ops_nil, ↓w_seq, ↓w_region, ↓g_load, rd_def, tyOk54, agg54, cells54, e10.at f9, rd_aggc, Nat.zero_add, List.length_cons, List.length_nil, Nat.reduceAdd, Nat.le_refl, List.drop_zero, List.take_succ_cons, List.take_zero, if_true, onS_some]
          refine call1S (by simp -implicitDefEqProofs only [List.map_cons, Nat.reduceLT, ev_tab, upd_eq, List.map_nil] <;> rfl) k6 ?_
          try simp -implicitDefEqProofs only [↓ops_cons, ↓g_move, ↓g_extract, Nat.reduceLT, ev_tab, upd_eq, ext_0, ne_eq, Nat.reduceEqDiff, not_false_eq_true, upd_ne, ext_1, ↓g_assign, ↓ops_nil, ↓w_seq, onS_some]
          refine drawn [(21, 0), (22, 0), (36, 0), (37, 0), (46, 39), (47, 39), (61, 49), (63, 49), (63, 63)] follows (by kernel_rfl) (by kernel_rfl) ?_
          try simp -implicitDefEqProofs only [List.append_eq, List.cons_append, List.nil_append, ↓dops_cons, ↓g_move, ↓g_binOp, Nat.reduceLT, ev_tab, ne_eq, Nat.reduceEqDiff, not_false_eq_true, upd_ne, t7, t9, upd_eq, v_eql _ _ _ _ Try.underlying4, beq_self_eq_true, onS_some, yielded_tab, dstAt_s, dstAt_0, ybv_some, boolOf_b, ↓g_guard_t, t6, ↓g_len, Try.underlying49, lX, t8, lY, ↓g_pick, ev_const, of_bool, pick_b, if_true, b_eql, decide_true, t_eql, ↓g_load, rd_def, tyOk58, agg58, cells58, q2, rd_aggc, Nat.zero_add, List.length_cons, List.length_nil, Nat.reduceAdd, Nat.le_refl, List.drop_zero, List.take_succ_cons, List.take_zero, q3, eq2, tyOk54, agg54, cells54, q5, q6]
          refine call1S (by simp -implicitDefEqProofs only [List.map_cons, Nat.reduceLT, ev_tab, ne_eq, Nat.reduceEqDiff, not_false_eq_true, upd_ne, upd_eq, List.map_nil] <;> rfl) j1 ?_
          try simp -implicitDefEqProofs only [↓dops_cons, ↓g_pick, Nat.reduceLT, ev_tab, ne_eq, Nat.reduceEqDiff, not_false_eq_true, upd_ne, upd_eq, ev_const, of_bool, pick_b, if_true, ↓g_move, onS_some, yielded_tab, dstAt_s, dstAt_0, ybv_some, boolOf_b, ↓g_guard_t, ↓g_binOp, v_eql _ _ _ _ Try.underlying4, beq_self_eq_true, ↓g_load, rd_def, tyOk54, agg54, cells54, q72, rd_aggc, Nat.zero_add, List.length_cons, List.length_nil, Nat.reduceAdd, Nat.le_refl, List.drop_zero, List.take_succ_cons, List.take_zero, q82]
          refine call1S (by simp -implicitDefEqProofs only [List.map_cons, Nat.reduceLT, ev_tab, ne_eq, Nat.reduceEqDiff, not_false_eq_true, upd_ne, upd_eq, List.map_nil] <;> rfl) j3 ?_
          try simp -implicitDefEqProofs only [↓dops_cons, ↓g_pick, Nat.reduceLT, ev_tab, ne_eq, Nat.reduceEqDiff, not_false_eq_true, upd_ne, upd_eq, ev_const, of_bool, pick_b, if_true, ↓g_move, onS_some, yielded_tab, dstAt_s, dstAt_0, ybv_some, boolOf_b, ↓g_guard_t, ↓g_binOp, t_eql, beq_self_eq_true, v_eql _ _ _ _ Try.underlying4, ↓g_load, rd_def, tyOk58, agg58, cells58, q11, rd_aggc, Nat.zero_add, List.length_cons, List.length_nil, Nat.reduceAdd, Nat.le_refl, List.drop_zero, List.take_succ_cons, List.take_zero]
          refine call1 (by simp -implicitDefEqProofs only [List.map_cons, Nat.reduceLT, ev_tab, upd_eq, List.map_nil] <;> rfl) j5 ?_
          try simp -implicitDefEqProofs only [↓dops_cons, yielded_tab, dstAt_s, dstAt_0, Nat.reduceLT, ybv_some, ne_eq, Nat.reduceEqDiff, not_false_eq_true, upd_ne, upd_eq, boolOf_b, ↓g_guard_t, ↓g_load, ev_tab, rd_def, tyOk58, agg58, cells58, q11, rd_aggc, Nat.zero_add, List.length_cons, List.length_nil, Nat.reduceAdd, Nat.le_refl, List.drop_zero, List.take_succ_cons, List.take_zero, if_true, onS_some]
          refine call1 (by simp -implicitDefEqProofs only [List.map_cons, Nat.reduceLT, ev_tab, upd_eq, List.map_nil] <;> rfl) j6 ?_
          try simp -implicitDefEqProofs only [↓dops_cons, yielded_tab, dstAt_s, dstAt_0, Nat.reduceLT, ybv_some, ne_eq, Nat.reduceEqDiff, not_false_eq_true, upd_ne, upd_eq, boolOf_b, ↓g_guard_t, ↓g_binOp, ev_tab, v_eql _ _ _ _ Try.underlying4, beq_self_eq_true, ↓g_pick, ev_const, of_bool, pick_b, if_true, ↓g_assign, ↓dops_p, ↓w_ret, retP_1, res_tmp, onS_some, and_true]
          exact pairs_cons (same_calm (by kernel_rfl)) (pairs_cons (same_calm (by kernel_rfl)) (pairs_cons (same_calm (by kernel_rfl)) (pairs_cons (same_calm (by kernel_rfl)) (pairs_cons (same_calm (by kernel_rfl)) (pairs_cons (same_calm (by kernel_rfl)) (pairs_cons (same_calm (by kernel_rfl)) (pairs_cons (same_H rfl) (pairs_cons (same_calm (by kernel_rfl)) pairs_nil))))))))
      · refine ⟨_, rfl, by omega, ?_, ?_, ?_, ?_, ?_, ?_⟩ <;> simp -implicitDefEqProofs only [ne_eq, reduceCtorEq, not_false_eq_true, upd_ne, par0, Nat.reduceEqDiff, upd_eq, Int.cast_ofNat_Int] <;> rfl
    · rw [bigYes hL] at hb
      simp -implicitDefEqProofs only [↓w_seq, ↓w_region, ↓ops_cons, ↓g_assign, ↓ops_nil, ev_const, of_bool, ↓g_move, Nat.reduceLT, ev_tab, ne_eq, reduceCtorEq, not_false_eq_true, upd_ne, par0]
      refine call1S (by simp -implicitDefEqProofs only [List.map_cons, Nat.reduceLT, ev_tab, upd_eq, List.map_nil] <;> rfl) hb ?_
      simp -implicitDefEqProofs only [↓ops_nil, ↓w_cond, Nat.reduceLT, ev_tab, upd_eq, ↓w_seq, ↓w_region, ↓ops_cons, ↓g_assign, ↓w_ret, ev_const, of_bool, retP_1, res_tmp, onS_some, ↓w_skip, ↓g_move, ne_eq, reduceCtorEq, not_false_eq_true, upd_ne, par0, onB_true]
  obtain ⟨v, H', h1, rfl⟩ := key
  exact ⟨H', h1⟩
end Go.Proofs.Ytknmbiebnpojjaa.Sim
