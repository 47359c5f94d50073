/- Leases, routes: what the laws do with them. -/
import Derived.Test.YtfgmmklljibbiaaDoorFRws
namespace Go.Proofs.YtfgmmklljibbiaaDoor.Sim
open Go
set_option maxRecDepth 100000
set_option maxHeartbeats 4000000
set_option linter.unusedSimpArgs false
set_option linter.unusedVariables false
abbrev kLease : List Kd := [.i .i64, .i .i64]
theorem encLease : Enc (Rw.cs (ks := kLease)) 2 := Rw.encs (by decide)
theorem rowLease (r : Rw kLease) : ∃ a0 a1, r.cs = [.sc (.int .i64 a0), .sc (.int .i64 a1)] := by
  have e0 := (r.int_at 0 (k := .i64) rfl).1
  have e1 := (r.int_at 1 (k := .i64) rfl).1
  have hl := r.cs_len
  refine ⟨r.int 0, r.int 1, ?_⟩
  generalize r.cs = z at *
  match z, hl with
  | [x0, x1], _ =>
    simp only [List.getElem?_cons_zero, List.getElem?_cons_succ, Option.some.injEq] at e0 e1
    rw [e0, e1]
theorem csLease (r : Rw kLease) : r.cs = [.sc (.int .i64 (r.int 0)), .sc (.int .i64 (r.int 1))] := by
  have e0 := (r.int_at 0 (k := .i64) rfl).1
  have e1 := (r.int_at 1 (k := .i64) rfl).1
  have hl := r.cs_len
  generalize r.cs = z at *
  match z, hl with
  | [x0, x1], _ =>
    simp only [List.getElem?_cons_zero, List.getElem?_cons_succ, Option.some.injEq] at e0 e1
    rw [e0, e1]
theorem toLease0 (a0 : Int) (a1 : Int) : Fn Tryd.prog 74 [.agg [.sc (.int .i64 a0), .sc (.int .i64 a1)]] (.agg [.sc (.int .i64 a0), .sc (.int .i64 a1)]) := by
  refine Fn.run 11 [.cell 2 135] Tryd.func74 rfl rfl rfl rfl (by simp) (flats_cons (.agg ((flats_cons (.sc _) (flats_cons (.sc _) flats_nil)))) flats_nil) (.agg ((flats_cons (.sc _) (flats_cons (.sc _) flats_nil)))) ?_
  simp -implicitDefEqProofs only [↓w_seq, ↓w_region, ↓ops_cons, ↓g_box, Nat.reduceLT, ev_tab, par0, cells_agg, ↓g_alloc, zero135, Option.map_some, ↓ops_nil, ↓g_fieldAddrT, ne_eq, Nat.reduceEqDiff, not_false_eq_true, upd_ne, upd_eq, ↓g_load, ↓g_store, ↓w_ret, ret_cell, alK_some, List.all_cons, one_int, List.all_nil, Bool.and_self, fadr135_0, Nat.zero_add, fadr135_1, rd_def, tyOk135, agg135, cells135, onS_some, wr_def, tyOk3, cells3, at_end, wr_c, List.length_cons, List.length_nil, Nat.reduceAdd, Nat.reduceLeDiff, true_and, onS_ite, List.length_append, fadr137_0, List.nil_append, List.cons_append, fadr137_1, List.set_cons_succ, List.set_cons_zero, List.getElem?_cons_succ, List.getElem?_cons_zero, agg3, rd_onec, cells_int, and_self, ovC, ovN, Nat.le_refl, over_s, if_true, rd_aggc, List.drop_zero, List.take_succ_cons, List.take_zero]
theorem toLease1 (r : Rw kLease) : Fn Tryd.prog 74 [.agg r.cs] (.agg r.cs) := by
  obtain ⟨a0, a1, e⟩ := rowLease r
  rw [e]
  exact toLease0 a0 a1
theorem eqLease0 (a0 : Int) (a1 : Int) : Fn Tryd.prog 78 [.agg [.sc (.int .i64 a0), .sc (.int .i64 a1)], .agg [.sc (.int .i64 a0), .sc (.int .i64 a1)]] (.sc (.bool true)) := by
  refine Fn.run 15 [.tmp 4] Tryd.func78 rfl rfl rfl rfl (by simp) (flats_cons (.agg ((flats_cons (.sc _) (flats_cons (.sc _) flats_nil)))) (flats_cons (.agg ((flats_cons (.sc _) (flats_cons (.sc _) flats_nil)))) flats_nil)) (.sc _) ?_
  simp -implicitDefEqProofs only [↓w_seq, ↓w_region, ↓ops_cons, ↓g_box, Nat.reduceLT, ev_tab, par0, cells_agg, ne_eq, Nat.reduceEqDiff, not_false_eq_true, upd_ne, par1, ↓g_assign, ↓ops_nil, ev_const, of_bool, ↓g_fieldAddrT, upd_eq, ↓g_load, ↓g_binOp, ↓w_cond, ↓w_ret, ret_one, ↓w_skip, alK_some, List.all_cons, one_int, List.all_nil, Bool.and_self, fadr135_0, Nat.zero_add, fadr135_1, onS_some, rd_def, tyOk3, agg3, cells3, at_end, rd_onec, List.getElem?_cons_succ, List.getElem?_cons_zero, true_and, List.length_nil, List.nil_append, List.cons_append, b_neq, decide_true, Bool.not_true, onB_false, and_self]
theorem eqLease1 (r : Rw kLease) : Fn Tryd.prog 78 [.agg r.cs, .agg r.cs] (.sc (.bool true)) := by
  obtain ⟨a0, a1, e⟩ := rowLease r
  rw [e]
  exact eqLease0 a0 a1
theorem szLeaseSS {H : AHeap} {x : AV} {l : List (Rw kLease)} (n : Int) (hn : 0 ≤ n ∧ n ≤ 1048576) (hx : IsR H x l) (hl : l.length ≤ 9223372036854775807) : Sound Tryd.prog 38 [x, .sc (.int .i64 n)] H (.sc (.int .i64 (if n - (l.length : Int) < 0 then -1 else n - l.length))) H := by
  refine Sound.run 12 [.tmp 4] Tryd.func38 rfl rfl rfl rfl (by simp) ?_
  have lx := fun e => hx.len e
  have e1 : IntKind.i64.wrap (n - (l.length : Int)) = n - l.length := w64 (by omega) (by omega)
  simp -implicitDefEqProofs only [↓w_seq, ↓w_region, Int.reduceNeg, ↓ops_cons, ↓g_assign, ↓ops_nil, ev_const, of_int, ↓g_move, ↓g_len, Tryd.underlying48, Nat.reduceLT, ev_tab, ne_eq, Nat.reduceEqDiff, not_false_eq_true, upd_ne, par1, reduceCtorEq, par0, upd_eq, lx, ↓g_binOp, ↓w_cond, ↓w_ret, ret_one, and_true, ↓w_skip, onS_some, b_sub, e1, b_lss, onB_dec]
  split <;> rfl
theorem toLeaseSS {H : AHeap} {x : AV} {l : List (Rw kLease)} (hx : IsR H x l) (hl : l.length ≤ 1048576) : Sound Tryd.prog 43 [x] H (.sl H.length 0 l.length 2) (H ++ [⟨rows Rw.cs l, true, true⟩]) := by
  refine Sound.run 23 [.tmp 2] Tryd.func43 rfl rfl rfl rfl (by simp) ?_
  have lx := fun e => hx.len e
  have k0 : ∀ j : Nat, (0 : Int) ≤ (j : Int) := fun j => by omega
  have k1 : (l.length : Int) ≤ 1048576 := by omega
  have mk := mk_rows (P := Tryd.prog) (Rw.zero kLease) 135 .i64 .i64 (l.length : Int) 16 encLease (by kernel_rfl) (by kernel_rfl) (by kernel_rfl) (by omega) (by omega) (by omega)
  have ra := rows_all encLease (List.replicate l.length (Rw.zero kLease))
  simp -implicitDefEqProofs only [↓w_seq, ↓w_region, ↓ops_cons, ↓g_assign, ↓ops_nil, ev_const, ↓g_move, ↓g_len, Tryd.underlying48, Nat.reduceLT, ev_tab, ne_eq, reduceCtorEq, not_false_eq_true, upd_ne, par0, upd_eq, lx, ↓g_makeSlice, Tryd.underlying56, ↓w_block, of_int, onS_some, mk, Int.toNat_natCast, alK_some, ra, true_and]
  refine w_loop (ι := Nat) (fun i s => ∃ T : Nat → AV, s = ⟨tab 23 T, H ++ [⟨rows Rw.cs (l.take i ++ List.replicate (l.length - i) (Rw.zero kLease)), true, true⟩]⟩ ∧ i ≤ l.length ∧ T 0 = x ∧ T 3 = .sl H.length 0 l.length 2 ∧ T 4 = .sc (.int .i64 i)) (fun i => l.length - i) ?_ (i := 0) ?_
  · rintro i s ⟨T, rfl, a1, a2, a3, a4⟩
    by_cases h : i < l.length
    · have k2 : (i : Int) < l.length := by omega
      have e1 : IntKind.i64.wrap ((i : Int) + 1) = i + 1 := w64 (by omega) (by omega)
      obtain ⟨r, o, rfl, hr⟩ := hx.get h
      have hrl : r < H.length := (List.getElem?_eq_some_iff.1 hr).1
      have hm := at_more H [⟨rows Rw.cs (l.take i ++ List.replicate (l.length - i) (Rw.zero kLease)), true, true⟩] r hrl
      rw [hr] at hm
      have ha : l[i]? = some l[i] := List.getElem?_eq_getElem h
      generalize l[i] = p at ha
      have rr := fun o => rd_row encLease ha o
      have ww := fun (G : AHeap) => wr_row (H := G) (l := l.take i ++ List.replicate (l.length - i) (Rw.zero kLease)) encLease (i := i) (by simp; omega) H.length p
      have cp := cpy_row (Rw.zero kLease) l i p ha
      have hse : ∀ g h : Reg, (H ++ [g]).set H.length h = H ++ [h] := fun g h => by simp
      have kl : kLease.length = 2 := rfl
      simp -implicitDefEqProofs only [↓w_seq, ↓w_region, List.length_cons, List.length_nil, Nat.zero_add, Nat.reduceAdd, ↓ops_cons, ↓g_move, ↓g_len, Tryd.underlying48, Nat.reduceLT, ev_tab, a4, ne_eq, reduceCtorEq, not_false_eq_true, upd_ne, a2, upd_eq, len_sl, ↓g_binOp, Nat.reduceEqDiff, ↓ops_nil, ↓w_cond, ↓w_skip, ↓w_block, ↓g_indexAddr, a3, adr_sl, k2, cells137, tyOk137, and_self, and_true, ↓g_load, onS_ite, rd_def, agg137, ↓w_exit, ↓g_assign, ↓w_ret, ret_one, true_and, if_true, onS_some, b_lss, decide_true, onB_true]
      try refine drawn [(5, 0)] follows (by kernel_rfl) (by kernel_rfl) ?_
      simp -implicitDefEqProofs only [k0, hm, Int.toNat_natCast, rr, onS_some, true_and]
      refine call1 (by simp -implicitDefEqProofs only [List.map_cons, Nat.reduceLT, ev_tab, upd_eq, List.map_nil] <;> rfl) (toLease1 p) ?_
      simp -implicitDefEqProofs only [↓ops_cons, ↓g_indexAddr, Tryd.underlying56, Nat.reduceLT, ev_tab, ne_eq, Nat.reduceEqDiff, not_false_eq_true, upd_ne, upd_eq, adr_sl, k0, k2, cells135, tyOk135, and_self, Int.toNat_natCast, Nat.zero_add, if_true, ↓g_store, ↓ops_nil, ↓w_region, ↓g_move, ↓g_binOp, a4, ev_const, of_int, b_add, e1, ↓g_assign, onS_some, wr_def, at_end, ww, cp, hse]
      try refine ⟨pairs_cons (same_H rfl) (pairs_nil), ?_⟩
      try simp -implicitDefEqProofs only []
      refine ⟨i + 1, by omega, _, rfl, by omega, ?_, ?_, ?_⟩ <;> simp -implicitDefEqProofs only [ne_eq, reduceCtorEq, not_false_eq_true, upd_ne, a2, kl, Nat.reduceEqDiff, a3, upd_eq] <;> rfl
    · have k2 : ¬ (i : Int) < l.length := by omega
      have hi : i = l.length := by omega
      have e : l.take i ++ List.replicate (l.length - i) (Rw.zero kLease) = l := by rw [hi]; simp
      rw [e]
      simp -implicitDefEqProofs only [↓w_seq, ↓w_region, ↓ops_cons, ↓g_move, ↓g_len, Tryd.underlying48, Nat.reduceLT, ev_tab, a4, ne_eq, reduceCtorEq, not_false_eq_true, upd_ne, a2, upd_eq, lx, ↓g_binOp, Nat.reduceEqDiff, ↓ops_nil, ↓w_cond, ↓w_skip, ↓w_block, ↓g_indexAddr, a3, ↓g_load, ↓w_exit, ↓g_assign, ↓w_ret, ret_one, and_self, if_true, onS_some, b_lss, k2, decide_false, onB_false]
  · refine ⟨_, st_end (by simp), by omega, ?_, ?_, ?_⟩ <;> simp -implicitDefEqProofs only [ne_eq, reduceCtorEq, not_false_eq_true, upd_ne, par0, Nat.reduceEqDiff, upd_eq, Int.cast_ofNat_Int] <;> rfl
theorem eqLeaseSS {H : AHeap} {x y : AV} {l : List (Rw kLease)} (hx : IsR H x l) (hy : IsR H y l) (hl : l.length ≤ 1000000000) : Sound Tryd.prog 47 [x, y] H (.sc (.bool true)) H := by
  refine Sound.run 27 [.tmp 4] Tryd.func47 rfl rfl rfl rfl (by simp) ?_
  have lx := fun e => hx.len e
  have ly := fun e => hy.len e
  simp -implicitDefEqProofs only [↓w_seq, ↓w_region, ↓ops_cons, ↓g_assign, ↓ops_nil, ev_const, of_bool, ↓g_move, ↓g_len, Tryd.underlying56, Nat.reduceLT, ev_tab, ne_eq, reduceCtorEq, not_false_eq_true, upd_ne, par0, upd_eq, lx, Nat.reduceEqDiff, par1, ly, ↓g_binOp, ↓w_cond, ↓w_ret, ret_one, and_true, ↓w_skip, ↓w_block, of_int, onS_some, b_neq, decide_true, Bool.not_true, onB_false]
  refine w_loop (ι := Nat) (fun i s => ∃ T : Nat → AV, s = ⟨tab 27 T, H⟩ ∧ i ≤ l.length ∧ T 0 = x ∧ T 1 = y ∧ T 5 = .sc (.int .i64 i)) (fun i => l.length - i) ?_ (i := 0) ?_
  · rintro i s ⟨T, rfl, a1, a3, a4, a5⟩
    by_cases h : i < l.length
    · have k1 : (i : Int) < l.length := by omega
      have k2 : (0 : Int) ≤ i := by omega
      have e1 : IntKind.i64.wrap ((i : Int) + 1) = i + 1 := w64 (by omega) (by omega)
      have kl : kLease.length = 2 := rfl
      simp -implicitDefEqProofs only [↓w_seq, ↓w_region, ↓ops_cons, ↓g_move, ↓g_len, Tryd.underlying56, Nat.reduceLT, ev_tab, a5, ne_eq, reduceCtorEq, not_false_eq_true, upd_ne, a3, upd_eq, lx, ↓g_binOp, Nat.reduceEqDiff, ↓ops_nil, ↓w_cond, ↓w_skip, ↓w_block, ↓w_exit, ↓g_assign, ↓w_ret, ev_const, of_bool, ret_one, and_self, if_true, onS_some, b_lss, k1, decide_true, onB_true]
      refine drawn [(3, 0), (7, 0)] follows (by kernel_rfl) (by kernel_rfl) ?_
      obtain ⟨r, o, rfl, hr⟩ := hx.get h
      obtain ⟨q, o2, rfl, hq⟩ := hy.get h
      have ha : l[i]? = some l[i] := List.getElem?_eq_getElem h
      generalize l[i] = p at *
      have rr := fun o => rd_row encLease ha o
      simp -implicitDefEqProofs only [kl, ↓dops_cons, ↓g_move, ↓g_indexAddr, Tryd.underlying56, Nat.reduceLT, ev_tab, ne_eq, reduceCtorEq, not_false_eq_true, upd_ne, a3, Nat.reduceEqDiff, a5, upd_eq, adr_sl, k2, k1, cells135, tyOk135, and_self, Int.toNat_natCast, Nat.zero_add, if_true, ↓g_load, a4, onS_some, rd_def, agg135, hq, rr, hr]
      refine call1 (by simp -implicitDefEqProofs only [List.map_cons, Nat.reduceLT, ev_tab, ne_eq, Nat.reduceEqDiff, not_false_eq_true, upd_ne, upd_eq, List.map_nil] <;> rfl) (eqLease1 p) ?_
      simp -implicitDefEqProofs only [↓dops_cons, ↓g_unOp, Nat.reduceLT, ev_tab, upd_eq, u_not, Bool.not_true, Option.map_some, ↓dops_p, ↓w_cond, ↓w_seq, ↓w_region, ↓ops_cons, ↓g_assign, ↓ops_nil, ↓w_ret, ev_const, of_bool, ret_one, and_true, ↓w_skip, ↓g_move, ↓g_binOp, ne_eq, Nat.reduceEqDiff, not_false_eq_true, upd_ne, of_int, onS_some, onB_false]
      refine ⟨pairs_cons (same_H rfl) (pairs_cons (same_H rfl) (pairs_nil)), ?_⟩
      simp -implicitDefEqProofs only [a5, b_add, e1, onS_some]
      refine ⟨i + 1, by omega, _, rfl, by omega, ?_, ?_, ?_⟩ <;> simp -implicitDefEqProofs only [ne_eq, reduceCtorEq, not_false_eq_true, upd_ne, a3, kl, Nat.reduceEqDiff, a4, upd_eq] <;> rfl
    · have k1 : ¬ (i : Int) < l.length := by omega
      simp -implicitDefEqProofs only [↓w_seq, ↓w_region, ↓ops_cons, ↓g_move, ↓g_len, Tryd.underlying56, Nat.reduceLT, ev_tab, a5, ne_eq, reduceCtorEq, not_false_eq_true, upd_ne, a3, upd_eq, lx, ↓g_binOp, Nat.reduceEqDiff, ↓ops_nil, ↓w_cond, ↓w_skip, ↓w_block, ↓w_exit, ↓g_assign, ↓w_ret, ev_const, of_bool, ret_one, and_self, if_true, onS_some, b_lss, k1, decide_false, onB_false]
  · refine ⟨_, rfl, by omega, ?_, ?_, ?_⟩ <;> simp -implicitDefEqProofs only [ne_eq, reduceCtorEq, not_false_eq_true, upd_ne, par0, Nat.reduceEqDiff, par1, upd_eq, Int.cast_ofNat_Int] <;> rfl
abbrev kRoute : List Kd := [.i .i64, .i .i64, .i .i64]
theorem encRoute : Enc (Rw.cs (ks := kRoute)) 3 := Rw.encs (by decide)
theorem rowRoute (r : Rw kRoute) : ∃ a0 a1 a2, r.cs = [.sc (.int .i64 a0), .sc (.int .i64 a1), .sc (.int .i64 a2)] := by
  have e0 := (r.int_at 0 (k := .i64) rfl).1
  have e1 := (r.int_at 1 (k := .i64) rfl).1
  have e2 := (r.int_at 2 (k := .i64) rfl).1
  have hl := r.cs_len
  refine ⟨r.int 0, r.int 1, r.int 2, ?_⟩
  generalize r.cs = z at *
  match z, hl with
  | [x0, x1, x2], _ =>
    simp only [List.getElem?_cons_zero, List.getElem?_cons_succ, Option.some.injEq] at e0 e1 e2
    rw [e0, e1, e2]
theorem csRoute (r : Rw kRoute) : r.cs = [.sc (.int .i64 (r.int 0)), .sc (.int .i64 (r.int 1)), .sc (.int .i64 (r.int 2))] := by
  have e0 := (r.int_at 0 (k := .i64) rfl).1
  have e1 := (r.int_at 1 (k := .i64) rfl).1
  have e2 := (r.int_at 2 (k := .i64) rfl).1
  have hl := r.cs_len
  generalize r.cs = z at *
  match z, hl with
  | [x0, x1, x2], _ =>
    simp only [List.getElem?_cons_zero, List.getElem?_cons_succ, Option.some.injEq] at e0 e1 e2
    rw [e0, e1, e2]
theorem toRoute0 (a0 : Int) (a1 : Int) (a2 : Int) : Fn Tryd.prog 75 [.agg [.sc (.int .i64 a0), .sc (.int .i64 a1), .sc (.int .i64 a2)]] (.agg [.sc (.int .i64 a0), .sc (.int .i64 a1), .sc (.int .i64 a2)]) := by
  refine Fn.run 14 [.cell 2 139] Tryd.func75 rfl rfl rfl rfl (by simp) (flats_cons (.agg ((flats_cons (.sc _) (flats_cons (.sc _) (flats_cons (.sc _) flats_nil))))) flats_nil) (.agg ((flats_cons (.sc _) (flats_cons (.sc _) (flats_cons (.sc _) flats_nil))))) ?_
  simp -implicitDefEqProofs only [↓w_seq, ↓w_region, ↓ops_cons, ↓g_box, Nat.reduceLT, ev_tab, par0, cells_agg, ↓g_alloc, zero139, Option.map_some, ↓ops_nil, ↓g_fieldAddrT, ne_eq, Nat.reduceEqDiff, not_false_eq_true, upd_ne, upd_eq, ↓g_load, ↓g_store, ↓w_ret, ret_cell, alK_some, List.all_cons, one_int, List.all_nil, Bool.and_self, fadr139_0, Nat.zero_add, fadr139_1, fadr139_2, rd_def, tyOk139, agg139, cells139, onS_some, wr_def, tyOk3, cells3, at_end, wr_c, List.length_cons, List.length_nil, Nat.reduceAdd, Nat.reduceLeDiff, true_and, onS_ite, List.length_append, fadr141_0, List.nil_append, List.cons_append, fadr141_1, List.set_cons_succ, List.set_cons_zero, List.getElem?_cons_succ, List.getElem?_cons_zero, fadr141_2, agg3, rd_onec, cells_int, and_self, ovC, ovN, over_s, if_true, Nat.le_refl, rd_aggc, List.drop_zero, List.take_succ_cons, List.take_zero]
theorem toRoute1 (r : Rw kRoute) : Fn Tryd.prog 75 [.agg r.cs] (.agg r.cs) := by
  obtain ⟨a0, a1, a2, e⟩ := rowRoute r
  rw [e]
  exact toRoute0 a0 a1 a2
theorem eqRoute0 (a0 : Int) (a1 : Int) (a2 : Int) : Fn Tryd.prog 79 [.agg [.sc (.int .i64 a0), .sc (.int .i64 a1), .sc (.int .i64 a2)], .agg [.sc (.int .i64 a0), .sc (.int .i64 a1), .sc (.int .i64 a2)]] (.sc (.bool true)) := by
  refine Fn.run 20 [.tmp 4] Tryd.func79 rfl rfl rfl rfl (by simp) (flats_cons (.agg ((flats_cons (.sc _) (flats_cons (.sc _) (flats_cons (.sc _) flats_nil))))) (flats_cons (.agg ((flats_cons (.sc _) (flats_cons (.sc _) (flats_cons (.sc _) flats_nil))))) flats_nil)) (.sc _) ?_
  simp -implicitDefEqProofs only [↓w_seq, ↓w_region, ↓ops_cons, ↓g_box, Nat.reduceLT, ev_tab, par0, cells_agg, ne_eq, Nat.reduceEqDiff, not_false_eq_true, upd_ne, par1, ↓g_assign, ↓ops_nil, ev_const, of_bool, ↓g_fieldAddrT, upd_eq, ↓g_load, ↓g_binOp, ↓w_cond, ↓w_ret, ret_one, ↓w_skip, alK_some, List.all_cons, one_int, List.all_nil, Bool.and_self, fadr139_0, Nat.zero_add, fadr139_1, fadr139_2, onS_some, rd_def, tyOk3, agg3, cells3, at_end, rd_onec, List.getElem?_cons_succ, List.getElem?_cons_zero, true_and, List.length_nil, List.nil_append, List.cons_append, b_neq, decide_true, Bool.not_true, onB_false, and_self]
theorem eqRoute1 (r : Rw kRoute) : Fn Tryd.prog 79 [.agg r.cs, .agg r.cs] (.sc (.bool true)) := by
  obtain ⟨a0, a1, a2, e⟩ := rowRoute r
  rw [e]
  exact eqRoute0 a0 a1 a2
theorem szRouteSS {H : AHeap} {x : AV} {l : List (Rw kRoute)} (n : Int) (hn : 0 ≤ n ∧ n ≤ 1048576) (hx : IsR H x l) (hl : l.length ≤ 9223372036854775807) : Sound Tryd.prog 39 [x, .sc (.int .i64 n)] H (.sc (.int .i64 (if n - (l.length : Int) < 0 then -1 else n - l.length))) H := by
  refine Sound.run 12 [.tmp 4] Tryd.func39 rfl rfl rfl rfl (by simp) ?_
  have lx := fun e => hx.len e
  have e1 : IntKind.i64.wrap (n - (l.length : Int)) = n - l.length := w64 (by omega) (by omega)
  simp -implicitDefEqProofs only [↓w_seq, ↓w_region, Int.reduceNeg, ↓ops_cons, ↓g_assign, ↓ops_nil, ev_const, of_int, ↓g_move, ↓g_len, Tryd.underlying49, Nat.reduceLT, ev_tab, ne_eq, Nat.reduceEqDiff, not_false_eq_true, upd_ne, par1, reduceCtorEq, par0, upd_eq, lx, ↓g_binOp, ↓w_cond, ↓w_ret, ret_one, and_true, ↓w_skip, onS_some, b_sub, e1, b_lss, onB_dec]
  split <;> rfl
theorem toRouteSS {H : AHeap} {x : AV} {l : List (Rw kRoute)} (hx : IsR H x l) (hl : l.length ≤ 1048576) : Sound Tryd.prog 44 [x] H (.sl H.length 0 l.length 3) (H ++ [⟨rows Rw.cs l, true, true⟩]) := by
  refine Sound.run 23 [.tmp 2] Tryd.func44 rfl rfl rfl rfl (by simp) ?_
  have lx := fun e => hx.len e
  have k0 : ∀ j : Nat, (0 : Int) ≤ (j : Int) := fun j => by omega
  have k1 : (l.length : Int) ≤ 1048576 := by omega
  have mk := mk_rows (P := Tryd.prog) (Rw.zero kRoute) 139 .i64 .i64 (l.length : Int) 24 encRoute (by kernel_rfl) (by kernel_rfl) (by kernel_rfl) (by omega) (by omega) (by omega)
  have ra := rows_all encRoute (List.replicate l.length (Rw.zero kRoute))
  simp -implicitDefEqProofs only [↓w_seq, ↓w_region, ↓ops_cons, ↓g_assign, ↓ops_nil, ev_const, ↓g_move, ↓g_len, Tryd.underlying49, Nat.reduceLT, ev_tab, ne_eq, reduceCtorEq, not_false_eq_true, upd_ne, par0, upd_eq, lx, ↓g_makeSlice, Tryd.underlying57, ↓w_block, of_int, onS_some, mk, Int.toNat_natCast, alK_some, ra, true_and]
  refine w_loop (ι := Nat) (fun i s => ∃ T : Nat → AV, s = ⟨tab 23 T, H ++ [⟨rows Rw.cs (l.take i ++ List.replicate (l.length - i) (Rw.zero kRoute)), true, true⟩]⟩ ∧ i ≤ l.length ∧ T 0 = x ∧ T 3 = .sl H.length 0 l.length 3 ∧ T 4 = .sc (.int .i64 i)) (fun i => l.length - i) ?_ (i := 0) ?_
  · rintro i s ⟨T, rfl, a1, a2, a3, a4⟩
    by_cases h : i < l.length
    · have k2 : (i : Int) < l.length := by omega
      have e1 : IntKind.i64.wrap ((i : Int) + 1) = i + 1 := w64 (by omega) (by omega)
      obtain ⟨r, o, rfl, hr⟩ := hx.get h
      have hrl : r < H.length := (List.getElem?_eq_some_iff.1 hr).1
      have hm := at_more H [⟨rows Rw.cs (l.take i ++ List.replicate (l.length - i) (Rw.zero kRoute)), true, true⟩] r hrl
      rw [hr] at hm
      have ha : l[i]? = some l[i] := List.getElem?_eq_getElem h
      generalize l[i] = p at ha
      have rr := fun o => rd_row encRoute ha o
      have ww := fun (G : AHeap) => wr_row (H := G) (l := l.take i ++ List.replicate (l.length - i) (Rw.zero kRoute)) encRoute (i := i) (by simp; omega) H.length p
      have cp := cpy_row (Rw.zero kRoute) l i p ha
      have hse : ∀ g h : Reg, (H ++ [g]).set H.length h = H ++ [h] := fun g h => by simp
      have kl : kRoute.length = 3 := rfl
      simp -implicitDefEqProofs only [↓w_seq, ↓w_region, List.length_cons, List.length_nil, Nat.zero_add, Nat.reduceAdd, ↓ops_cons, ↓g_move, ↓g_len, Tryd.underlying49, Nat.reduceLT, ev_tab, a4, ne_eq, reduceCtorEq, not_false_eq_true, upd_ne, a2, upd_eq, len_sl, ↓g_binOp, Nat.reduceEqDiff, ↓ops_nil, ↓w_cond, ↓w_skip, ↓w_block, ↓g_indexAddr, a3, adr_sl, k2, cells141, tyOk141, and_self, and_true, ↓g_load, onS_ite, rd_def, agg141, ↓w_exit, ↓g_assign, ↓w_ret, ret_one, true_and, if_true, onS_some, b_lss, decide_true, onB_true]
      try refine drawn [(5, 0)] follows (by kernel_rfl) (by kernel_rfl) ?_
      simp -implicitDefEqProofs only [k0, hm, Int.toNat_natCast, rr, onS_some, true_and]
      refine call1 (by simp -implicitDefEqProofs only [List.map_cons, Nat.reduceLT, ev_tab, upd_eq, List.map_nil] <;> rfl) (toRoute1 p) ?_
      simp -implicitDefEqProofs only [↓ops_cons, ↓g_indexAddr, Tryd.underlying57, Nat.reduceLT, ev_tab, ne_eq, Nat.reduceEqDiff, not_false_eq_true, upd_ne, upd_eq, adr_sl, k0, k2, cells139, tyOk139, and_self, Int.toNat_natCast, Nat.zero_add, if_true, ↓g_store, ↓ops_nil, ↓w_region, ↓g_move, ↓g_binOp, a4, ev_const, of_int, b_add, e1, ↓g_assign, onS_some, wr_def, at_end, ww, cp, hse]
      try refine ⟨pairs_cons (same_H rfl) (pairs_nil), ?_⟩
      try simp -implicitDefEqProofs only []
      refine ⟨i + 1, by omega, _, rfl, by omega, ?_, ?_, ?_⟩ <;> simp -implicitDefEqProofs only [ne_eq, reduceCtorEq, not_false_eq_true, upd_ne, a2, kl, Nat.reduceEqDiff, a3, upd_eq] <;> rfl
    · have k2 : ¬ (i : Int) < l.length := by omega
      have hi : i = l.length := by omega
      have e : l.take i ++ List.replicate (l.length - i) (Rw.zero kRoute) = l := by rw [hi]; simp
      rw [e]
      simp -implicitDefEqProofs only [↓w_seq, ↓w_region, ↓ops_cons, ↓g_move, ↓g_len, Tryd.underlying49, Nat.reduceLT, ev_tab, a4, ne_eq, reduceCtorEq, not_false_eq_true, upd_ne, a2, upd_eq, lx, ↓g_binOp, Nat.reduceEqDiff, ↓ops_nil, ↓w_cond, ↓w_skip, ↓w_block, ↓g_indexAddr, a3, ↓g_load, ↓w_exit, ↓g_assign, ↓w_ret, ret_one, and_self, if_true, onS_some, b_lss, k2, decide_false, onB_false]
  · refine ⟨_, st_end (by simp), by omega, ?_, ?_, ?_⟩ <;> simp -implicitDefEqProofs only [ne_eq, reduceCtorEq, not_false_eq_true, upd_ne, par0, Nat.reduceEqDiff, upd_eq, Int.cast_ofNat_Int] <;> rfl
theorem eqRouteSS {H : AHeap} {x y : AV} {l : List (Rw kRoute)} (hx : IsR H x l) (hy : IsR H y l) (hl : l.length ≤ 1000000000) : Sound Tryd.prog 48 [x, y] H (.sc (.bool true)) H := by
  refine Sound.run 27 [.tmp 4] Tryd.func48 rfl rfl rfl rfl (by simp) ?_
  have lx := fun e => hx.len e
  have ly := fun e => hy.len e
  simp -implicitDefEqProofs only [↓w_seq, ↓w_region, ↓ops_cons, ↓g_assign, ↓ops_nil, ev_const, of_bool, ↓g_move, ↓g_len, Tryd.underlying57, Nat.reduceLT, ev_tab, ne_eq, reduceCtorEq, not_false_eq_true, upd_ne, par0, upd_eq, lx, Nat.reduceEqDiff, par1, ly, ↓g_binOp, ↓w_cond, ↓w_ret, ret_one, and_true, ↓w_skip, ↓w_block, of_int, onS_some, b_neq, decide_true, Bool.not_true, onB_false]
  refine w_loop (ι := Nat) (fun i s => ∃ T : Nat → AV, s = ⟨tab 27 T, H⟩ ∧ i ≤ l.length ∧ T 0 = x ∧ T 1 = y ∧ T 5 = .sc (.int .i64 i)) (fun i => l.length - i) ?_ (i := 0) ?_
  · rintro i s ⟨T, rfl, a1, a3, a4, a5⟩
    by_cases h : i < l.length
    · have k1 : (i : Int) < l.length := by omega
      have k2 : (0 : Int) ≤ i := by omega
      have e1 : IntKind.i64.wrap ((i : Int) + 1) = i + 1 := w64 (by omega) (by omega)
      have kl : kRoute.length = 3 := rfl
      simp -implicitDefEqProofs only [↓w_seq, ↓w_region, ↓ops_cons, ↓g_move, ↓g_len, Tryd.underlying57, Nat.reduceLT, ev_tab, a5, ne_eq, reduceCtorEq, not_false_eq_true, upd_ne, a3, upd_eq, lx, ↓g_binOp, Nat.reduceEqDiff, ↓ops_nil, ↓w_cond, ↓w_skip, ↓w_block, ↓w_exit, ↓g_assign, ↓w_ret, ev_const, of_bool, ret_one, and_self, if_true, onS_some, b_lss, k1, decide_true, onB_true]
      refine drawn [(3, 0), (7, 0)] follows (by kernel_rfl) (by kernel_rfl) ?_
      obtain ⟨r, o, rfl, hr⟩ := hx.get h
      obtain ⟨q, o2, rfl, hq⟩ := hy.get h
      have ha : l[i]? = some l[i] := List.getElem?_eq_getElem h
      generalize l[i] = p at *
      have rr := fun o => rd_row encRoute ha o
      simp -implicitDefEqProofs only [kl, ↓dops_cons, ↓g_move, ↓g_indexAddr, Tryd.underlying57, Nat.reduceLT, ev_tab, ne_eq, reduceCtorEq, not_false_eq_true, upd_ne, a3, Nat.reduceEqDiff, a5, upd_eq, adr_sl, k2, k1, cells139, tyOk139, and_self, Int.toNat_natCast, Nat.zero_add, if_true, ↓g_load, a4, onS_some, rd_def, agg139, hq, rr, hr]
      refine call1 (by simp -implicitDefEqProofs only [List.map_cons, Nat.reduceLT, ev_tab, ne_eq, Nat.reduceEqDiff, not_false_eq_true, upd_ne, upd_eq, List.map_nil] <;> rfl) (eqRoute1 p) ?_
      simp -implicitDefEqProofs only [↓dops_cons, ↓g_unOp, Nat.reduceLT, ev_tab, upd_eq, u_not, Bool.not_true, Option.map_some, ↓dops_p, ↓w_cond, ↓w_seq, ↓w_region, ↓ops_cons, ↓g_assign, ↓ops_nil, ↓w_ret, ev_const, of_bool, ret_one, and_true, ↓w_skip, ↓g_move, ↓g_binOp, ne_eq, Nat.reduceEqDiff, not_false_eq_true, upd_ne, of_int, onS_some, onB_false]
      refine ⟨pairs_cons (same_H rfl) (pairs_cons (same_H rfl) (pairs_nil)), ?_⟩
      simp -implicitDefEqProofs only [a5, b_add, e1, onS_some]
      refine ⟨i + 1, by omega, _, rfl, by omega, ?_, ?_, ?_⟩ <;> simp -implicitDefEqProofs only [ne_eq, reduceCtorEq, not_false_eq_true, upd_ne, a3, kl, Nat.reduceEqDiff, a4, upd_eq] <;> rfl
    · have k1 : ¬ (i : Int) < l.length := by omega
      simp -implicitDefEqProofs only [↓w_seq, ↓w_region, ↓ops_cons, ↓g_move, ↓g_len, Tryd.underlying57, Nat.reduceLT, ev_tab, a5, ne_eq, reduceCtorEq, not_false_eq_true, upd_ne, a3, upd_eq, lx, ↓g_binOp, Nat.reduceEqDiff, ↓ops_nil, ↓w_cond, ↓w_skip, ↓w_block, ↓w_exit, ↓g_assign, ↓w_ret, ev_const, of_bool, ret_one, and_self, if_true, onS_some, b_lss, k1, decide_false, onB_false]
  · refine ⟨_, rfl, by omega, ?_, ?_, ?_⟩ <;> simp -implicitDefEqProofs only [ne_eq, reduceCtorEq, not_false_eq_true, upd_ne, par0, Nat.reduceEqDiff, par1, upd_eq, Int.cast_ofNat_Int] <;> rfl
end Go.Proofs.YtfgmmklljibbiaaDoor.Sim

