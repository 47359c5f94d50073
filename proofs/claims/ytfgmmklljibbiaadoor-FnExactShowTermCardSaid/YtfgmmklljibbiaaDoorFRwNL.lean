/- Nodes, letters, notes: what the laws do with them. -/
import Derived.Test.YtfgmmklljibbiaaDoorFRws
namespace Go.Proofs.YtfgmmklljibbiaaDoor.Sim
open Go
set_option maxRecDepth 100000
set_option maxHeartbeats 4000000
set_option linter.unusedSimpArgs false
set_option linter.unusedVariables false
abbrev kNode : List Kd := [.i .i64, .i .i64, .i .i64, .i .i64]
theorem encNode : Enc (Rw.cs (ks := kNode)) 4 := Rw.encs (by decide)
theorem rowNode (r : Rw kNode) : ∃ a0 a1 a2 a3, r.cs = [.sc (.int .i64 a0), .sc (.int .i64 a1), .sc (.int .i64 a2), .sc (.int .i64 a3)] := by
  have e0 := (r.int_at 0 (k := .i64) rfl).1
  have e1 := (r.int_at 1 (k := .i64) rfl).1
  have e2 := (r.int_at 2 (k := .i64) rfl).1
  have e3 := (r.int_at 3 (k := .i64) rfl).1
  have hl := r.cs_len
  refine ⟨r.int 0, r.int 1, r.int 2, r.int 3, ?_⟩
  generalize r.cs = z at *
  match z, hl with
  | [x0, x1, x2, x3], _ =>
    simp only [List.getElem?_cons_zero, List.getElem?_cons_succ, Option.some.injEq] at e0 e1 e2 e3
    rw [e0, e1, e2, e3]
theorem csNode (r : Rw kNode) : r.cs = [.sc (.int .i64 (r.int 0)), .sc (.int .i64 (r.int 1)), .sc (.int .i64 (r.int 2)), .sc (.int .i64 (r.int 3))] := by
  have e0 := (r.int_at 0 (k := .i64) rfl).1
  have e1 := (r.int_at 1 (k := .i64) rfl).1
  have e2 := (r.int_at 2 (k := .i64) rfl).1
  have e3 := (r.int_at 3 (k := .i64) rfl).1
  have hl := r.cs_len
  generalize r.cs = z at *
  match z, hl with
  | [x0, x1, x2, x3], _ =>
    simp only [List.getElem?_cons_zero, List.getElem?_cons_succ, Option.some.injEq] at e0 e1 e2 e3
    rw [e0, e1, e2, e3]
theorem toNode0 (a0 : Int) (a1 : Int) (a2 : Int) (a3 : Int) : Fn Tryd.prog 66 [.agg [.sc (.int .i64 a0), .sc (.int .i64 a1), .sc (.int .i64 a2), .sc (.int .i64 a3)]] (.agg [.sc (.int .i64 a0), .sc (.int .i64 a1), .sc (.int .i64 a2), .sc (.int .i64 a3)]) := by
  refine Fn.run 17 [.cell 2 123] Tryd.func66 rfl rfl rfl rfl (by simp) (flats_cons (.agg ((flats_cons (.sc _) (flats_cons (.sc _) (flats_cons (.sc _) (flats_cons (.sc _) flats_nil)))))) flats_nil) (.agg ((flats_cons (.sc _) (flats_cons (.sc _) (flats_cons (.sc _) (flats_cons (.sc _) flats_nil)))))) ?_
  simp -implicitDefEqProofs only [↓w_seq, ↓w_region, ↓ops_cons, ↓g_box, Nat.reduceLT, ev_tab, par0, cells_agg, ↓g_alloc, zero123, Option.map_some, ↓ops_nil, ↓g_fieldAddrT, ne_eq, Nat.reduceEqDiff, not_false_eq_true, upd_ne, upd_eq, ↓g_load, ↓g_store, ↓w_ret, ret_cell, alK_some, List.all_cons, one_int, List.all_nil, Bool.and_self, fadr123_0, Nat.zero_add, fadr123_1, fadr123_2, fadr123_3, rd_def, tyOk123, agg123, cells123, onS_some, wr_def, tyOk3, cells3, at_end, wr_c, List.length_cons, List.length_nil, Nat.reduceAdd, Nat.reduceLeDiff, true_and, onS_ite, List.length_append, fadr126_0, List.nil_append, List.cons_append, fadr126_1, List.set_cons_succ, List.set_cons_zero, List.getElem?_cons_succ, List.getElem?_cons_zero, fadr126_2, fadr126_3, agg3, rd_onec, cells_int, and_self, ovC, ovN, over_s, if_true, rd_aggc, List.drop_zero, List.take_succ_cons, Nat.le_refl, and_true, List.take_zero]
theorem toNode1 (r : Rw kNode) : Fn Tryd.prog 66 [.agg r.cs] (.agg r.cs) := by
  obtain ⟨a0, a1, a2, a3, e⟩ := rowNode r
  rw [e]
  exact toNode0 a0 a1 a2 a3
theorem eqNode0 (a0 : Int) (a1 : Int) (a2 : Int) (a3 : Int) : Fn Tryd.prog 71 [.agg [.sc (.int .i64 a0), .sc (.int .i64 a1), .sc (.int .i64 a2), .sc (.int .i64 a3)], .agg [.sc (.int .i64 a0), .sc (.int .i64 a1), .sc (.int .i64 a2), .sc (.int .i64 a3)]] (.sc (.bool true)) := by
  refine Fn.run 25 [.tmp 4] Tryd.func71 rfl rfl rfl rfl (by simp) (flats_cons (.agg ((flats_cons (.sc _) (flats_cons (.sc _) (flats_cons (.sc _) (flats_cons (.sc _) flats_nil)))))) (flats_cons (.agg ((flats_cons (.sc _) (flats_cons (.sc _) (flats_cons (.sc _) (flats_cons (.sc _) flats_nil)))))) flats_nil)) (.sc _) ?_
  simp -implicitDefEqProofs only [↓w_seq, ↓w_region, ↓ops_cons, ↓g_box, Nat.reduceLT, ev_tab, par0, cells_agg, ne_eq, Nat.reduceEqDiff, not_false_eq_true, upd_ne, par1, ↓g_assign, ↓ops_nil, ev_const, of_bool, ↓g_fieldAddrT, upd_eq, ↓g_load, ↓g_binOp, ↓w_cond, ↓w_ret, ret_one, ↓w_skip, alK_some, List.all_cons, one_int, List.all_nil, Bool.and_self, fadr123_0, Nat.zero_add, fadr123_1, fadr123_2, fadr123_3, onS_some, rd_def, tyOk3, agg3, cells3, at_end, rd_onec, List.getElem?_cons_succ, List.getElem?_cons_zero, true_and, List.length_nil, List.nil_append, List.cons_append, b_neq, decide_true, Bool.not_true, onB_false, and_self]
theorem eqNode1 (r : Rw kNode) : Fn Tryd.prog 71 [.agg r.cs, .agg r.cs] (.sc (.bool true)) := by
  obtain ⟨a0, a1, a2, a3, e⟩ := rowNode r
  rw [e]
  exact eqNode0 a0 a1 a2 a3
theorem szNodeSS {H : AHeap} {x : AV} {l : List (Rw kNode)} (n : Int) (hn : 0 ≤ n ∧ n ≤ 1048576) (hx : IsR H x l) (hl : l.length ≤ 9223372036854775807) : Sound Tryd.prog 30 [x, .sc (.int .i64 n)] H (.sc (.int .i64 (if n - (l.length : Int) < 0 then -1 else n - l.length))) H := by
  refine Sound.run 12 [.tmp 4] Tryd.func30 rfl rfl rfl rfl (by simp) ?_
  have lx := fun e => hx.len e
  have e1 : IntKind.i64.wrap (n - (l.length : Int)) = n - l.length := w64 (by omega) (by omega)
  simp -implicitDefEqProofs only [↓w_seq, ↓w_region, Int.reduceNeg, ↓ops_cons, ↓g_assign, ↓ops_nil, ev_const, of_int, ↓g_move, ↓g_len, Tryd.underlying36, Nat.reduceLT, ev_tab, ne_eq, Nat.reduceEqDiff, not_false_eq_true, upd_ne, par1, reduceCtorEq, par0, upd_eq, lx, ↓g_binOp, ↓w_cond, ↓w_ret, ret_one, and_true, ↓w_skip, onS_some, b_sub, e1, b_lss, onB_dec]
  split <;> rfl
theorem toNodeSS {H : AHeap} {x : AV} {l : List (Rw kNode)} (hx : IsR H x l) (hl : l.length ≤ 1048576) : Sound Tryd.prog 33 [x] H (.sl H.length 0 l.length 4) (H ++ [⟨rows Rw.cs l, true, true⟩]) := by
  refine Sound.run 23 [.tmp 2] Tryd.func33 rfl rfl rfl rfl (by simp) ?_
  have lx := fun e => hx.len e
  have k0 : ∀ j : Nat, (0 : Int) ≤ (j : Int) := fun j => by omega
  have k1 : (l.length : Int) ≤ 1048576 := by omega
  have mk := mk_rows (P := Tryd.prog) (Rw.zero kNode) 123 .i64 .i64 (l.length : Int) 32 encNode (by kernel_rfl) (by kernel_rfl) (by kernel_rfl) (by omega) (by omega) (by omega)
  have ra := rows_all encNode (List.replicate l.length (Rw.zero kNode))
  simp -implicitDefEqProofs only [↓w_seq, ↓w_region, ↓ops_cons, ↓g_assign, ↓ops_nil, ev_const, ↓g_move, ↓g_len, Tryd.underlying36, Nat.reduceLT, ev_tab, ne_eq, reduceCtorEq, not_false_eq_true, upd_ne, par0, upd_eq, lx, ↓g_makeSlice, Tryd.underlying41, ↓w_block, of_int, onS_some, mk, Int.toNat_natCast, alK_some, ra, true_and]
  refine w_loop (ι := Nat) (fun i s => ∃ T : Nat → AV, s = ⟨tab 23 T, H ++ [⟨rows Rw.cs (l.take i ++ List.replicate (l.length - i) (Rw.zero kNode)), true, true⟩]⟩ ∧ i ≤ l.length ∧ T 0 = x ∧ T 3 = .sl H.length 0 l.length 4 ∧ T 4 = .sc (.int .i64 i)) (fun i => l.length - i) ?_ (i := 0) ?_
  · rintro i s ⟨T, rfl, a1, a2, a3, a4⟩
    by_cases h : i < l.length
    · have k2 : (i : Int) < l.length := by omega
      have e1 : IntKind.i64.wrap ((i : Int) + 1) = i + 1 := w64 (by omega) (by omega)
      obtain ⟨r, o, rfl, hr⟩ := hx.get h
      have hrl : r < H.length := (List.getElem?_eq_some_iff.1 hr).1
      have hm := at_more H [⟨rows Rw.cs (l.take i ++ List.replicate (l.length - i) (Rw.zero kNode)), true, true⟩] r hrl
      rw [hr] at hm
      have ha : l[i]? = some l[i] := List.getElem?_eq_getElem h
      generalize l[i] = p at ha
      have rr := fun o => rd_row encNode ha o
      have ww := fun (G : AHeap) => wr_row (H := G) (l := l.take i ++ List.replicate (l.length - i) (Rw.zero kNode)) encNode (i := i) (by simp; omega) H.length p
      have cp := cpy_row (Rw.zero kNode) l i p ha
      have hse : ∀ g h : Reg, (H ++ [g]).set H.length h = H ++ [h] := fun g h => by simp
      have kl : kNode.length = 4 := rfl
      simp -implicitDefEqProofs only [↓w_seq, ↓w_region, List.length_cons, List.length_nil, Nat.zero_add, Nat.reduceAdd, ↓ops_cons, ↓g_move, ↓g_len, Tryd.underlying36, Nat.reduceLT, ev_tab, a4, ne_eq, reduceCtorEq, not_false_eq_true, upd_ne, a2, upd_eq, len_sl, ↓g_binOp, Nat.reduceEqDiff, ↓ops_nil, ↓w_cond, ↓w_skip, ↓w_block, ↓g_indexAddr, a3, adr_sl, k2, cells126, tyOk126, and_self, and_true, ↓g_load, onS_ite, rd_def, agg126, ↓w_exit, ↓g_assign, ↓w_ret, ret_one, true_and, if_true, onS_some, b_lss, decide_true, onB_true]
      try refine drawn [(5, 0)] follows (by kernel_rfl) (by kernel_rfl) ?_
      simp -implicitDefEqProofs only [k0, hm, Int.toNat_natCast, rr, onS_some, true_and]
      refine call1 (by simp -implicitDefEqProofs only [List.map_cons, Nat.reduceLT, ev_tab, upd_eq, List.map_nil] <;> rfl) (toNode1 p) ?_
      simp -implicitDefEqProofs only [↓ops_cons, ↓g_indexAddr, Tryd.underlying41, Nat.reduceLT, ev_tab, ne_eq, Nat.reduceEqDiff, not_false_eq_true, upd_ne, upd_eq, adr_sl, k0, k2, cells123, tyOk123, and_self, Int.toNat_natCast, Nat.zero_add, if_true, ↓g_store, ↓ops_nil, ↓w_region, ↓g_move, ↓g_binOp, a4, ev_const, of_int, b_add, e1, ↓g_assign, onS_some, wr_def, at_end, ww, cp, hse]
      try refine ⟨pairs_cons (same_H rfl) (pairs_nil), ?_⟩
      try simp -implicitDefEqProofs only []
      refine ⟨i + 1, by omega, _, rfl, by omega, ?_, ?_, ?_⟩ <;> simp -implicitDefEqProofs only [ne_eq, reduceCtorEq, not_false_eq_true, upd_ne, a2, kl, Nat.reduceEqDiff, a3, upd_eq] <;> rfl
    · have k2 : ¬ (i : Int) < l.length := by omega
      have hi : i = l.length := by omega
      have e : l.take i ++ List.replicate (l.length - i) (Rw.zero kNode) = l := by rw [hi]; simp
      rw [e]
      simp -implicitDefEqProofs only [↓w_seq, ↓w_region, ↓ops_cons, ↓g_move, ↓g_len, Tryd.underlying36, Nat.reduceLT, ev_tab, a4, ne_eq, reduceCtorEq, not_false_eq_true, upd_ne, a2, upd_eq, lx, ↓g_binOp, Nat.reduceEqDiff, ↓ops_nil, ↓w_cond, ↓w_skip, ↓w_block, ↓g_indexAddr, a3, ↓g_load, ↓w_exit, ↓g_assign, ↓w_ret, ret_one, and_self, if_true, onS_some, b_lss, k2, decide_false, onB_false]
  · refine ⟨_, st_end (by simp), by omega, ?_, ?_, ?_⟩ <;> simp -implicitDefEqProofs only [ne_eq, reduceCtorEq, not_false_eq_true, upd_ne, par0, Nat.reduceEqDiff, upd_eq, Int.cast_ofNat_Int] <;> rfl
theorem eqNodeSS {H : AHeap} {x y : AV} {l : List (Rw kNode)} (hx : IsR H x l) (hy : IsR H y l) (hl : l.length ≤ 1000000000) : Sound Tryd.prog 36 [x, y] H (.sc (.bool true)) H := by
  refine Sound.run 27 [.tmp 4] Tryd.func36 rfl rfl rfl rfl (by simp) ?_
  have lx := fun e => hx.len e
  have ly := fun e => hy.len e
  simp -implicitDefEqProofs only [↓w_seq, ↓w_region, ↓ops_cons, ↓g_assign, ↓ops_nil, ev_const, of_bool, ↓g_move, ↓g_len, Tryd.underlying41, Nat.reduceLT, ev_tab, ne_eq, reduceCtorEq, not_false_eq_true, upd_ne, par0, upd_eq, lx, Nat.reduceEqDiff, par1, ly, ↓g_binOp, ↓w_cond, ↓w_ret, ret_one, and_true, ↓w_skip, ↓w_block, of_int, onS_some, b_neq, decide_true, Bool.not_true, onB_false]
  refine w_loop (ι := Nat) (fun i s => ∃ T : Nat → AV, s = ⟨tab 27 T, H⟩ ∧ i ≤ l.length ∧ T 0 = x ∧ T 1 = y ∧ T 5 = .sc (.int .i64 i)) (fun i => l.length - i) ?_ (i := 0) ?_
  · rintro i s ⟨T, rfl, a1, a3, a4, a5⟩
    by_cases h : i < l.length
    · have k1 : (i : Int) < l.length := by omega
      have k2 : (0 : Int) ≤ i := by omega
      have e1 : IntKind.i64.wrap ((i : Int) + 1) = i + 1 := w64 (by omega) (by omega)
      have kl : kNode.length = 4 := rfl
      simp -implicitDefEqProofs only [↓w_seq, ↓w_region, ↓ops_cons, ↓g_move, ↓g_len, Tryd.underlying41, Nat.reduceLT, ev_tab, a5, ne_eq, reduceCtorEq, not_false_eq_true, upd_ne, a3, upd_eq, lx, ↓g_binOp, Nat.reduceEqDiff, ↓ops_nil, ↓w_cond, ↓w_skip, ↓w_block, ↓w_exit, ↓g_assign, ↓w_ret, ev_const, of_bool, ret_one, and_self, if_true, onS_some, b_lss, k1, decide_true, onB_true]
      refine drawn [(3, 0), (7, 0)] follows (by kernel_rfl) (by kernel_rfl) ?_
      obtain ⟨r, o, rfl, hr⟩ := hx.get h
      obtain ⟨q, o2, rfl, hq⟩ := hy.get h
      have ha : l[i]? = some l[i] := List.getElem?_eq_getElem h
      generalize l[i] = p at *
      have rr := fun o => rd_row encNode ha o
      simp -implicitDefEqProofs only [kl, ↓dops_cons, ↓g_move, ↓g_indexAddr, Tryd.underlying41, Nat.reduceLT, ev_tab, ne_eq, reduceCtorEq, not_false_eq_true, upd_ne, a3, Nat.reduceEqDiff, a5, upd_eq, adr_sl, k2, k1, cells123, tyOk123, and_self, Int.toNat_natCast, Nat.zero_add, if_true, ↓g_load, a4, onS_some, rd_def, agg123, hq, rr, hr]
      refine call1 (by simp -implicitDefEqProofs only [List.map_cons, Nat.reduceLT, ev_tab, ne_eq, Nat.reduceEqDiff, not_false_eq_true, upd_ne, upd_eq, List.map_nil] <;> rfl) (eqNode1 p) ?_
      simp -implicitDefEqProofs only [↓dops_cons, ↓g_unOp, Nat.reduceLT, ev_tab, upd_eq, u_not, Bool.not_true, Option.map_some, ↓dops_p, ↓w_cond, ↓w_seq, ↓w_region, ↓ops_cons, ↓g_assign, ↓ops_nil, ↓w_ret, ev_const, of_bool, ret_one, and_true, ↓w_skip, ↓g_move, ↓g_binOp, ne_eq, Nat.reduceEqDiff, not_false_eq_true, upd_ne, of_int, onS_some, onB_false]
      refine ⟨pairs_cons (same_H rfl) (pairs_cons (same_H rfl) (pairs_nil)), ?_⟩
      simp -implicitDefEqProofs only [a5, b_add, e1, onS_some]
      refine ⟨i + 1, by omega, _, rfl, by omega, ?_, ?_, ?_⟩ <;> simp -implicitDefEqProofs only [ne_eq, reduceCtorEq, not_false_eq_true, upd_ne, a3, kl, Nat.reduceEqDiff, a4, upd_eq] <;> rfl
    · have k1 : ¬ (i : Int) < l.length := by omega
      simp -implicitDefEqProofs only [↓w_seq, ↓w_region, ↓ops_cons, ↓g_move, ↓g_len, Tryd.underlying41, Nat.reduceLT, ev_tab, a5, ne_eq, reduceCtorEq, not_false_eq_true, upd_ne, a3, upd_eq, lx, ↓g_binOp, Nat.reduceEqDiff, ↓ops_nil, ↓w_cond, ↓w_skip, ↓w_block, ↓w_exit, ↓g_assign, ↓w_ret, ev_const, of_bool, ret_one, and_self, if_true, onS_some, b_lss, k1, decide_false, onB_false]
  · refine ⟨_, rfl, by omega, ?_, ?_, ?_⟩ <;> simp -implicitDefEqProofs only [ne_eq, reduceCtorEq, not_false_eq_true, upd_ne, par0, Nat.reduceEqDiff, par1, upd_eq, Int.cast_ofNat_Int] <;> rfl
abbrev kLetter : List Kd := [.i .i64, .i .i64, .i .i64]
theorem encLetter : Enc (Rw.cs (ks := kLetter)) 3 := Rw.encs (by decide)
theorem rowLetter (r : Rw kLetter) : ∃ a0 a1 a2, r.cs = [.sc (.int .i64 a0), .sc (.int .i64 a1), .sc (.int .i64 a2)] := by
  have e0 := (r.int_at 0 (k := .i64) rfl).1
  have e1 := (r.int_at 1 (k := .i64) rfl).1
  have e2 := (r.int_at 2 (k := .i64) rfl).1
  have hl := r.cs_len
  refine ⟨r.int 0, r.int 1, r.int 2, ?_⟩
  generalize r.cs = z at *
  match z, hl with
  | [x0, x1, x2], _ =>
    simp only [List.getElem?_cons_zero, List.getElem?_cons_succ, Option.some.injEq] at e0 e1 e2
    rw [e0, e1, e2]
theorem csLetter (r : Rw kLetter) : r.cs = [.sc (.int .i64 (r.int 0)), .sc (.int .i64 (r.int 1)), .sc (.int .i64 (r.int 2))] := by
  have e0 := (r.int_at 0 (k := .i64) rfl).1
  have e1 := (r.int_at 1 (k := .i64) rfl).1
  have e2 := (r.int_at 2 (k := .i64) rfl).1
  have hl := r.cs_len
  generalize r.cs = z at *
  match z, hl with
  | [x0, x1, x2], _ =>
    simp only [List.getElem?_cons_zero, List.getElem?_cons_succ, Option.some.injEq] at e0 e1 e2
    rw [e0, e1, e2]
theorem toLetter0 (a0 : Int) (a1 : Int) (a2 : Int) : Fn Tryd.prog 81 [.agg [.sc (.int .i64 a0), .sc (.int .i64 a1), .sc (.int .i64 a2)]] (.agg [.sc (.int .i64 a0), .sc (.int .i64 a1), .sc (.int .i64 a2)]) := by
  refine Fn.run 14 [.cell 2 151] Tryd.func81 rfl rfl rfl rfl (by simp) (flats_cons (.agg ((flats_cons (.sc _) (flats_cons (.sc _) (flats_cons (.sc _) flats_nil))))) flats_nil) (.agg ((flats_cons (.sc _) (flats_cons (.sc _) (flats_cons (.sc _) flats_nil))))) ?_
  simp -implicitDefEqProofs only [↓w_seq, ↓w_region, ↓ops_cons, ↓g_box, Nat.reduceLT, ev_tab, par0, cells_agg, ↓g_alloc, zero151, Option.map_some, ↓ops_nil, ↓g_fieldAddrT, ne_eq, Nat.reduceEqDiff, not_false_eq_true, upd_ne, upd_eq, ↓g_load, ↓g_store, ↓w_ret, ret_cell, alK_some, List.all_cons, one_int, List.all_nil, Bool.and_self, fadr151_0, Nat.zero_add, fadr151_1, fadr151_2, rd_def, tyOk151, agg151, cells151, onS_some, wr_def, tyOk3, cells3, at_end, wr_c, List.length_cons, List.length_nil, Nat.reduceAdd, Nat.reduceLeDiff, true_and, onS_ite, List.length_append, fadr153_0, List.nil_append, List.cons_append, fadr153_1, List.set_cons_succ, List.set_cons_zero, List.getElem?_cons_succ, List.getElem?_cons_zero, fadr153_2, agg3, rd_onec, cells_int, and_self, ovC, ovN, over_s, if_true, Nat.le_refl, rd_aggc, List.drop_zero, List.take_succ_cons, List.take_zero]
theorem toLetter1 (r : Rw kLetter) : Fn Tryd.prog 81 [.agg r.cs] (.agg r.cs) := by
  obtain ⟨a0, a1, a2, e⟩ := rowLetter r
  rw [e]
  exact toLetter0 a0 a1 a2
theorem eqLetter0 (a0 : Int) (a1 : Int) (a2 : Int) : Fn Tryd.prog 84 [.agg [.sc (.int .i64 a0), .sc (.int .i64 a1), .sc (.int .i64 a2)], .agg [.sc (.int .i64 a0), .sc (.int .i64 a1), .sc (.int .i64 a2)]] (.sc (.bool true)) := by
  refine Fn.run 20 [.tmp 4] Tryd.func84 rfl rfl rfl rfl (by simp) (flats_cons (.agg ((flats_cons (.sc _) (flats_cons (.sc _) (flats_cons (.sc _) flats_nil))))) (flats_cons (.agg ((flats_cons (.sc _) (flats_cons (.sc _) (flats_cons (.sc _) flats_nil))))) flats_nil)) (.sc _) ?_
  simp -implicitDefEqProofs only [↓w_seq, ↓w_region, ↓ops_cons, ↓g_box, Nat.reduceLT, ev_tab, par0, cells_agg, ne_eq, Nat.reduceEqDiff, not_false_eq_true, upd_ne, par1, ↓g_assign, ↓ops_nil, ev_const, of_bool, ↓g_fieldAddrT, upd_eq, ↓g_load, ↓g_binOp, ↓w_cond, ↓w_ret, ret_one, ↓w_skip, alK_some, List.all_cons, one_int, List.all_nil, Bool.and_self, fadr151_0, Nat.zero_add, fadr151_1, fadr151_2, onS_some, rd_def, tyOk3, agg3, cells3, at_end, rd_onec, List.getElem?_cons_succ, List.getElem?_cons_zero, true_and, List.length_nil, List.nil_append, List.cons_append, b_neq, decide_true, Bool.not_true, onB_false, and_self]
theorem eqLetter1 (r : Rw kLetter) : Fn Tryd.prog 84 [.agg r.cs, .agg r.cs] (.sc (.bool true)) := by
  obtain ⟨a0, a1, a2, e⟩ := rowLetter r
  rw [e]
  exact eqLetter0 a0 a1 a2
theorem szLetterSS {H : AHeap} {x : AV} {l : List (Rw kLetter)} (n : Int) (hn : 0 ≤ n ∧ n ≤ 1048576) (hx : IsR H x l) (hl : l.length ≤ 9223372036854775807) : Sound Tryd.prog 52 [x, .sc (.int .i64 n)] H (.sc (.int .i64 (if n - (l.length : Int) < 0 then -1 else n - l.length))) H := by
  refine Sound.run 12 [.tmp 4] Tryd.func52 rfl rfl rfl rfl (by simp) ?_
  have lx := fun e => hx.len e
  have e1 : IntKind.i64.wrap (n - (l.length : Int)) = n - l.length := w64 (by omega) (by omega)
  simp -implicitDefEqProofs only [↓w_seq, ↓w_region, Int.reduceNeg, ↓ops_cons, ↓g_assign, ↓ops_nil, ev_const, of_int, ↓g_move, ↓g_len, Tryd.underlying66, Nat.reduceLT, ev_tab, ne_eq, Nat.reduceEqDiff, not_false_eq_true, upd_ne, par1, reduceCtorEq, par0, upd_eq, lx, ↓g_binOp, ↓w_cond, ↓w_ret, ret_one, and_true, ↓w_skip, onS_some, b_sub, e1, b_lss, onB_dec]
  split <;> rfl
theorem toLetterSS {H : AHeap} {x : AV} {l : List (Rw kLetter)} (hx : IsR H x l) (hl : l.length ≤ 1048576) : Sound Tryd.prog 56 [x] H (.sl H.length 0 l.length 3) (H ++ [⟨rows Rw.cs l, true, true⟩]) := by
  refine Sound.run 23 [.tmp 2] Tryd.func56 rfl rfl rfl rfl (by simp) ?_
  have lx := fun e => hx.len e
  have k0 : ∀ j : Nat, (0 : Int) ≤ (j : Int) := fun j => by omega
  have k1 : (l.length : Int) ≤ 1048576 := by omega
  have mk := mk_rows (P := Tryd.prog) (Rw.zero kLetter) 151 .i64 .i64 (l.length : Int) 24 encLetter (by kernel_rfl) (by kernel_rfl) (by kernel_rfl) (by omega) (by omega) (by omega)
  have ra := rows_all encLetter (List.replicate l.length (Rw.zero kLetter))
  simp -implicitDefEqProofs only [↓w_seq, ↓w_region, ↓ops_cons, ↓g_assign, ↓ops_nil, ev_const, ↓g_move, ↓g_len, Tryd.underlying66, Nat.reduceLT, ev_tab, ne_eq, reduceCtorEq, not_false_eq_true, upd_ne, par0, upd_eq, lx, ↓g_makeSlice, Tryd.underlying73, ↓w_block, of_int, onS_some, mk, Int.toNat_natCast, alK_some, ra, true_and]
  refine w_loop (ι := Nat) (fun i s => ∃ T : Nat → AV, s = ⟨tab 23 T, H ++ [⟨rows Rw.cs (l.take i ++ List.replicate (l.length - i) (Rw.zero kLetter)), true, true⟩]⟩ ∧ i ≤ l.length ∧ T 0 = x ∧ T 3 = .sl H.length 0 l.length 3 ∧ T 4 = .sc (.int .i64 i)) (fun i => l.length - i) ?_ (i := 0) ?_
  · rintro i s ⟨T, rfl, a1, a2, a3, a4⟩
    by_cases h : i < l.length
    · have k2 : (i : Int) < l.length := by omega
      have e1 : IntKind.i64.wrap ((i : Int) + 1) = i + 1 := w64 (by omega) (by omega)
      obtain ⟨r, o, rfl, hr⟩ := hx.get h
      have hrl : r < H.length := (List.getElem?_eq_some_iff.1 hr).1
      have hm := at_more H [⟨rows Rw.cs (l.take i ++ List.replicate (l.length - i) (Rw.zero kLetter)), true, true⟩] r hrl
      rw [hr] at hm
      have ha : l[i]? = some l[i] := List.getElem?_eq_getElem h
      generalize l[i] = p at ha
      have rr := fun o => rd_row encLetter ha o
      have ww := fun (G : AHeap) => wr_row (H := G) (l := l.take i ++ List.replicate (l.length - i) (Rw.zero kLetter)) encLetter (i := i) (by simp; omega) H.length p
      have cp := cpy_row (Rw.zero kLetter) l i p ha
      have hse : ∀ g h : Reg, (H ++ [g]).set H.length h = H ++ [h] := fun g h => by simp
      have kl : kLetter.length = 3 := rfl
      simp -implicitDefEqProofs only [↓w_seq, ↓w_region, List.length_cons, List.length_nil, Nat.zero_add, Nat.reduceAdd, ↓ops_cons, ↓g_move, ↓g_len, Tryd.underlying66, Nat.reduceLT, ev_tab, a4, ne_eq, reduceCtorEq, not_false_eq_true, upd_ne, a2, upd_eq, len_sl, ↓g_binOp, Nat.reduceEqDiff, ↓ops_nil, ↓w_cond, ↓w_skip, ↓w_block, ↓g_indexAddr, a3, adr_sl, k2, cells153, tyOk153, and_self, and_true, ↓g_load, onS_ite, rd_def, agg153, ↓w_exit, ↓g_assign, ↓w_ret, ret_one, true_and, if_true, onS_some, b_lss, decide_true, onB_true]
      try refine drawn [(5, 0)] follows (by kernel_rfl) (by kernel_rfl) ?_
      simp -implicitDefEqProofs only [k0, hm, Int.toNat_natCast, rr, onS_some, true_and]
      refine call1 (by simp -implicitDefEqProofs only [List.map_cons, Nat.reduceLT, ev_tab, upd_eq, List.map_nil] <;> rfl) (toLetter1 p) ?_
      simp -implicitDefEqProofs only [↓ops_cons, ↓g_indexAddr, Tryd.underlying73, Nat.reduceLT, ev_tab, ne_eq, Nat.reduceEqDiff, not_false_eq_true, upd_ne, upd_eq, adr_sl, k0, k2, cells151, tyOk151, and_self, Int.toNat_natCast, Nat.zero_add, if_true, ↓g_store, ↓ops_nil, ↓w_region, ↓g_move, ↓g_binOp, a4, ev_const, of_int, b_add, e1, ↓g_assign, onS_some, wr_def, at_end, ww, cp, hse]
      try refine ⟨pairs_cons (same_H rfl) (pairs_nil), ?_⟩
      try simp -implicitDefEqProofs only []
      refine ⟨i + 1, by omega, _, rfl, by omega, ?_, ?_, ?_⟩ <;> simp -implicitDefEqProofs only [ne_eq, reduceCtorEq, not_false_eq_true, upd_ne, a2, kl, Nat.reduceEqDiff, a3, upd_eq] <;> rfl
    · have k2 : ¬ (i : Int) < l.length := by omega
      have hi : i = l.length := by omega
      have e : l.take i ++ List.replicate (l.length - i) (Rw.zero kLetter) = l := by rw [hi]; simp
      rw [e]
      simp -implicitDefEqProofs only [↓w_seq, ↓w_region, ↓ops_cons, ↓g_move, ↓g_len, Tryd.underlying66, Nat.reduceLT, ev_tab, a4, ne_eq, reduceCtorEq, not_false_eq_true, upd_ne, a2, upd_eq, lx, ↓g_binOp, Nat.reduceEqDiff, ↓ops_nil, ↓w_cond, ↓w_skip, ↓w_block, ↓g_indexAddr, a3, ↓g_load, ↓w_exit, ↓g_assign, ↓w_ret, ret_one, and_self, if_true, onS_some, b_lss, k2, decide_false, onB_false]
  · refine ⟨_, st_end (by simp), by omega, ?_, ?_, ?_⟩ <;> simp -implicitDefEqProofs only [ne_eq, reduceCtorEq, not_false_eq_true, upd_ne, par0, Nat.reduceEqDiff, upd_eq, Int.cast_ofNat_Int] <;> rfl
theorem eqLetterSS {H : AHeap} {x y : AV} {l : List (Rw kLetter)} (hx : IsR H x l) (hy : IsR H y l) (hl : l.length ≤ 1000000000) : Sound Tryd.prog 60 [x, y] H (.sc (.bool true)) H := by
  refine Sound.run 27 [.tmp 4] Tryd.func60 rfl rfl rfl rfl (by simp) ?_
  have lx := fun e => hx.len e
  have ly := fun e => hy.len e
  simp -implicitDefEqProofs only [↓w_seq, ↓w_region, ↓ops_cons, ↓g_assign, ↓ops_nil, ev_const, of_bool, ↓g_move, ↓g_len, Tryd.underlying73, Nat.reduceLT, ev_tab, ne_eq, reduceCtorEq, not_false_eq_true, upd_ne, par0, upd_eq, lx, Nat.reduceEqDiff, par1, ly, ↓g_binOp, ↓w_cond, ↓w_ret, ret_one, and_true, ↓w_skip, ↓w_block, of_int, onS_some, b_neq, decide_true, Bool.not_true, onB_false]
  refine w_loop (ι := Nat) (fun i s => ∃ T : Nat → AV, s = ⟨tab 27 T, H⟩ ∧ i ≤ l.length ∧ T 0 = x ∧ T 1 = y ∧ T 5 = .sc (.int .i64 i)) (fun i => l.length - i) ?_ (i := 0) ?_
  · rintro i s ⟨T, rfl, a1, a3, a4, a5⟩
    by_cases h : i < l.length
    · have k1 : (i : Int) < l.length := by omega
      have k2 : (0 : Int) ≤ i := by omega
      have e1 : IntKind.i64.wrap ((i : Int) + 1) = i + 1 := w64 (by omega) (by omega)
      have kl : kLetter.length = 3 := rfl
      simp -implicitDefEqProofs only [↓w_seq, ↓w_region, ↓ops_cons, ↓g_move, ↓g_len, Tryd.underlying73, Nat.reduceLT, ev_tab, a5, ne_eq, reduceCtorEq, not_false_eq_true, upd_ne, a3, upd_eq, lx, ↓g_binOp, Nat.reduceEqDiff, ↓ops_nil, ↓w_cond, ↓w_skip, ↓w_block, ↓w_exit, ↓g_assign, ↓w_ret, ev_const, of_bool, ret_one, and_self, if_true, onS_some, b_lss, k1, decide_true, onB_true]
      refine drawn [(3, 0), (7, 0)] follows (by kernel_rfl) (by kernel_rfl) ?_
      obtain ⟨r, o, rfl, hr⟩ := hx.get h
      obtain ⟨q, o2, rfl, hq⟩ := hy.get h
      have ha : l[i]? = some l[i] := List.getElem?_eq_getElem h
      generalize l[i] = p at *
      have rr := fun o => rd_row encLetter ha o
      simp -implicitDefEqProofs only [kl, ↓dops_cons, ↓g_move, ↓g_indexAddr, Tryd.underlying73, Nat.reduceLT, ev_tab, ne_eq, reduceCtorEq, not_false_eq_true, upd_ne, a3, Nat.reduceEqDiff, a5, upd_eq, adr_sl, k2, k1, cells151, tyOk151, and_self, Int.toNat_natCast, Nat.zero_add, if_true, ↓g_load, a4, onS_some, rd_def, agg151, hq, rr, hr]
      refine call1 (by simp -implicitDefEqProofs only [List.map_cons, Nat.reduceLT, ev_tab, ne_eq, Nat.reduceEqDiff, not_false_eq_true, upd_ne, upd_eq, List.map_nil] <;> rfl) (eqLetter1 p) ?_
      simp -implicitDefEqProofs only [↓dops_cons, ↓g_unOp, Nat.reduceLT, ev_tab, upd_eq, u_not, Bool.not_true, Option.map_some, ↓dops_p, ↓w_cond, ↓w_seq, ↓w_region, ↓ops_cons, ↓g_assign, ↓ops_nil, ↓w_ret, ev_const, of_bool, ret_one, and_true, ↓w_skip, ↓g_move, ↓g_binOp, ne_eq, Nat.reduceEqDiff, not_false_eq_true, upd_ne, of_int, onS_some, onB_false]
      refine ⟨pairs_cons (same_H rfl) (pairs_cons (same_H rfl) (pairs_nil)), ?_⟩
      simp -implicitDefEqProofs only [a5, b_add, e1, onS_some]
      refine ⟨i + 1, by omega, _, rfl, by omega, ?_, ?_, ?_⟩ <;> simp -implicitDefEqProofs only [ne_eq, reduceCtorEq, not_false_eq_true, upd_ne, a3, kl, Nat.reduceEqDiff, a4, upd_eq] <;> rfl
    · have k1 : ¬ (i : Int) < l.length := by omega
      simp -implicitDefEqProofs only [↓w_seq, ↓w_region, ↓ops_cons, ↓g_move, ↓g_len, Tryd.underlying73, Nat.reduceLT, ev_tab, a5, ne_eq, reduceCtorEq, not_false_eq_true, upd_ne, a3, upd_eq, lx, ↓g_binOp, Nat.reduceEqDiff, ↓ops_nil, ↓w_cond, ↓w_skip, ↓w_block, ↓w_exit, ↓g_assign, ↓w_ret, ev_const, of_bool, ret_one, and_self, if_true, onS_some, b_lss, k1, decide_false, onB_false]
  · refine ⟨_, rfl, by omega, ?_, ?_, ?_⟩ <;> simp -implicitDefEqProofs only [ne_eq, reduceCtorEq, not_false_eq_true, upd_ne, par0, Nat.reduceEqDiff, par1, upd_eq, Int.cast_ofNat_Int] <;> rfl
abbrev kNote : List Kd := [.i .i64, .i .i64, .i .i64, .i .i64, .i .i64, .i .i64, .b]
theorem encNote : Enc (Rw.cs (ks := kNote)) 7 := Rw.encs (by decide)
theorem rowNote (r : Rw kNote) : ∃ a0 a1 a2 a3 a4 a5 a6, r.cs = [.sc (.int .i64 a0), .sc (.int .i64 a1), .sc (.int .i64 a2), .sc (.int .i64 a3), .sc (.int .i64 a4), .sc (.int .i64 a5), .sc (.bool a6)] := by
  have e0 := (r.int_at 0 (k := .i64) rfl).1
  have e1 := (r.int_at 1 (k := .i64) rfl).1
  have e2 := (r.int_at 2 (k := .i64) rfl).1
  have e3 := (r.int_at 3 (k := .i64) rfl).1
  have e4 := (r.int_at 4 (k := .i64) rfl).1
  have e5 := (r.int_at 5 (k := .i64) rfl).1
  obtain ⟨b6, e6⟩ := r.bool_at 6 rfl
  have hl := r.cs_len
  refine ⟨r.int 0, r.int 1, r.int 2, r.int 3, r.int 4, r.int 5, b6, ?_⟩
  generalize r.cs = z at *
  match z, hl with
  | [x0, x1, x2, x3, x4, x5, x6], _ =>
    simp only [List.getElem?_cons_zero, List.getElem?_cons_succ, Option.some.injEq] at e0 e1 e2 e3 e4 e5 e6
    rw [e0, e1, e2, e3, e4, e5, e6]
theorem toNote0 (a0 : Int) (a1 : Int) (a2 : Int) (a3 : Int) (a4 : Int) (a5 : Int) (a6 : Bool) : Fn Tryd.prog 82 [.agg [.sc (.int .i64 a0), .sc (.int .i64 a1), .sc (.int .i64 a2), .sc (.int .i64 a3), .sc (.int .i64 a4), .sc (.int .i64 a5), .sc (.bool a6)]] (.agg [.sc (.int .i64 a0), .sc (.int .i64 a1), .sc (.int .i64 a2), .sc (.int .i64 a3), .sc (.int .i64 a4), .sc (.int .i64 a5), .sc (.bool a6)]) := by
  refine Fn.run 26 [.cell 2 155] Tryd.func82 rfl rfl rfl rfl (by simp) (flats_cons (.agg ((flats_cons (.sc _) (flats_cons (.sc _) (flats_cons (.sc _) (flats_cons (.sc _) (flats_cons (.sc _) (flats_cons (.sc _) (flats_cons (.sc _) flats_nil))))))))) flats_nil) (.agg ((flats_cons (.sc _) (flats_cons (.sc _) (flats_cons (.sc _) (flats_cons (.sc _) (flats_cons (.sc _) (flats_cons (.sc _) (flats_cons (.sc _) flats_nil))))))))) ?_
  simp -implicitDefEqProofs only [↓w_seq, ↓w_region, ↓ops_cons, ↓g_box, Nat.reduceLT, ev_tab, par0, cells_agg, ↓g_alloc, zero155, Option.map_some, ↓ops_nil, ↓g_fieldAddrT, ne_eq, Nat.reduceEqDiff, not_false_eq_true, upd_ne, upd_eq, ↓g_load, ↓g_store, ↓w_ret, ret_cell, alK_some, List.all_cons, one_int, one_bool, List.all_nil, Bool.and_self, fadr155_0, Nat.zero_add, fadr155_1, fadr155_2, fadr155_3, fadr155_4, fadr155_5, fadr155_6, rd_def, tyOk155, agg155, cells155, onS_some, wr_def, tyOk4, cells4, tyOk3, cells3, at_end, wr_c, List.length_cons, List.length_nil, Nat.reduceAdd, Nat.reduceLeDiff, true_and, onS_ite, List.length_append, fadr157_0, List.nil_append, List.cons_append, fadr157_1, List.set_cons_succ, List.set_cons_zero, List.getElem?_cons_succ, List.getElem?_cons_zero, fadr157_2, fadr157_3, fadr157_4, fadr157_5, fadr157_6, agg4, agg3, rd_onec, cells_int, and_self, ovC, ovN, over_s, if_true, rd_aggc, List.drop_zero, List.take_succ_cons, Nat.le_refl, cells_bool, and_true, List.take_zero]
theorem toNote1 (r : Rw kNote) : Fn Tryd.prog 82 [.agg r.cs] (.agg r.cs) := by
  obtain ⟨a0, a1, a2, a3, a4, a5, a6, e⟩ := rowNote r
  rw [e]
  exact toNote0 a0 a1 a2 a3 a4 a5 a6
theorem eqNote0 (a0 : Int) (a1 : Int) (a2 : Int) (a3 : Int) (a4 : Int) (a5 : Int) (a6 : Bool) : Fn Tryd.prog 85 [.agg [.sc (.int .i64 a0), .sc (.int .i64 a1), .sc (.int .i64 a2), .sc (.int .i64 a3), .sc (.int .i64 a4), .sc (.int .i64 a5), .sc (.bool a6)], .agg [.sc (.int .i64 a0), .sc (.int .i64 a1), .sc (.int .i64 a2), .sc (.int .i64 a3), .sc (.int .i64 a4), .sc (.int .i64 a5), .sc (.bool a6)]] (.sc (.bool true)) := by
  refine Fn.run 40 [.tmp 4] Tryd.func85 rfl rfl rfl rfl (by simp) (flats_cons (.agg ((flats_cons (.sc _) (flats_cons (.sc _) (flats_cons (.sc _) (flats_cons (.sc _) (flats_cons (.sc _) (flats_cons (.sc _) (flats_cons (.sc _) flats_nil))))))))) (flats_cons (.agg ((flats_cons (.sc _) (flats_cons (.sc _) (flats_cons (.sc _) (flats_cons (.sc _) (flats_cons (.sc _) (flats_cons (.sc _) (flats_cons (.sc _) flats_nil))))))))) flats_nil)) (.sc _) ?_
  simp -implicitDefEqProofs only [↓w_seq, ↓w_region, ↓ops_cons, ↓g_box, Nat.reduceLT, ev_tab, par0, cells_agg, ne_eq, Nat.reduceEqDiff, not_false_eq_true, upd_ne, par1, ↓g_assign, ↓ops_nil, ev_const, of_bool, ↓g_fieldAddrT, upd_eq, ↓g_load, ↓g_binOp, ↓w_cond, ↓w_ret, ret_one, ↓w_skip, alK_some, List.all_cons, one_int, one_bool, List.all_nil, Bool.and_self, fadr155_0, Nat.zero_add, fadr155_1, fadr155_2, fadr155_3, fadr155_4, fadr155_5, fadr155_6, onS_some, rd_def, tyOk4, agg4, cells4, at_end, rd_onec, List.getElem?_cons_succ, List.getElem?_cons_zero, tyOk3, agg3, cells3, true_and, List.length_nil, List.nil_append, List.cons_append, Tryd.underlying4, v_neq, beq_self_eq_true, Bool.not_true, onB_false, b_neq, decide_true, and_self]
theorem eqNote1 (r : Rw kNote) : Fn Tryd.prog 85 [.agg r.cs, .agg r.cs] (.sc (.bool true)) := by
  obtain ⟨a0, a1, a2, a3, a4, a5, a6, e⟩ := rowNote r
  rw [e]
  exact eqNote0 a0 a1 a2 a3 a4 a5 a6
theorem szNoteSS {H : AHeap} {x : AV} {l : List (Rw kNote)} (n : Int) (hn : 0 ≤ n ∧ n ≤ 1048576) (hx : IsR H x l) (hl : l.length ≤ 9223372036854775807) : Sound Tryd.prog 53 [x, .sc (.int .i64 n)] H (.sc (.int .i64 (if n - (l.length : Int) < 0 then -1 else n - l.length))) H := by
  refine Sound.run 12 [.tmp 4] Tryd.func53 rfl rfl rfl rfl (by simp) ?_
  have lx := fun e => hx.len e
  have e1 : IntKind.i64.wrap (n - (l.length : Int)) = n - l.length := w64 (by omega) (by omega)
  simp -implicitDefEqProofs only [↓w_seq, ↓w_region, Int.reduceNeg, ↓ops_cons, ↓g_assign, ↓ops_nil, ev_const, of_int, ↓g_move, ↓g_len, Tryd.underlying67, Nat.reduceLT, ev_tab, ne_eq, Nat.reduceEqDiff, not_false_eq_true, upd_ne, par1, reduceCtorEq, par0, upd_eq, lx, ↓g_binOp, ↓w_cond, ↓w_ret, ret_one, and_true, ↓w_skip, onS_some, b_sub, e1, b_lss, onB_dec]
  split <;> rfl
theorem toNoteSS {H : AHeap} {x : AV} {l : List (Rw kNote)} (hx : IsR H x l) (hl : l.length ≤ 1048576) : Sound Tryd.prog 57 [x] H (.sl H.length 0 l.length 7) (H ++ [⟨rows Rw.cs l, true, true⟩]) := by
  refine Sound.run 23 [.tmp 2] Tryd.func57 rfl rfl rfl rfl (by simp) ?_
  have lx := fun e => hx.len e
  have k0 : ∀ j : Nat, (0 : Int) ≤ (j : Int) := fun j => by omega
  have k1 : (l.length : Int) ≤ 1048576 := by omega
  have mk := mk_rows (P := Tryd.prog) (Rw.zero kNote) 155 .i64 .i64 (l.length : Int) 56 encNote (by kernel_rfl) (by kernel_rfl) (by kernel_rfl) (by omega) (by omega) (by omega)
  have ra := rows_all encNote (List.replicate l.length (Rw.zero kNote))
  simp -implicitDefEqProofs only [↓w_seq, ↓w_region, ↓ops_cons, ↓g_assign, ↓ops_nil, ev_const, ↓g_move, ↓g_len, Tryd.underlying67, Nat.reduceLT, ev_tab, ne_eq, reduceCtorEq, not_false_eq_true, upd_ne, par0, upd_eq, lx, ↓g_makeSlice, Tryd.underlying74, ↓w_block, of_int, onS_some, mk, Int.toNat_natCast, alK_some, ra, true_and]
  refine w_loop (ι := Nat) (fun i s => ∃ T : Nat → AV, s = ⟨tab 23 T, H ++ [⟨rows Rw.cs (l.take i ++ List.replicate (l.length - i) (Rw.zero kNote)), true, true⟩]⟩ ∧ i ≤ l.length ∧ T 0 = x ∧ T 3 = .sl H.length 0 l.length 7 ∧ T 4 = .sc (.int .i64 i)) (fun i => l.length - i) ?_ (i := 0) ?_
  · rintro i s ⟨T, rfl, a1, a2, a3, a4⟩
    by_cases h : i < l.length
    · have k2 : (i : Int) < l.length := by omega
      have e1 : IntKind.i64.wrap ((i : Int) + 1) = i + 1 := w64 (by omega) (by omega)
      obtain ⟨r, o, rfl, hr⟩ := hx.get h
      have hrl : r < H.length := (List.getElem?_eq_some_iff.1 hr).1
      have hm := at_more H [⟨rows Rw.cs (l.take i ++ List.replicate (l.length - i) (Rw.zero kNote)), true, true⟩] r hrl
      rw [hr] at hm
      have ha : l[i]? = some l[i] := List.getElem?_eq_getElem h
      generalize l[i] = p at ha
      have rr := fun o => rd_row encNote ha o
      have ww := fun (G : AHeap) => wr_row (H := G) (l := l.take i ++ List.replicate (l.length - i) (Rw.zero kNote)) encNote (i := i) (by simp; omega) H.length p
      have cp := cpy_row (Rw.zero kNote) l i p ha
      have hse : ∀ g h : Reg, (H ++ [g]).set H.length h = H ++ [h] := fun g h => by simp
      have kl : kNote.length = 7 := rfl
      simp -implicitDefEqProofs only [↓w_seq, ↓w_region, List.length_cons, List.length_nil, Nat.zero_add, Nat.reduceAdd, ↓ops_cons, ↓g_move, ↓g_len, Tryd.underlying67, Nat.reduceLT, ev_tab, a4, ne_eq, reduceCtorEq, not_false_eq_true, upd_ne, a2, upd_eq, len_sl, ↓g_binOp, Nat.reduceEqDiff, ↓ops_nil, ↓w_cond, ↓w_skip, ↓w_block, ↓g_indexAddr, a3, adr_sl, k2, cells157, tyOk157, and_self, and_true, ↓g_load, onS_ite, rd_def, agg157, ↓w_exit, ↓g_assign, ↓w_ret, ret_one, true_and, if_true, onS_some, b_lss, decide_true, onB_true]
      try refine drawn [(5, 0)] follows (by kernel_rfl) (by kernel_rfl) ?_
      simp -implicitDefEqProofs only [k0, hm, Int.toNat_natCast, rr, onS_some, true_and]
      refine call1 (by simp -implicitDefEqProofs only [List.map_cons, Nat.reduceLT, ev_tab, upd_eq, List.map_nil] <;> rfl) (toNote1 p) ?_
      simp -implicitDefEqProofs only [↓ops_cons, ↓g_indexAddr, Tryd.underlying74, Nat.reduceLT, ev_tab, ne_eq, Nat.reduceEqDiff, not_false_eq_true, upd_ne, upd_eq, adr_sl, k0, k2, cells155, tyOk155, and_self, Int.toNat_natCast, Nat.zero_add, if_true, ↓g_store, ↓ops_nil, ↓w_region, ↓g_move, ↓g_binOp, a4, ev_const, of_int, b_add, e1, ↓g_assign, onS_some, wr_def, at_end, ww, cp, hse]
      try refine ⟨pairs_cons (same_H rfl) (pairs_nil), ?_⟩
      try simp -implicitDefEqProofs only []
      refine ⟨i + 1, by omega, _, rfl, by omega, ?_, ?_, ?_⟩ <;> simp -implicitDefEqProofs only [ne_eq, reduceCtorEq, not_false_eq_true, upd_ne, a2, kl, Nat.reduceEqDiff, a3, upd_eq] <;> rfl
    · have k2 : ¬ (i : Int) < l.length := by omega
      have hi : i = l.length := by omega
      have e : l.take i ++ List.replicate (l.length - i) (Rw.zero kNote) = l := by rw [hi]; simp
      rw [e]
      simp -implicitDefEqProofs only [↓w_seq, ↓w_region, ↓ops_cons, ↓g_move, ↓g_len, Tryd.underlying67, Nat.reduceLT, ev_tab, a4, ne_eq, reduceCtorEq, not_false_eq_true, upd_ne, a2, upd_eq, lx, ↓g_binOp, Nat.reduceEqDiff, ↓ops_nil, ↓w_cond, ↓w_skip, ↓w_block, ↓g_indexAddr, a3, ↓g_load, ↓w_exit, ↓g_assign, ↓w_ret, ret_one, and_self, if_true, onS_some, b_lss, k2, decide_false, onB_false]
  · refine ⟨_, st_end (by simp), by omega, ?_, ?_, ?_⟩ <;> simp -implicitDefEqProofs only [ne_eq, reduceCtorEq, not_false_eq_true, upd_ne, par0, Nat.reduceEqDiff, upd_eq, Int.cast_ofNat_Int] <;> rfl
theorem eqNoteSS {H : AHeap} {x y : AV} {l : List (Rw kNote)} (hx : IsR H x l) (hy : IsR H y l) (hl : l.length ≤ 1000000000) : Sound Tryd.prog 61 [x, y] H (.sc (.bool true)) H := by
  refine Sound.run 27 [.tmp 4] Tryd.func61 rfl rfl rfl rfl (by simp) ?_
  have lx := fun e => hx.len e
  have ly := fun e => hy.len e
  simp -implicitDefEqProofs only [↓w_seq, ↓w_region, ↓ops_cons, ↓g_assign, ↓ops_nil, ev_const, of_bool, ↓g_move, ↓g_len, Tryd.underlying74, Nat.reduceLT, ev_tab, ne_eq, reduceCtorEq, not_false_eq_true, upd_ne, par0, upd_eq, lx, Nat.reduceEqDiff, par1, ly, ↓g_binOp, ↓w_cond, ↓w_ret, ret_one, and_true, ↓w_skip, ↓w_block, of_int, onS_some, b_neq, decide_true, Bool.not_true, onB_false]
  refine w_loop (ι := Nat) (fun i s => ∃ T : Nat → AV, s = ⟨tab 27 T, H⟩ ∧ i ≤ l.length ∧ T 0 = x ∧ T 1 = y ∧ T 5 = .sc (.int .i64 i)) (fun i => l.length - i) ?_ (i := 0) ?_
  · rintro i s ⟨T, rfl, a1, a3, a4, a5⟩
    by_cases h : i < l.length
    · have k1 : (i : Int) < l.length := by omega
      have k2 : (0 : Int) ≤ i := by omega
      have e1 : IntKind.i64.wrap ((i : Int) + 1) = i + 1 := w64 (by omega) (by omega)
      have kl : kNote.length = 7 := rfl
      simp -implicitDefEqProofs only [↓w_seq, ↓w_region, ↓ops_cons, ↓g_move, ↓g_len, Tryd.underlying74, Nat.reduceLT, ev_tab, a5, ne_eq, reduceCtorEq, not_false_eq_true, upd_ne, a3, upd_eq, lx, ↓g_binOp, Nat.reduceEqDiff, ↓ops_nil, ↓w_cond, ↓w_skip, ↓w_block, ↓w_exit, ↓g_assign, ↓w_ret, ev_const, of_bool, ret_one, and_self, if_true, onS_some, b_lss, k1, decide_true, onB_true]
      refine drawn [(3, 0), (7, 0)] follows (by kernel_rfl) (by kernel_rfl) ?_
      obtain ⟨r, o, rfl, hr⟩ := hx.get h
      obtain ⟨q, o2, rfl, hq⟩ := hy.get h
      have ha : l[i]? = some l[i] := List.getElem?_eq_getElem h
      generalize l[i] = p at *
      have rr := fun o => rd_row encNote ha o
      simp -implicitDefEqProofs only [kl, ↓dops_cons, ↓g_move, ↓g_indexAddr, Tryd.underlying74, Nat.reduceLT, ev_tab, ne_eq, reduceCtorEq, not_false_eq_true, upd_ne, a3, Nat.reduceEqDiff, a5, upd_eq, adr_sl, k2, k1, cells155, tyOk155, and_self, Int.toNat_natCast, Nat.zero_add, if_true, ↓g_load, a4, onS_some, rd_def, agg155, hq, rr, hr]
      refine call1 (by simp -implicitDefEqProofs only [List.map_cons, Nat.reduceLT, ev_tab, ne_eq, Nat.reduceEqDiff, not_false_eq_true, upd_ne, upd_eq, List.map_nil] <;> rfl) (eqNote1 p) ?_
      simp -implicitDefEqProofs only [↓dops_cons, ↓g_unOp, Nat.reduceLT, ev_tab, upd_eq, u_not, Bool.not_true, Option.map_some, ↓dops_p, ↓w_cond, ↓w_seq, ↓w_region, ↓ops_cons, ↓g_assign, ↓ops_nil, ↓w_ret, ev_const, of_bool, ret_one, and_true, ↓w_skip, ↓g_move, ↓g_binOp, ne_eq, Nat.reduceEqDiff, not_false_eq_true, upd_ne, of_int, onS_some, onB_false]
      refine ⟨pairs_cons (same_H rfl) (pairs_cons (same_H rfl) (pairs_nil)), ?_⟩
      simp -implicitDefEqProofs only [a5, b_add, e1, onS_some]
      refine ⟨i + 1, by omega, _, rfl, by omega, ?_, ?_, ?_⟩ <;> simp -implicitDefEqProofs only [ne_eq, reduceCtorEq, not_false_eq_true, upd_ne, a3, kl, Nat.reduceEqDiff, a4, upd_eq] <;> rfl
    · have k1 : ¬ (i : Int) < l.length := by omega
      simp -implicitDefEqProofs only [↓w_seq, ↓w_region, ↓ops_cons, ↓g_move, ↓g_len, Tryd.underlying74, Nat.reduceLT, ev_tab, a5, ne_eq, reduceCtorEq, not_false_eq_true, upd_ne, a3, upd_eq, lx, ↓g_binOp, Nat.reduceEqDiff, ↓ops_nil, ↓w_cond, ↓w_skip, ↓w_block, ↓w_exit, ↓g_assign, ↓w_ret, ev_const, of_bool, ret_one, and_self, if_true, onS_some, b_lss, k1, decide_false, onB_false]
  · refine ⟨_, rfl, by omega, ?_, ?_, ?_⟩ <;> simp -implicitDefEqProofs only [ne_eq, reduceCtorEq, not_false_eq_true, upd_ne, par0, Nat.reduceEqDiff, par1, upd_eq, Int.cast_ofNat_Int] <;> rfl
end Go.Proofs.YtfgmmklljibbiaaDoor.Sim

