/- Clients: what the laws do with them. -/
import Derived.Test.YtfgmmklljibbiaaDoorFRwSO
namespace Go.Proofs.YtfgmmklljibbiaaDoor.Sim
open Go
set_option maxRecDepth 100000
set_option maxHeartbeats 4000000
set_option linter.unusedSimpArgs false
set_option linter.unusedVariables false
abbrev kClient : List Kd := [.i .i64, .i .i64, .i .i64, .i .i64, .i .i64, .b, .i .i64, .i .i64, .i .i64, .i .i64, .i .i64, .i .i64, .i .i64, .i .i64, .i .i64, .i .i64, .i .i64, .i .i64, .i .i64, .i .i64, .i .i64, .i .i64, .i .i64]
theorem encClient : Enc (Rw.cs (ks := kClient)) 23 := Rw.encs (by decide)
theorem rowClient (r : Rw kClient) : ∃ a0 a1 a2 a3 a4 a5 a6 a7 a8 a9 a10 a11 a12 a13 a14 a15 a16 a17 a18 a19 a20 a21 a22, r.cs = [.sc (.int .i64 a0), .sc (.int .i64 a1), .sc (.int .i64 a2), .sc (.int .i64 a3), .sc (.int .i64 a4), .sc (.bool a5), .sc (.int .i64 a6), .sc (.int .i64 a7), .sc (.int .i64 a8), .sc (.int .i64 a9), .sc (.int .i64 a10), .sc (.int .i64 a11), .sc (.int .i64 a12), .sc (.int .i64 a13), .sc (.int .i64 a14), .sc (.int .i64 a15), .sc (.int .i64 a16), .sc (.int .i64 a17), .sc (.int .i64 a18), .sc (.int .i64 a19), .sc (.int .i64 a20), .sc (.int .i64 a21), .sc (.int .i64 a22)] := by
  have e0 := (r.int_at 0 (k := .i64) rfl).1
  have e1 := (r.int_at 1 (k := .i64) rfl).1
  have e2 := (r.int_at 2 (k := .i64) rfl).1
  have e3 := (r.int_at 3 (k := .i64) rfl).1
  have e4 := (r.int_at 4 (k := .i64) rfl).1
  obtain ⟨b5, e5⟩ := r.bool_at 5 rfl
  have e6 := (r.int_at 6 (k := .i64) rfl).1
  have e7 := (r.int_at 7 (k := .i64) rfl).1
  have e8 := (r.int_at 8 (k := .i64) rfl).1
  have e9 := (r.int_at 9 (k := .i64) rfl).1
  have e10 := (r.int_at 10 (k := .i64) rfl).1
  have e11 := (r.int_at 11 (k := .i64) rfl).1
  have e12 := (r.int_at 12 (k := .i64) rfl).1
  have e13 := (r.int_at 13 (k := .i64) rfl).1
  have e14 := (r.int_at 14 (k := .i64) rfl).1
  have e15 := (r.int_at 15 (k := .i64) rfl).1
  have e16 := (r.int_at 16 (k := .i64) rfl).1
  have e17 := (r.int_at 17 (k := .i64) rfl).1
  have e18 := (r.int_at 18 (k := .i64) rfl).1
  have e19 := (r.int_at 19 (k := .i64) rfl).1
  have e20 := (r.int_at 20 (k := .i64) rfl).1
  have e21 := (r.int_at 21 (k := .i64) rfl).1
  have e22 := (r.int_at 22 (k := .i64) rfl).1
  have hl := r.cs_len
  refine ⟨r.int 0, r.int 1, r.int 2, r.int 3, r.int 4, b5, r.int 6, r.int 7, r.int 8, r.int 9, r.int 10, r.int 11, r.int 12, r.int 13, r.int 14, r.int 15, r.int 16, r.int 17, r.int 18, r.int 19, r.int 20, r.int 21, r.int 22, ?_⟩
  generalize r.cs = z at *
  match z, hl with
  | [x0, x1, x2, x3, x4, x5, x6, x7, x8, x9, x10, x11, x12, x13, x14, x15, x16, x17, x18, x19, x20, x21, x22], _ =>
    simp only [List.getElem?_cons_zero, List.getElem?_cons_succ, Option.some.injEq] at e0 e1 e2 e3 e4 e5 e6 e7 e8 e9 e10 e11 e12 e13 e14 e15 e16 e17 e18 e19 e20 e21 e22
    rw [e0, e1, e2, e3, e4, e5, e6, e7, e8, e9, e10, e11, e12, e13, e14, e15, e16, e17, e18, e19, e20, e21, e22]
theorem toClient0 (a0 : Int) (a1 : Int) (a2 : Int) (a3 : Int) (a4 : Int) (a5 : Bool) (a6 : Int) (a7 : Int) (a8 : Int) (a9 : Int) (a10 : Int) (a11 : Int) (a12 : Int) (a13 : Int) (a14 : Int) (a15 : Int) (a16 : Int) (a17 : Int) (a18 : Int) (a19 : Int) (a20 : Int) (a21 : Int) (a22 : Int) : Fn Tryd.prog 8 [.agg [.sc (.int .i64 a0), .sc (.int .i64 a1), .sc (.int .i64 a2), .sc (.int .i64 a3), .sc (.int .i64 a4), .sc (.bool a5), .sc (.int .i64 a6), .sc (.int .i64 a7), .sc (.int .i64 a8), .sc (.int .i64 a9), .sc (.int .i64 a10), .sc (.int .i64 a11), .sc (.int .i64 a12), .sc (.int .i64 a13), .sc (.int .i64 a14), .sc (.int .i64 a15), .sc (.int .i64 a16), .sc (.int .i64 a17), .sc (.int .i64 a18), .sc (.int .i64 a19), .sc (.int .i64 a20), .sc (.int .i64 a21), .sc (.int .i64 a22)]] (.agg [.sc (.int .i64 a0), .sc (.int .i64 a1), .sc (.int .i64 a2), .sc (.int .i64 a3), .sc (.int .i64 a4), .sc (.bool a5), .sc (.int .i64 a6), .sc (.int .i64 a7), .sc (.int .i64 a8), .sc (.int .i64 a9), .sc (.int .i64 a10), .sc (.int .i64 a11), .sc (.int .i64 a12), .sc (.int .i64 a13), .sc (.int .i64 a14), .sc (.int .i64 a15), .sc (.int .i64 a16), .sc (.int .i64 a17), .sc (.int .i64 a18), .sc (.int .i64 a19), .sc (.int .i64 a20), .sc (.int .i64 a21), .sc (.int .i64 a22)]) := by
  refine Fn.run 51 [.cell 2 33] Tryd.func8 rfl rfl rfl rfl (by simp) (flats_cons (.agg ((flats_cons (.sc _) (flats_cons (.sc _) (flats_cons (.sc _) (flats_cons (.sc _) (flats_cons (.sc _) (flats_cons (.sc _) (flats_cons (.sc _) (flats_cons (.sc _) (flats_cons (.sc _) (flats_cons (.sc _) (flats_cons (.sc _) (flats_cons (.sc _) (flats_cons (.sc _) (flats_cons (.sc _) (flats_cons (.sc _) (flats_cons (.sc _) (flats_cons (.sc _) (flats_cons (.sc _) (flats_cons (.sc _) (flats_cons (.sc _) (flats_cons (.sc _) (flats_cons (.sc _) (flats_cons (.sc _) flats_nil))))))))))))))))))))))))) flats_nil) (.agg ((flats_cons (.sc _) (flats_cons (.sc _) (flats_cons (.sc _) (flats_cons (.sc _) (flats_cons (.sc _) (flats_cons (.sc _) (flats_cons (.sc _) (flats_cons (.sc _) (flats_cons (.sc _) (flats_cons (.sc _) (flats_cons (.sc _) (flats_cons (.sc _) (flats_cons (.sc _) (flats_cons (.sc _) (flats_cons (.sc _) (flats_cons (.sc _) (flats_cons (.sc _) (flats_cons (.sc _) (flats_cons (.sc _) (flats_cons (.sc _) (flats_cons (.sc _) (flats_cons (.sc _) (flats_cons (.sc _) flats_nil))))))))))))))))))))))))) ?_
  simp -implicitDefEqProofs only [↓w_seq, ↓w_region, ↓ops_cons, ↓g_box, Nat.reduceLT, ev_tab, par0, cells_agg, ↓g_alloc, zero33, Option.map_some, ↓ops_nil, ↓g_fieldAddrT, ne_eq, Nat.reduceEqDiff, not_false_eq_true, upd_ne, upd_eq, ↓g_load, ↓g_store, alK_some, List.all_cons, one_int, one_bool, List.all_nil, Bool.and_self, fadr33_0, Nat.zero_add, fadr33_1, fadr33_2, fadr33_3, fadr33_4, fadr33_5, fadr33_6, fadr33_7, fadr33_8, fadr33_9, fadr33_10, onS_some, wr_def, tyOk3, cells3, tyOk4, cells4, at_end, wr_c, List.length_cons, List.length_nil, Nat.reduceAdd, Nat.reduceLeDiff, true_and, onS_ite, List.length_append, fadr27_0, List.nil_append, List.cons_append, fadr27_1, List.set_cons_succ, List.set_cons_zero, List.getElem?_cons_succ, List.getElem?_cons_zero, fadr27_2, fadr27_3, fadr27_4, fadr27_5, fadr27_6, fadr27_7, fadr27_8, fadr27_9, fadr27_10, fadr27_11, rd_def, tyOk25, agg25, cells25, agg3, agg4, rd_onec, cells_int, and_self, ovC, ovN, over_s, if_true, rd_aggc, List.drop_succ_cons, List.drop_zero, List.take_succ_cons, List.take_zero, and_true, cells_bool]
  refine call1 (by simp -implicitDefEqProofs only [List.map_cons, Nat.reduceLT, ev_tab, upd_eq, List.map_nil] <;> rfl) (toChan0 a11 a12 a13 a14 a15 a16 a17 a18 a19) ?_
  simp -implicitDefEqProofs only [↓ops_cons, ↓g_fieldAddrT, Nat.reduceLT, ev_tab, ne_eq, Nat.reduceEqDiff, not_false_eq_true, upd_ne, upd_eq, fadr33_11, Nat.zero_add, ↓g_store, ↓ops_nil, ↓w_seq, ↓w_region, fadr27_12, ↓g_load, fadr33_12, fadr27_13, fadr33_13, fadr27_14, fadr33_14, rd_def, tyOk33, agg33, cells33, wr_def, ↓w_ret, ret_cell, onS_some, tyOk3, cells3, agg3, tyOk31, cells31, List.getElem?_cons_succ, List.getElem?_cons_zero, wr_c, cells_agg, List.length_cons, List.length_nil, Nat.reduceAdd, Nat.reduceLeDiff, List.all_cons, one_int, List.all_nil, Bool.and_self, and_self, over_s, ovC, ovN, List.set_cons_succ, List.set_cons_zero, if_true, rd_onec, true_and, onS_ite, rd_aggc, List.drop_zero, List.take_succ_cons, Nat.le_refl, one_bool, cells_int, and_true, List.take_zero]
theorem toClient1 (r : Rw kClient) : Fn Tryd.prog 8 [.agg r.cs] (.agg r.cs) := by
  obtain ⟨a0, a1, a2, a3, a4, a5, a6, a7, a8, a9, a10, a11, a12, a13, a14, a15, a16, a17, a18, a19, a20, a21, a22, e⟩ := rowClient r
  rw [e]
  exact toClient0 a0 a1 a2 a3 a4 a5 a6 a7 a8 a9 a10 a11 a12 a13 a14 a15 a16 a17 a18 a19 a20 a21 a22
theorem eqClient0 (a0 : Int) (a1 : Int) (a2 : Int) (a3 : Int) (a4 : Int) (a5 : Bool) (a6 : Int) (a7 : Int) (a8 : Int) (a9 : Int) (a10 : Int) (a11 : Int) (a12 : Int) (a13 : Int) (a14 : Int) (a15 : Int) (a16 : Int) (a17 : Int) (a18 : Int) (a19 : Int) (a20 : Int) (a21 : Int) (a22 : Int) : Fn Tryd.prog 83 [.agg [.sc (.int .i64 a0), .sc (.int .i64 a1), .sc (.int .i64 a2), .sc (.int .i64 a3), .sc (.int .i64 a4), .sc (.bool a5), .sc (.int .i64 a6), .sc (.int .i64 a7), .sc (.int .i64 a8), .sc (.int .i64 a9), .sc (.int .i64 a10), .sc (.int .i64 a11), .sc (.int .i64 a12), .sc (.int .i64 a13), .sc (.int .i64 a14), .sc (.int .i64 a15), .sc (.int .i64 a16), .sc (.int .i64 a17), .sc (.int .i64 a18), .sc (.int .i64 a19), .sc (.int .i64 a20), .sc (.int .i64 a21), .sc (.int .i64 a22)], .agg [.sc (.int .i64 a0), .sc (.int .i64 a1), .sc (.int .i64 a2), .sc (.int .i64 a3), .sc (.int .i64 a4), .sc (.bool a5), .sc (.int .i64 a6), .sc (.int .i64 a7), .sc (.int .i64 a8), .sc (.int .i64 a9), .sc (.int .i64 a10), .sc (.int .i64 a11), .sc (.int .i64 a12), .sc (.int .i64 a13), .sc (.int .i64 a14), .sc (.int .i64 a15), .sc (.int .i64 a16), .sc (.int .i64 a17), .sc (.int .i64 a18), .sc (.int .i64 a19), .sc (.int .i64 a20), .sc (.int .i64 a21), .sc (.int .i64 a22)]] (.sc (.bool true)) := by
  refine Fn.run 81 [.tmp 4] Tryd.func83 rfl rfl rfl rfl (by simp) (flats_cons (.agg ((flats_cons (.sc _) (flats_cons (.sc _) (flats_cons (.sc _) (flats_cons (.sc _) (flats_cons (.sc _) (flats_cons (.sc _) (flats_cons (.sc _) (flats_cons (.sc _) (flats_cons (.sc _) (flats_cons (.sc _) (flats_cons (.sc _) (flats_cons (.sc _) (flats_cons (.sc _) (flats_cons (.sc _) (flats_cons (.sc _) (flats_cons (.sc _) (flats_cons (.sc _) (flats_cons (.sc _) (flats_cons (.sc _) (flats_cons (.sc _) (flats_cons (.sc _) (flats_cons (.sc _) (flats_cons (.sc _) flats_nil))))))))))))))))))))))))) (flats_cons (.agg ((flats_cons (.sc _) (flats_cons (.sc _) (flats_cons (.sc _) (flats_cons (.sc _) (flats_cons (.sc _) (flats_cons (.sc _) (flats_cons (.sc _) (flats_cons (.sc _) (flats_cons (.sc _) (flats_cons (.sc _) (flats_cons (.sc _) (flats_cons (.sc _) (flats_cons (.sc _) (flats_cons (.sc _) (flats_cons (.sc _) (flats_cons (.sc _) (flats_cons (.sc _) (flats_cons (.sc _) (flats_cons (.sc _) (flats_cons (.sc _) (flats_cons (.sc _) (flats_cons (.sc _) (flats_cons (.sc _) flats_nil))))))))))))))))))))))))) flats_nil)) (.sc _) ?_
  simp -implicitDefEqProofs only [↓w_seq, ↓w_region, ↓ops_cons, ↓g_box, Nat.reduceLT, ev_tab, par0, cells_agg, ne_eq, Nat.reduceEqDiff, not_false_eq_true, upd_ne, par1, ↓g_assign, ↓ops_nil, ev_const, of_bool, ↓g_fieldAddrT, upd_eq, ↓g_load, ↓g_binOp, ↓w_cond, ↓w_ret, ret_one, ↓w_skip, alK_some, List.all_cons, one_int, one_bool, List.all_nil, Bool.and_self, fadr33_0, Nat.zero_add, fadr33_1, fadr33_2, fadr33_3, fadr33_4, fadr33_5, fadr33_6, fadr33_7, fadr33_8, fadr33_9, fadr33_10, fadr33_11, onS_some, rd_def, tyOk31, agg31, cells31, at_end, rd_aggc, Nat.reduceAdd, List.length_cons, List.length_nil, Nat.reduceLeDiff, List.drop_succ_cons, List.drop_zero, List.take_succ_cons, List.take_zero, if_true, tyOk3, agg3, cells3, rd_onec, List.getElem?_cons_succ, List.getElem?_cons_zero, tyOk4, agg4, cells4, true_and, List.nil_append, List.cons_append, b_neq, decide_true, Bool.not_true, onB_false, Tryd.underlying4, v_neq, beq_self_eq_true]
  refine call1 (by simp -implicitDefEqProofs only [List.map_cons, Nat.reduceLT, ev_tab, ne_eq, Nat.reduceEqDiff, not_false_eq_true, upd_ne, upd_eq, List.map_nil] <;> rfl) (eqChan0 a11 a12 a13 a14 a15 a16 a17 a18 a19) ?_
  simp -implicitDefEqProofs only [↓ops_cons, ↓g_unOp, Nat.reduceLT, ev_tab, upd_eq, u_not, Bool.not_true, Option.map_some, ↓ops_nil, ↓w_cond, ↓w_seq, ↓w_region, ↓g_assign, ↓w_ret, ev_const, of_bool, ret_one, ↓w_skip, ↓g_fieldAddrT, ne_eq, Nat.reduceEqDiff, not_false_eq_true, upd_ne, fadr33_12, Nat.zero_add, ↓g_load, ↓g_binOp, fadr33_13, fadr33_14, onS_some, rd_def, tyOk3, agg3, cells3, List.getElem?_cons_succ, List.getElem?_cons_zero, rd_onec, b_neq, decide_true, onB_false]
theorem eqClient1 (r : Rw kClient) : Fn Tryd.prog 83 [.agg r.cs, .agg r.cs] (.sc (.bool true)) := by
  obtain ⟨a0, a1, a2, a3, a4, a5, a6, a7, a8, a9, a10, a11, a12, a13, a14, a15, a16, a17, a18, a19, a20, a21, a22, e⟩ := rowClient r
  rw [e]
  exact eqClient0 a0 a1 a2 a3 a4 a5 a6 a7 a8 a9 a10 a11 a12 a13 a14 a15 a16 a17 a18 a19 a20 a21 a22
theorem szClientSS {H : AHeap} {x : AV} {l : List (Rw kClient)} (n : Int) (hn : 0 ≤ n ∧ n ≤ 1048576) (hx : IsR H x l) (hl : l.length ≤ 9223372036854775807) : Sound Tryd.prog 50 [x, .sc (.int .i64 n)] H (.sc (.int .i64 (if n - (l.length : Int) < 0 then -1 else n - l.length))) H := by
  refine Sound.run 12 [.tmp 4] Tryd.func50 rfl rfl rfl rfl (by simp) ?_
  have lx := fun e => hx.len e
  have e1 : IntKind.i64.wrap (n - (l.length : Int)) = n - l.length := w64 (by omega) (by omega)
  simp -implicitDefEqProofs only [↓w_seq, ↓w_region, Int.reduceNeg, ↓ops_cons, ↓g_assign, ↓ops_nil, ev_const, of_int, ↓g_move, ↓g_len, Tryd.underlying64, Nat.reduceLT, ev_tab, ne_eq, Nat.reduceEqDiff, not_false_eq_true, upd_ne, par1, reduceCtorEq, par0, upd_eq, lx, ↓g_binOp, ↓w_cond, ↓w_ret, ret_one, and_true, ↓w_skip, onS_some, b_sub, e1, b_lss, onB_dec]
  split <;> rfl
theorem toClientSS {H : AHeap} {x : AV} {l : List (Rw kClient)} (hx : IsR H x l) (hl : l.length ≤ 1048576) : Sound Tryd.prog 54 [x] H (.sl H.length 0 l.length 23) (H ++ [⟨rows Rw.cs l, true, true⟩]) := by
  refine Sound.run 23 [.tmp 2] Tryd.func54 rfl rfl rfl rfl (by simp) ?_
  have lx := fun e => hx.len e
  have k0 : ∀ j : Nat, (0 : Int) ≤ (j : Int) := fun j => by omega
  have k1 : (l.length : Int) ≤ 1048576 := by omega
  have mk := mk_rows (P := Tryd.prog) (Rw.zero kClient) 33 .i64 .i64 (l.length : Int) 184 encClient (by kernel_rfl) (by kernel_rfl) (by kernel_rfl) (by omega) (by omega) (by omega)
  have ra := rows_all encClient (List.replicate l.length (Rw.zero kClient))
  simp -implicitDefEqProofs only [↓w_seq, ↓w_region, ↓ops_cons, ↓g_assign, ↓ops_nil, ev_const, ↓g_move, ↓g_len, Tryd.underlying64, Nat.reduceLT, ev_tab, ne_eq, reduceCtorEq, not_false_eq_true, upd_ne, par0, upd_eq, lx, ↓g_makeSlice, Tryd.underlying72, ↓w_block, of_int, onS_some, mk, Int.toNat_natCast, alK_some, ra, true_and]
  refine w_loop (ι := Nat) (fun i s => ∃ T : Nat → AV, s = ⟨tab 23 T, H ++ [⟨rows Rw.cs (l.take i ++ List.replicate (l.length - i) (Rw.zero kClient)), true, true⟩]⟩ ∧ i ≤ l.length ∧ T 0 = x ∧ T 3 = .sl H.length 0 l.length 23 ∧ T 4 = .sc (.int .i64 i)) (fun i => l.length - i) ?_ (i := 0) ?_
  · rintro i s ⟨T, rfl, a1, a2, a3, a4⟩
    by_cases h : i < l.length
    · have k2 : (i : Int) < l.length := by omega
      have e1 : IntKind.i64.wrap ((i : Int) + 1) = i + 1 := w64 (by omega) (by omega)
      obtain ⟨r, o, rfl, hr⟩ := hx.get h
      have hrl : r < H.length := (List.getElem?_eq_some_iff.1 hr).1
      have hm := at_more H [⟨rows Rw.cs (l.take i ++ List.replicate (l.length - i) (Rw.zero kClient)), true, true⟩] r hrl
      rw [hr] at hm
      have ha : l[i]? = some l[i] := List.getElem?_eq_getElem h
      generalize l[i] = p at ha
      have rr := fun o => rd_row encClient ha o
      have ww := fun (G : AHeap) => wr_row (H := G) (l := l.take i ++ List.replicate (l.length - i) (Rw.zero kClient)) encClient (i := i) (by simp; omega) H.length p
      have cp := cpy_row (Rw.zero kClient) l i p ha
      have hse : ∀ g h : Reg, (H ++ [g]).set H.length h = H ++ [h] := fun g h => by simp
      have kl : kClient.length = 23 := rfl
      simp -implicitDefEqProofs only [↓w_seq, ↓w_region, List.length_cons, List.length_nil, Nat.zero_add, Nat.reduceAdd, ↓ops_cons, ↓g_move, ↓g_len, Tryd.underlying64, Nat.reduceLT, ev_tab, a4, ne_eq, reduceCtorEq, not_false_eq_true, upd_ne, a2, upd_eq, len_sl, ↓g_binOp, Nat.reduceEqDiff, ↓ops_nil, ↓w_cond, ↓w_skip, ↓w_block, ↓g_indexAddr, a3, adr_sl, k2, cells27, tyOk27, and_self, and_true, ↓g_load, onS_ite, rd_def, agg27, ↓w_exit, ↓g_assign, ↓w_ret, ret_one, true_and, if_true, onS_some, b_lss, decide_true, onB_true]
      try refine drawn [(5, 0)] follows (by kernel_rfl) (by kernel_rfl) ?_
      simp -implicitDefEqProofs only [k0, hm, Int.toNat_natCast, rr, onS_some, true_and]
      refine call1 (by simp -implicitDefEqProofs only [List.map_cons, Nat.reduceLT, ev_tab, upd_eq, List.map_nil] <;> rfl) (toClient1 p) ?_
      simp -implicitDefEqProofs only [↓ops_cons, ↓g_indexAddr, Tryd.underlying72, Nat.reduceLT, ev_tab, ne_eq, Nat.reduceEqDiff, not_false_eq_true, upd_ne, upd_eq, adr_sl, k0, k2, cells33, tyOk33, and_self, Int.toNat_natCast, Nat.zero_add, if_true, ↓g_store, ↓ops_nil, ↓w_region, ↓g_move, ↓g_binOp, a4, ev_const, of_int, b_add, e1, ↓g_assign, onS_some, wr_def, at_end, ww, cp, hse]
      try refine ⟨pairs_cons (same_H rfl) (pairs_nil), ?_⟩
      try simp -implicitDefEqProofs only []
      refine ⟨i + 1, by omega, _, rfl, by omega, ?_, ?_, ?_⟩ <;> simp -implicitDefEqProofs only [ne_eq, reduceCtorEq, not_false_eq_true, upd_ne, a2, kl, Nat.reduceEqDiff, a3, upd_eq] <;> rfl
    · have k2 : ¬ (i : Int) < l.length := by omega
      have hi : i = l.length := by omega
      have e : l.take i ++ List.replicate (l.length - i) (Rw.zero kClient) = l := by rw [hi]; simp
      rw [e]
      simp -implicitDefEqProofs only [↓w_seq, ↓w_region, ↓ops_cons, ↓g_move, ↓g_len, Tryd.underlying64, Nat.reduceLT, ev_tab, a4, ne_eq, reduceCtorEq, not_false_eq_true, upd_ne, a2, upd_eq, lx, ↓g_binOp, Nat.reduceEqDiff, ↓ops_nil, ↓w_cond, ↓w_skip, ↓w_block, ↓g_indexAddr, a3, ↓g_load, ↓w_exit, ↓g_assign, ↓w_ret, ret_one, and_self, if_true, onS_some, b_lss, k2, decide_false, onB_false]
  · refine ⟨_, st_end (by simp), by omega, ?_, ?_, ?_⟩ <;> simp -implicitDefEqProofs only [ne_eq, reduceCtorEq, not_false_eq_true, upd_ne, par0, Nat.reduceEqDiff, upd_eq, Int.cast_ofNat_Int] <;> rfl
theorem eqClientSS {H : AHeap} {x y : AV} {l : List (Rw kClient)} (hx : IsR H x l) (hy : IsR H y l) (hl : l.length ≤ 1000000000) : Sound Tryd.prog 58 [x, y] H (.sc (.bool true)) H := by
  refine Sound.run 27 [.tmp 4] Tryd.func58 rfl rfl rfl rfl (by simp) ?_
  have lx := fun e => hx.len e
  have ly := fun e => hy.len e
  simp -implicitDefEqProofs only [↓w_seq, ↓w_region, ↓ops_cons, ↓g_assign, ↓ops_nil, ev_const, of_bool, ↓g_move, ↓g_len, Tryd.underlying72, Nat.reduceLT, ev_tab, ne_eq, reduceCtorEq, not_false_eq_true, upd_ne, par0, upd_eq, lx, Nat.reduceEqDiff, par1, ly, ↓g_binOp, ↓w_cond, ↓w_ret, ret_one, and_true, ↓w_skip, ↓w_block, of_int, onS_some, b_neq, decide_true, Bool.not_true, onB_false]
  refine w_loop (ι := Nat) (fun i s => ∃ T : Nat → AV, s = ⟨tab 27 T, H⟩ ∧ i ≤ l.length ∧ T 0 = x ∧ T 1 = y ∧ T 5 = .sc (.int .i64 i)) (fun i => l.length - i) ?_ (i := 0) ?_
  · rintro i s ⟨T, rfl, a1, a3, a4, a5⟩
    by_cases h : i < l.length
    · have k1 : (i : Int) < l.length := by omega
      have k2 : (0 : Int) ≤ i := by omega
      have e1 : IntKind.i64.wrap ((i : Int) + 1) = i + 1 := w64 (by omega) (by omega)
      have kl : kClient.length = 23 := rfl
      simp -implicitDefEqProofs only [↓w_seq, ↓w_region, ↓ops_cons, ↓g_move, ↓g_len, Tryd.underlying72, Nat.reduceLT, ev_tab, a5, ne_eq, reduceCtorEq, not_false_eq_true, upd_ne, a3, upd_eq, lx, ↓g_binOp, Nat.reduceEqDiff, ↓ops_nil, ↓w_cond, ↓w_skip, ↓w_block, ↓w_exit, ↓g_assign, ↓w_ret, ev_const, of_bool, ret_one, and_self, if_true, onS_some, b_lss, k1, decide_true, onB_true]
      refine drawn [(3, 0), (7, 0)] follows (by kernel_rfl) (by kernel_rfl) ?_
      obtain ⟨r, o, rfl, hr⟩ := hx.get h
      obtain ⟨q, o2, rfl, hq⟩ := hy.get h
      have ha : l[i]? = some l[i] := List.getElem?_eq_getElem h
      generalize l[i] = p at *
      have rr := fun o => rd_row encClient ha o
      simp -implicitDefEqProofs only [kl, ↓dops_cons, ↓g_move, ↓g_indexAddr, Tryd.underlying72, Nat.reduceLT, ev_tab, ne_eq, reduceCtorEq, not_false_eq_true, upd_ne, a3, Nat.reduceEqDiff, a5, upd_eq, adr_sl, k2, k1, cells33, tyOk33, and_self, Int.toNat_natCast, Nat.zero_add, if_true, ↓g_load, a4, onS_some, rd_def, agg33, hq, rr, hr]
      refine call1 (by simp -implicitDefEqProofs only [List.map_cons, Nat.reduceLT, ev_tab, ne_eq, Nat.reduceEqDiff, not_false_eq_true, upd_ne, upd_eq, List.map_nil] <;> rfl) (eqClient1 p) ?_
      simp -implicitDefEqProofs only [↓dops_cons, ↓g_unOp, Nat.reduceLT, ev_tab, upd_eq, u_not, Bool.not_true, Option.map_some, ↓dops_p, ↓w_cond, ↓w_seq, ↓w_region, ↓ops_cons, ↓g_assign, ↓ops_nil, ↓w_ret, ev_const, of_bool, ret_one, and_true, ↓w_skip, ↓g_move, ↓g_binOp, ne_eq, Nat.reduceEqDiff, not_false_eq_true, upd_ne, of_int, onS_some, onB_false]
      refine ⟨pairs_cons (same_H rfl) (pairs_cons (same_H rfl) (pairs_nil)), ?_⟩
      simp -implicitDefEqProofs only [a5, b_add, e1, onS_some]
      refine ⟨i + 1, by omega, _, rfl, by omega, ?_, ?_, ?_⟩ <;> simp -implicitDefEqProofs only [ne_eq, reduceCtorEq, not_false_eq_true, upd_ne, a3, kl, Nat.reduceEqDiff, a4, upd_eq] <;> rfl
    · have k1 : ¬ (i : Int) < l.length := by omega
      simp -implicitDefEqProofs only [↓w_seq, ↓w_region, ↓ops_cons, ↓g_move, ↓g_len, Tryd.underlying72, Nat.reduceLT, ev_tab, a5, ne_eq, reduceCtorEq, not_false_eq_true, upd_ne, a3, upd_eq, lx, ↓g_binOp, Nat.reduceEqDiff, ↓ops_nil, ↓w_cond, ↓w_skip, ↓w_block, ↓w_exit, ↓g_assign, ↓w_ret, ev_const, of_bool, ret_one, and_self, if_true, onS_some, b_lss, k1, decide_false, onB_false]
  · refine ⟨_, rfl, by omega, ?_, ?_, ?_⟩ <;> simp -implicitDefEqProofs only [ne_eq, reduceCtorEq, not_false_eq_true, upd_ne, par0, Nat.reduceEqDiff, par1, upd_eq, Int.cast_ofNat_Int] <;> rfl
end Go.Proofs.YtfgmmklljibbiaaDoor.Sim

