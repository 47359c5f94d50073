/- A block of SHA-256, as the program makes it. -/
import Derived.Test.YtknmbiebnpojjaaFSchedI
import Derived.Test.YtknmbiebnpojjaaFAreWords
namespace Go.Proofs.Ytknmbiebnpojjaa.Sim
open Go
set_option maxRecDepth 100000
set_option maxHeartbeats 4000000
set_option linter.unusedSimpArgs false
set_option linter.unusedVariables false
theorem keysI : Fn Try.prog 62 [] (.agg (ints .i64 (wis keys))) := by
  refine Fn.run 2 [.cell 0 78] Try.func62 rfl rfl rfl rfl (by simp) flats_nil (flat_ints _ _) ?_
  simp -implicitDefEqProofs only [↓w_seq, ↓w_region, ↓ops_cons, ↓g_alloc, zero78, Option.map_some, ↓ops_nil, ↓g_buildV, List.map_cons, ev_const, of_int, List.map_nil, ↓g_store, Nat.reduceLT, ev_tab, ne_eq, reduceCtorEq, not_false_eq_true, upd_ne, upd_eq, ↓w_ret, ret_cell, alK_some, ints_one, List.length_nil, List.nil_append, wr_def, tyOk78, cells78, List.getElem?_cons_zero, rd_def, agg78, true_and]
  refine onS_of (v := .agg (ints .i64 (wis keys))) (by kernel_rfl) ?_
  simp -implicitDefEqProofs only [wis_len, keys_len, List.length_replicate, wrA, List.set_cons_zero, onS_some, List.getElem?_cons_zero, rdA]
theorem t2s (a b : Wo) : IntKind.i64.wrap (wi a + wi b) = wi a + wi b := by
  have ha := wi_0 a
  have hb := wi_0 b
  have ja := wi_lt a
  have jb := wi_lt b
  rw [w64 (by omega) (by omega)]
theorem t3s (a b c : Wo) : IntKind.i64.wrap (wi a + wi b + wi c) = wi a + wi b + wi c := by
  have ha := wi_0 a
  have hb := wi_0 b
  have hc := wi_0 c
  have ja := wi_lt a
  have jb := wi_lt b
  have jc := wi_lt c
  rw [w64 (by omega) (by omega)]
theorem t4s (a b c d : Wo) : IntKind.i64.wrap (wi a + wi b + wi c + wi d) = wi a + wi b + wi c + wi d := by
  have ha := wi_0 a
  have hb := wi_0 b
  have hc := wi_0 c
  have hd := wi_0 d
  have ja := wi_lt a
  have jb := wi_lt b
  have jc := wi_lt c
  have jd := wi_lt d
  rw [w64 (by omega) (by omega)]
theorem t5s (a b c d e : Wo) : IntKind.i64.wrap (wi a + wi b + wi c + wi d + wi e) = wi a + wi b + wi c + wi d + wi e := by
  have ha := wi_0 a
  have hb := wi_0 b
  have hc := wi_0 c
  have hd := wi_0 d
  have he := wi_0 e
  have ja := wi_lt a
  have jb := wi_lt b
  have jc := wi_lt c
  have jd := wi_lt d
  have je := wi_lt e
  rw [w64 (by omega) (by omega)]
theorem md6 (x a b c d e : Wo) : IntKind.i64.wrap (wi x + (wi a + wi b + wi c + wi d + wi e)) % 4294967296 = wi (x + (a + b + c + d + e)) := by
  have ha := wi_0 a
  have hb := wi_0 b
  have hc := wi_0 c
  have hd := wi_0 d
  have he := wi_0 e
  have hx := wi_0 x
  have ja := wi_lt a
  have jb := wi_lt b
  have jc := wi_lt c
  have jd := wi_lt d
  have je := wi_lt e
  have jx := wi_lt x
  rw [w64 (by omega) (by omega)]
  simp only [wi, BitVec.toNat_add] at *
  omega
theorem md7 (a b c d e x y : Wo) : IntKind.i64.wrap (wi a + wi b + wi c + wi d + wi e + (wi x + wi y)) % 4294967296 = wi (a + b + c + d + e + (x + y)) := by
  have ha := wi_0 a
  have hb := wi_0 b
  have hc := wi_0 c
  have hd := wi_0 d
  have he := wi_0 e
  have hx := wi_0 x
  have hy := wi_0 y
  have ja := wi_lt a
  have jb := wi_lt b
  have jc := wi_lt c
  have jd := wi_lt d
  have je := wi_lt e
  have jx := wi_lt x
  have jy := wi_lt y
  rw [w64 (by omega) (by omega)]
  simp only [wi, BitVec.toNat_add] at *
  omega
theorem md2 (x y : Wo) : IntKind.i64.wrap (wi x + wi y) % 4294967296 = wi (x + y) := by rw [t2s, mask_add]
def mix (A B : List Wo) (i : Nat) : List Wo := B.take i ++ A.drop i
theorem mix_len (A B : List Wo) (i : Nat) (h : A.length = B.length) : (mix A B i).length = B.length := by
  simp only [mix, List.length_append, List.length_take, List.length_drop]
  omega
theorem mix_get (A B : List Wo) (i : Nat) (h : A.length = B.length) (hi : i < B.length) : (mix A B i).getD i 0 = A.getD i 0 := by
  simp only [mix, List.getD_eq_getElem?_getD]
  rw [List.getElem?_append_right (by rw [List.length_take]; omega), List.length_take, Nat.min_eq_left (by omega), Nat.sub_self, List.getElem?_drop, Nat.add_zero]
theorem mix_set (A B : List Wo) (i : Nat) (h : A.length = B.length) (hi : i < B.length) : (mix A B i).set i (B.getD i 0) = mix A B (i + 1) := by
  have hA : i < A.length := by omega
  simp only [mix, List.getD_eq_getElem?_getD]
  rw [List.set_append_right _ _ (by rw [List.length_take]; omega), List.length_take, Nat.min_eq_left (by omega), Nat.sub_self, List.drop_eq_getElem_cons hA, List.set_cons_zero, List.take_add_one (l := B) (i := i), List.getElem?_eq_getElem hi]
  simp only [Option.getD_some, Option.toList_some, List.append_assoc, List.singleton_append]
theorem add_get (s t : S8) (i : Nat) (h : i < 8) : (s.add t).l.getD i 0 = s.l.getD i 0 + t.l.getD i 0 := by
  match i, h with
  | 0, _ => rfl
  | 1, _ => rfl
  | 2, _ => rfl
  | 3, _ => rfl
  | 4, _ => rfl
  | 5, _ => rfl
  | 6, _ => rfl
  | 7, _ => rfl
theorem l_0 (s : S8) : s.l.getD 0 0 = s.a := rfl
theorem l_1 (s : S8) : s.l.getD 1 0 = s.b := rfl
theorem l_2 (s : S8) : s.l.getD 2 0 = s.c := rfl
theorem l_3 (s : S8) : s.l.getD 3 0 = s.d := rfl
theorem l_4 (s : S8) : s.l.getD 4 0 = s.e := rfl
theorem l_5 (s : S8) : s.l.getD 5 0 = s.f := rfl
theorem l_6 (s : S8) : s.l.getD 6 0 = s.g := rfl
theorem l_7 (s : S8) : s.l.getD 7 0 = s.h := rfl
theorem blockI (own : Bool) (s : S8) (z : ByteArray) (hz : z.size = 64) : ∃ Z : AHeap, Sound Try.prog 12 [.sl 0 0 8 1, .sc (.string z)] [⟨ints .i64 (wis s.l), own, true⟩] (.sl 2 0 8 1) Z ∧ Z[0]? = some ⟨ints .i64 (wis s.l), own, true⟩ ∧ Z[2]? = some ⟨ints .i64 (wis (blk s z).l), true, true⟩ := by
  refine ⟨[⟨ints .i64 (wis s.l), own, true⟩, ⟨ints .i64 [], true, false⟩, ⟨ints .i64 (wis (blk s z).l), true, true⟩, ⟨ints .i64 (wis keys), true, true⟩, ⟨ints .i64 (wis (schd z)), true, true⟩, ⟨ints .i64 (wis (rnds (schd z) s 64).l), true, true⟩], ?_, rfl, rfl⟩
  refine Sound.run 154 [.tmp 4] Try.func12 rfl rfl rfl rfl (by simp) ?_
  have hl : (wis s.l).length = 8 := rfl
  have ht : (wis s.l).take 8 = wis s.l := List.take_of_length_le (by rw [hl]; decide)
  simp -implicitDefEqProofs only [↓w_seq, ↓w_region, ↓ops_cons, ↓g_assign, ↓ops_nil, ev_const, ↓g_buildSlice, Try.underlying26, List.map_nil, bs3_0, ↓g_move, ↓g_append, Nat.reduceLT, ev_tab, ne_eq, reduceCtorEq, not_false_eq_true, upd_ne, par0, Nat.reduceEqDiff, upd_eq, alK_some, ints_one, List.length_cons, List.length_nil, Nat.zero_add, List.cons_append, List.nil_append, apS26, List.getElem?_cons_succ, List.getElem?_cons_zero, src_sl, at_ints, hl, Nat.le_refl, List.drop_zero, ht, if_true, ap_ints, Nat.reduceMul, Nat.reduceLeDiff, and_self, Nat.reduceAdd, kill_s, kill_0, List.take_zero, onS_some, true_and]
  refine call1S (by simp -implicitDefEqProofs only [List.map_cons, Nat.reduceLT, ev_tab, upd_eq, ev_const, of_int, List.map_nil] <;> rfl) (wordsI (l := s.l) 8 (.inr ⟨0, own, rfl, rfl⟩) (show (8 : Nat) ≤ _ by decide)) ?_
  rw [decide_eq_true (show ((s.l.length : Nat) : Int) = 8 from rfl)]
  simp -implicitDefEqProofs only [↓ops_cons, ↓g_unOp, Nat.reduceLT, ev_tab, upd_eq, u_not, Bool.not_true, Option.map_some, ↓g_move, onS_some, yielded_tab, dstAt_s, dstAt_0, ybv_some, boolOf_b, ↓g_guard_t, ne_eq, Nat.reduceEqDiff, not_false_eq_true, upd_ne, par1, ↓g_len, Try.underlying9, len_str, hz, Int.cast_ofNat_Int, ↓g_binOp, ev_const, of_int, ↓g_pick, of_bool, pick_b, reduceCtorEq, if_false, ↓ops_nil, ↓w_cond, ↓w_seq, ↓w_region, ↓g_assign, ↓w_ret, ret_one, true_and, ↓w_skip, b_neq, decide_true, onB_false]
  refine call1 (by simp -implicitDefEqProofs only [List.map_nil] <;> rfl) keysI ?_
  simp -implicitDefEqProofs only [↓ops_cons, ↓g_alloc, zero78, Option.map_some, ↓g_store, Nat.reduceLT, ev_tab, upd_eq, ne_eq, Nat.reduceEqDiff, not_false_eq_true, upd_ne, ↓ops_nil, ↓w_seq, ↓w_region, ↓g_move, par1, alK_some, ints_one, List.length_cons, List.length_nil, Nat.zero_add, Nat.reduceAdd, List.cons_append, List.nil_append, wr_def, tyOk78, cells78, List.getElem?_cons_succ, List.getElem?_cons_zero, wis_len, keys_len, List.length_replicate, wrA, List.set_cons_succ, List.set_cons_zero, onS_some, true_and]
  refine call1 (by simp -implicitDefEqProofs only [List.map_cons, Nat.reduceLT, ev_tab, upd_eq, List.map_nil] <;> rfl) (schedI z hz) ?_
  simp -implicitDefEqProofs only [↓ops_cons, ↓g_alloc, zero78, Option.map_some, ↓g_store, Nat.reduceLT, ev_tab, upd_eq, ne_eq, Nat.reduceEqDiff, not_false_eq_true, upd_ne, ↓ops_nil, ↓w_seq, alK_some, ints_one, List.length_cons, List.length_nil, Nat.zero_add, Nat.reduceAdd, List.cons_append, List.nil_append, wr_def, tyOk78, cells78, List.getElem?_cons_succ, List.getElem?_cons_zero, wis_len, schd_len, List.length_replicate, wrA, List.set_cons_succ, List.set_cons_zero, onS_some, true_and]
  refine drawn [(2, 0), (5, 0), (8, 0), (11, 0), (14, 0), (17, 0), (20, 0), (23, 0)] follows (by kernel_rfl) (by kernel_rfl) ?_
  simp -implicitDefEqProofs only [↓dops_cons, ↓g_move, ↓g_indexAddr, Try.underlying26, Nat.reduceLT, ev_tab, ne_eq, Nat.reduceEqDiff, not_false_eq_true, upd_ne, upd_eq, ev_const, of_int, adr_sl, Int.reduceLE, Int.cast_ofNat_Int, Int.reduceLT, cells3, tyOk3, and_self, Int.toNat_zero, Nat.mul_one, Nat.zero_add, if_true, ↓g_load, Int.reduceToNat, ↓g_assign, ↓dops_p, ↓w_seq, ↓w_region, ↓ops_cons, ↓ops_nil, ↓w_block, onS_some, rd_def, agg3, List.getElem?_cons_succ, List.getElem?_cons_zero, rd_ints, hl, wis_get, l_7, l_6, l_5, l_4, l_3, l_2, l_1, l_0]
  refine ⟨pairs_cons (same_H rfl) (pairs_cons (same_H rfl) (pairs_cons (same_H rfl) (pairs_cons (same_H rfl) (pairs_cons (same_H rfl) (pairs_cons (same_H rfl) (pairs_cons (same_H rfl) (pairs_cons (same_H rfl) (pairs_nil)))))))), ?_⟩
  obtain ⟨R, hR0, hRs, hR6⟩ : ∃ R : Nat → S8, R 0 = s ∧ (∀ n, R (n + 1) = rnd (R n) (keys.getD n 0) ((schd z).getD n 0)) ∧ R 64 = rnds (schd z) s 64 := ⟨rnds (schd z) s, rfl, fun _ => rfl, rfl⟩
  refine w_loop (ι := Nat) (fun n st => ∃ T : Nat → AV, st = ⟨tab 154 T, [⟨ints .i64 (wis s.l), own, true⟩, ⟨ints .i64 [], true, false⟩, ⟨ints .i64 (wis s.l), true, true⟩, ⟨ints .i64 (wis keys), true, true⟩, ⟨ints .i64 (wis (schd z)), true, true⟩]⟩ ∧ n ≤ 64 ∧
    T 5 = .sl 2 0 8 1 ∧ T 6 = .ptr 3 0 ∧ T 7 = .ptr 4 0 ∧ T 8 = .sc (.int .i64 (wi (R n).a)) ∧ T 9 = .sc (.int .i64 (wi (R n).b)) ∧ T 10 = .sc (.int .i64 (wi (R n).c)) ∧ T 11 = .sc (.int .i64 (wi (R n).d)) ∧ T 12 = .sc (.int .i64 (wi (R n).e)) ∧ T 13 = .sc (.int .i64 (wi (R n).f)) ∧ T 14 = .sc (.int .i64 (wi (R n).g)) ∧ T 15 = .sc (.int .i64 (wi (R n).h)) ∧ T 16 = .sc (.int .i64 n)) (fun n => 64 - n) ?_ (i := 0) ?_
  · rintro n st ⟨T, rfl, b1, b2, b3, b4, c0, c1, c2, c3, c4, c5, c6, c7, b5⟩
    by_cases h : n < 64
    · have k1 : (n : Int) < 64 := by omega
      have k0 : (0 : Int) ≤ n := by omega
      have e1 : IntKind.i64.wrap ((n : Int) + 1) = n + 1 := w64 (by omega) (by omega)
      simp -implicitDefEqProofs only [↓w_seq, ↓w_region, ↓ops_cons, ↓g_move, ↓g_binOp, Nat.reduceLT, ev_tab, b5, upd_eq, ev_const, of_int, b_lss, k1, decide_true, ↓ops_nil, ↓w_cond, ↓w_skip, ↓w_block, ne_eq, Nat.reduceEqDiff, not_false_eq_true, upd_ne, c4, ↓w_exit, ↓g_buildSlice, Try.underlying26, c0, c1, c2, c3, c5, c6, c7, List.map_cons, List.map_nil, bs3_8, ↓g_len, alK_some, ints_one, List.length_cons, List.length_nil, Nat.zero_add, Nat.reduceAdd, len_sl, Int.cast_ofNat_Int, List.cons_append, List.nil_append, onS_some, true_and, if_true, onB_true]
      refine call1 (by simp -implicitDefEqProofs only [List.map_cons, Nat.reduceLT, ev_tab, upd_eq, ev_const, of_int, List.map_nil, Int.cast_ofNat_Int] <;> rfl) (rotI _ 6 (by decide) (by decide)) ?_
      simp -implicitDefEqProofs only [↓ops_cons, ↓g_move, Nat.reduceLT, ev_tab, ne_eq, Nat.reduceEqDiff, not_false_eq_true, upd_ne, c4]
      refine call1 (by simp -implicitDefEqProofs only [List.map_cons, Nat.reduceLT, ev_tab, upd_eq, ev_const, of_int, List.map_nil, Int.cast_ofNat_Int] <;> rfl) (rotI _ 11 (by decide) (by decide)) ?_
      simp -implicitDefEqProofs only [↓ops_cons, ↓g_binOp, Nat.reduceLT, ev_tab, ne_eq, Nat.reduceEqDiff, not_false_eq_true, upd_ne, upd_eq, b_xor, xor_i, ↓g_move, c4, onS_some]
      refine call1 (by simp -implicitDefEqProofs only [List.map_cons, Nat.reduceLT, ev_tab, upd_eq, ev_const, of_int, List.map_nil, Int.cast_ofNat_Int] <;> rfl) (rotI _ 25 (by decide) (by decide)) ?_
      simp -implicitDefEqProofs only [↓ops_cons, ↓g_binOp, Nat.reduceLT, ev_tab, ne_eq, Nat.reduceEqDiff, not_false_eq_true, upd_ne, upd_eq, b_xor, xor_i, ↓g_assign, ↓ops_nil, ↓w_seq, onS_some]
      refine drawn [(14, 0), (18, 0)] follows (by kernel_rfl) (by kernel_rfl) ?_
      simp -implicitDefEqProofs only [↓dops_cons, ↓g_move, ↓g_binOp, Nat.reduceLT, ev_tab, ne_eq, Nat.reduceEqDiff, not_false_eq_true, upd_ne, c7, upd_eq, b_add, t2s, c4, c5, b_and, and_i, ev_const, of_int, b_xor, not_l, c6, ↓g_indexAddr, Try.underlying78, b5, b3, adr_arr, k0, Int.cast_ofNat_Int, k1, tyOk3, and_self, Int.toNat_natCast, cells3, Nat.mul_one, Nat.zero_add, if_true, ↓g_load, b4, ↓g_assign, ↓dops_p, ↓w_seq, ↓w_region, ↓ops_cons, c0, onS_some, rd_def, agg3, List.getElem?_cons_succ, List.getElem?_cons_zero, rd_ints, wis_len, schd_len, h, wis_get, keys_len, xor_i, t3s, t4s, t5s]
      refine ⟨pairs_cons (same_H rfl) (pairs_cons (same_H rfl) (pairs_nil)), ?_⟩
      refine call1 (by simp -implicitDefEqProofs only [List.map_cons, Nat.reduceLT, ev_tab, upd_eq, ev_const, of_int, List.map_nil, Int.cast_ofNat_Int] <;> rfl) (rotI _ 2 (by decide) (by decide)) ?_
      simp -implicitDefEqProofs only [↓ops_cons, ↓g_move, Nat.reduceLT, ev_tab, ne_eq, Nat.reduceEqDiff, not_false_eq_true, upd_ne, c0]
      refine call1 (by simp -implicitDefEqProofs only [List.map_cons, Nat.reduceLT, ev_tab, upd_eq, ev_const, of_int, List.map_nil, Int.cast_ofNat_Int] <;> rfl) (rotI _ 13 (by decide) (by decide)) ?_
      simp -implicitDefEqProofs only [↓ops_cons, ↓g_binOp, Nat.reduceLT, ev_tab, ne_eq, Nat.reduceEqDiff, not_false_eq_true, upd_ne, upd_eq, b_xor, xor_i, ↓g_move, c0, onS_some]
      refine call1 (by simp -implicitDefEqProofs only [List.map_cons, Nat.reduceLT, ev_tab, upd_eq, ev_const, of_int, List.map_nil, Int.cast_ofNat_Int] <;> rfl) (rotI _ 22 (by decide) (by decide)) ?_
      simp -implicitDefEqProofs only [↓ops_cons, ↓g_binOp, Nat.reduceLT, ev_tab, ne_eq, Nat.reduceEqDiff, not_false_eq_true, upd_ne, upd_eq, b_xor, xor_i, ↓g_move, c0, c1, b_and, and_i, c2, ↓g_assign, ↓ops_nil, ↓w_seq, ↓w_region, c6, c5, c4, c3, b_add, ev_const, of_int, b5, e1, onS_some, i64_maskA, md6, t2s, md7]
      refine ⟨n + 1, by omega, _, rfl, by omega, ?_, ?_, ?_, ?_, ?_, ?_, ?_, ?_, ?_, ?_, ?_, ?_⟩ <;> simp -implicitDefEqProofs only [ne_eq, Nat.reduceEqDiff, not_false_eq_true, upd_ne, b2, b3, b4, upd_eq, hRs] <;> rfl
    · have k1 : ¬ (n : Int) < 64 := by omega
      have hn : n = 64 := by omega
      subst hn
      simp -implicitDefEqProofs only [↓w_seq, ↓w_region, Nat.reduceSub, ↓ops_cons, ↓g_move, ↓g_binOp, Nat.reduceLT, ev_tab, b5, Int.cast_ofNat_Int, upd_eq, ev_const, of_int, b_lss, Int.reduceLT, decide_false, ↓ops_nil, ↓w_cond, ↓w_skip, ↓w_block, ne_eq, Nat.reduceEqDiff, not_false_eq_true, upd_ne, c4, ↓w_exit, ↓g_buildSlice, Try.underlying26, c0, c1, c2, c3, c5, c6, c7, List.map_cons, List.map_nil, bs3_8, ↓g_len, alK_some, ints_one, List.length_cons, List.length_nil, Nat.zero_add, Nat.reduceAdd, len_sl, List.cons_append, List.nil_append, onS_some, true_and, if_true, onB_false]
      have hR : ints .i64 [wi (R 64).a, wi (R 64).b, wi (R 64).c, wi (R 64).d, wi (R 64).e, wi (R 64).f, wi (R 64).g, wi (R 64).h] = ints .i64 (wis (R 64).l) := rfl
      rw [hR]
      generalize hr : R 64 = r at *
      have hB : (blk s z) = s.add r := by rw [blk, ← hR6]
      rw [← hR6]
      rw [hB]
      have hrl : (wis r.l).length = 8 := rfl
      have hA : s.l.length = (s.add r).l.length := rfl
      refine w_loop (ι := Nat) (fun i st => ∃ T : Nat → AV, st = ⟨tab 154 T, [⟨ints .i64 (wis s.l), own, true⟩, ⟨ints .i64 [], true, false⟩, ⟨ints .i64 (wis (mix s.l (s.add r).l i)), true, true⟩, ⟨ints .i64 (wis keys), true, true⟩, ⟨ints .i64 (wis (schd z)), true, true⟩, ⟨ints .i64 (wis r.l), true, true⟩]⟩ ∧ i ≤ 8 ∧
        T 5 = .sl 2 0 8 1 ∧ T 135 = .sl 5 0 8 1 ∧ T 136 = .sc (.int .i64 8) ∧ T 137 = .sc (.int .i64 i)) (fun i => 8 - i) ?_ (i := 0) ?_
      · rintro i st ⟨T, rfl, d1, d2, d3, d4, d5⟩
        by_cases hi : i < 8
        · have j1 : (i : Int) < 8 := by omega
          have j0 : (0 : Int) ≤ i := by omega
          have e1 : IntKind.i64.wrap ((i : Int) + 1) = i + 1 := w64 (by omega) (by omega)
          have hm : (mix s.l (s.add r).l i).length = 8 := mix_len _ _ i hA
          have hg : (mix s.l (s.add r).l i).getD i 0 = s.l.getD i 0 := mix_get _ _ i hA hi
          have hs := mix_set s.l (s.add r).l i hA hi
          rw [add_get s r i hi] at hs
          simp -implicitDefEqProofs only [↓w_seq, ↓w_region, ↓ops_cons, ↓g_binOp, Nat.reduceLT, ev_tab, d5, d4, b_lss, j1, decide_true, ↓ops_nil, ↓w_cond, upd_eq, ↓w_skip, ↓w_block, ↓g_move, ↓g_indexAddr, Try.underlying26, ne_eq, Nat.reduceEqDiff, not_false_eq_true, upd_ne, d3, adr_sl, j0, Int.cast_ofNat_Int, cells3, tyOk3, and_self, Int.toNat_natCast, Nat.mul_one, Nat.zero_add, if_true, ↓g_load, ↓g_assign, d2, ev_const, of_int, ↓g_store, b_add, e1, onS_some, wr_def, List.getElem?_cons_succ, List.getElem?_cons_zero, rd_def, agg3, rd_ints, wis_len, hm, hi, wis_get, hg, hrl, b_and, i64_maskA, md2, wr_ints, wis_set, hs, List.set_cons_succ, List.set_cons_zero, ↓w_exit, ↓w_ret, ret_one, true_and, onB_true]
          refine ⟨i + 1, by omega, _, rfl, by omega, ?_, ?_, ?_, ?_⟩ <;> simp -implicitDefEqProofs only [ne_eq, Nat.reduceEqDiff, not_false_eq_true, upd_ne, d2, d3, d4, upd_eq] <;> rfl
        · have j1 : ¬ (i : Int) < 8 := by omega
          have hn : i = 8 := by omega
          subst hn
          simp -implicitDefEqProofs only [↓w_seq, ↓w_region, Nat.reduceSub, ↓ops_cons, ↓g_binOp, Nat.reduceLT, ev_tab, d5, Int.cast_ofNat_Int, d4, b_lss, Int.reduceLT, decide_false, ↓ops_nil, ↓w_cond, upd_eq, ↓w_skip, ↓w_block, ↓g_move, ↓g_indexAddr, Try.underlying26, ne_eq, Nat.reduceEqDiff, not_false_eq_true, upd_ne, d3, adr_sl, Int.reduceLE, cells3, tyOk3, and_self, and_true, and_false, Int.reduceToNat, Nat.mul_one, Nat.zero_add, if_false, ↓g_load, ↓g_assign, d2, ev_const, of_int, ↓g_store, b_add, Int.reduceAdd, onS_some, ↓w_exit, ↓w_ret, ret_one, true_and, if_true, onB_false]
          rfl
      · refine ⟨_, rfl, by omega, ?_, ?_, ?_, ?_⟩ <;> simp -implicitDefEqProofs only [ne_eq, Nat.reduceEqDiff, not_false_eq_true, upd_ne, b2, upd_eq, Int.cast_ofNat_Int] <;> rfl
  · refine ⟨_, rfl, by omega, ?_, ?_, ?_, ?_, ?_, ?_, ?_, ?_, ?_, ?_, ?_, ?_⟩ <;> simp -implicitDefEqProofs only [ne_eq, Nat.reduceEqDiff, not_false_eq_true, upd_ne, upd_eq, hR0, Int.cast_ofNat_Int] <;> rfl
end Go.Proofs.Ytknmbiebnpojjaa.Sim

