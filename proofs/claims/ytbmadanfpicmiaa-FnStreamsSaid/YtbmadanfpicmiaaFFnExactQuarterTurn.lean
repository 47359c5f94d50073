/- QuarterTurn: what the program and the reference return, and that the law returns true. -/
import Derived.Test.YtbmadanfpicmiaaFQuarter
import Derived.Test.YtbmadanfpicmiaaFLawInts
namespace Go.Proofs.Ytbmadanfpicmiaa.Sim
open Go
set_option maxRecDepth 100000
set_option linter.unusedSimpArgs false
set_option linter.unusedVariables false
def q4 (a b c d : Int) : List Int := [a % 4294967296, b % 4294967296, c % 4294967296, d % 4294967296]
theorem q4_wd (a b c d : Int) : Wd (q4 a b c d) := by
  intro i
  match i with
  | 0 => exact ⟨Int.emod_nonneg _ (by decide), Int.emod_lt_of_pos _ (by decide)⟩
  | 1 => exact ⟨Int.emod_nonneg _ (by decide), Int.emod_lt_of_pos _ (by decide)⟩
  | 2 => exact ⟨Int.emod_nonneg _ (by decide), Int.emod_lt_of_pos _ (by decide)⟩
  | 3 => exact ⟨Int.emod_nonneg _ (by decide), Int.emod_lt_of_pos _ (by decide)⟩
  | n + 4 => simp [q4]
theorem qS (a b c d : Int) : FnL Try.prog 21 [.sc (.int .i64 a), .sc (.int .i64 b), .sc (.int .i64 c), .sc (.int .i64 d)] .i64 (qtr (q4 a b c d) 0 1 2 3) := by
  refine FnL.run 22 [.tmp 8] Try.func21 rfl rfl rfl rfl (by simp) (flats_cons (.sc _) (flats_cons (.sc _) (flats_cons (.sc _) (flats_cons (.sc _) flats_nil)))) ?_
  simp -implicitDefEqProofs only [↓w_seq, ↓w_region, ↓ops_cons, ↓g_assign, ↓ops_nil, ev_const, ↓g_move, Nat.reduceLT, ev_tab, ne_eq, reduceCtorEq, not_false_eq_true, upd_ne, par0]
  refine call1 (by simp -implicitDefEqProofs only [List.map_cons, Nat.reduceLT, ev_tab, upd_eq, List.map_nil] <;> rfl) (cutAll a) ?_
  simp -implicitDefEqProofs only [↓ops_cons, ↓g_move, Nat.reduceLT, ev_tab, ne_eq, Nat.reduceEqDiff, not_false_eq_true, upd_ne, par1]
  refine call1 (by simp -implicitDefEqProofs only [List.map_cons, Nat.reduceLT, ev_tab, upd_eq, List.map_nil] <;> rfl) (cutAll b) ?_
  simp -implicitDefEqProofs only [↓ops_cons, ↓g_move, Nat.reduceLT, ev_tab, ne_eq, Nat.reduceEqDiff, not_false_eq_true, upd_ne, par2]
  refine call1 (by simp -implicitDefEqProofs only [List.map_cons, Nat.reduceLT, ev_tab, upd_eq, List.map_nil] <;> rfl) (cutAll c) ?_
  simp -implicitDefEqProofs only [↓ops_cons, ↓g_move, Nat.reduceLT, ev_tab, ne_eq, Nat.reduceEqDiff, not_false_eq_true, upd_ne, par3]
  refine call1 (by simp -implicitDefEqProofs only [List.map_cons, Nat.reduceLT, ev_tab, upd_eq, List.map_nil] <;> rfl) (cutAll d) ?_
  simp -implicitDefEqProofs only [↓ops_cons, ↓g_buildSlice, Try.underlying26, List.map_cons, Nat.reduceLT, ev_tab, ne_eq, Nat.reduceEqDiff, not_false_eq_true, upd_ne, upd_eq, List.map_nil, bs3_4, ↓g_assign, ↓ops_nil, ↓w_seq, ↓w_region, ↓g_move, alK_some, ints_one, List.length_nil, List.nil_append, true_and]
  refine call1S (by simp -implicitDefEqProofs only [List.map_cons, Nat.reduceLT, ev_tab, upd_eq, ev_const, of_int, List.map_nil, Int.cast_ofNat_Int] <;> rfl) (quarterS [⟨ints .i64 (q4 a b c d), true, true⟩] 0 (q4 a b c d) 0 1 2 3 (q4_wd a b c d) rfl (by simp [q4]) (by simp [q4]) (by simp [q4]) (by simp [q4])) ?_
  simp -implicitDefEqProofs only [↓ops_nil, ↓w_seq, ↓w_region, List.set_cons_zero, ↓ops_cons, ↓g_move, ↓g_assign, ↓w_ret, Nat.reduceLT, ev_tab, ne_eq, Nat.reduceEqDiff, not_false_eq_true, upd_ne, upd_eq]
  refine retL_one (by decide) 0 ?_ rfl
  simp -implicitDefEqProofs only [upd_eq, qtr_len]
  rfl
theorem mod_b (x : Int) : 0 ≤ x % 4294967296 ∧ x % 4294967296 < 4294967296 := by omega
theorem rotx_b {x y : Int} (k : Nat) (hx : 0 ≤ x ∧ x < 4294967296) (hy : 0 ≤ y ∧ y < 4294967296) : 0 ≤ rotl (bits .xor .i64 x y) k ∧ rotl (bits .xor .i64 x y) k < 4294967296 := by
  have z := xor_range hx.1 hx.2 hy.1 hy.2
  exact rotl_range z.1 z.2
theorem qtr_4 (A B C D : Int) : qtr [A, B, C, D] 0 1 2 3 =
    let a1 := (A + B) % 4294967296
    let d1 := rotl (bits .xor .i64 D a1) 16
    let c1 := (C + d1) % 4294967296
    let b1 := rotl (bits .xor .i64 B c1) 12
    let a2 := (a1 + b1) % 4294967296
    let d2 := rotl (bits .xor .i64 d1 a2) 8
    let c2 := (c1 + d2) % 4294967296
    let b2 := rotl (bits .xor .i64 b1 c2) 7
    [a2, b2, c2, d2] := rfl
theorem qI (a b c d : Int) : FnL Try.prog 18 [.sc (.int .i64 a), .sc (.int .i64 b), .sc (.int .i64 c), .sc (.int .i64 d)] .i64 (qtr (q4 a b c d) 0 1 2 3) := by
  refine FnL.run 54 [.tmp 8] Try.func18 rfl rfl rfl rfl (by simp) (flats_cons (.sc _) (flats_cons (.sc _) (flats_cons (.sc _) (flats_cons (.sc _) flats_nil)))) ?_
  rw [q4, qtr_4]
  simp -implicitDefEqProofs only [↓w_seq, ↓w_region, ↓ops_cons, ↓g_assign, ↓ops_nil, ev_const, ↓g_move, ↓g_binOp, Nat.reduceLT, ev_tab, ne_eq, reduceCtorEq, not_false_eq_true, upd_ne, par0, upd_eq, of_int, b_and, i64_maskA, Nat.reduceEqDiff, par1, par2, par3, onS_some, b_add, b_xor]
  have hA := mod_b a
  have hB := mod_b b
  have hC := mod_b c
  have hD := mod_b d
  generalize a % 4294967296 = A at *
  generalize b % 4294967296 = B at *
  generalize c % 4294967296 = C at *
  generalize d % 4294967296 = D at *
  rw [w64 (by omega) (by omega)]
  have hA1 := mod_b (A + B)
  generalize (A + B) % 4294967296 = A1 at *
  have z := xor_range hD.1 hD.2 hA1.1 hA1.2
  refine call1 (by simp -implicitDefEqProofs only [List.map_cons, Nat.reduceLT, ev_tab, upd_eq, ev_const, of_int, List.map_nil, Int.cast_ofNat_Int] <;> rfl) (turnLI _ 16 z.1 z.2 (by omega) (by omega)) ?_
  have hD1 := rotx_b 16 hD hA1
  generalize rotl (bits .xor .i64 D A1) 16 = D1 at *
  simp -implicitDefEqProofs only [↓ops_cons, ↓g_assign, ↓ops_nil, ↓w_seq, ↓w_region, Nat.reduceLT, ev_tab, upd_eq, ↓g_move, ↓g_binOp, ne_eq, Nat.reduceEqDiff, not_false_eq_true, upd_ne, reduceCtorEq, b_add, ev_const, of_int, onS_some, b_and, i64_maskA, b_xor]
  rw [w64 (by omega) (by omega)]
  have hC1 := mod_b (C + D1)
  generalize (C + D1) % 4294967296 = C1 at *
  have z := xor_range hB.1 hB.2 hC1.1 hC1.2
  refine call1 (by simp -implicitDefEqProofs only [List.map_cons, Nat.reduceLT, ev_tab, upd_eq, ev_const, of_int, List.map_nil, Int.cast_ofNat_Int] <;> rfl) (turnLI _ 12 z.1 z.2 (by omega) (by omega)) ?_
  have hB1 := rotx_b 12 hB hC1
  generalize rotl (bits .xor .i64 B C1) 12 = B1 at *
  simp -implicitDefEqProofs only [↓ops_cons, ↓g_assign, ↓ops_nil, ↓w_seq, ↓w_region, Nat.reduceLT, ev_tab, upd_eq, ↓g_move, ↓g_binOp, ne_eq, reduceCtorEq, not_false_eq_true, upd_ne, Nat.reduceEqDiff, b_add, ev_const, of_int, onS_some, b_and, i64_maskA, b_xor]
  rw [w64 (by omega) (by omega)]
  have hA2 := mod_b (A1 + B1)
  generalize (A1 + B1) % 4294967296 = A2 at *
  have z := xor_range hD1.1 hD1.2 hA2.1 hA2.2
  refine call1 (by simp -implicitDefEqProofs only [List.map_cons, Nat.reduceLT, ev_tab, upd_eq, ev_const, of_int, List.map_nil, Int.cast_ofNat_Int] <;> rfl) (turnLI _ 8 z.1 z.2 (by omega) (by omega)) ?_
  have hD2 := rotx_b 8 hD1 hA2
  generalize rotl (bits .xor .i64 D1 A2) 8 = D2 at *
  simp -implicitDefEqProofs only [↓ops_cons, ↓g_assign, ↓ops_nil, ↓w_seq, ↓w_region, Nat.reduceLT, ev_tab, upd_eq, ↓g_move, ↓g_binOp, ne_eq, Nat.reduceEqDiff, not_false_eq_true, upd_ne, reduceCtorEq, b_add, ev_const, of_int, onS_some, b_and, i64_maskA, b_xor]
  rw [w64 (by omega) (by omega)]
  have hC2 := mod_b (C1 + D2)
  generalize (C1 + D2) % 4294967296 = C2 at *
  have z := xor_range hB1.1 hB1.2 hC2.1 hC2.2
  refine call1 (by simp -implicitDefEqProofs only [List.map_cons, Nat.reduceLT, ev_tab, upd_eq, ev_const, of_int, List.map_nil, Int.cast_ofNat_Int] <;> rfl) (turnLI _ 7 z.1 z.2 (by omega) (by omega)) ?_
  generalize rotl (bits .xor .i64 B1 C2) 7 = B2 at *
  simp -implicitDefEqProofs only [↓ops_cons, ↓g_assign, ↓ops_nil, ↓w_seq, ↓w_region, Nat.reduceLT, ev_tab, upd_eq, ↓g_move, ↓g_buildSlice, Try.underlying26, ne_eq, reduceCtorEq, not_false_eq_true, upd_ne, Nat.reduceEqDiff, List.map_cons, List.map_nil, bs3_4, ↓w_ret, alK_some, ints_one, List.length_nil, List.nil_append, true_and]
  refine retL_one (by decide) 0 ?_ rfl
  simp -implicitDefEqProofs only [upd_eq, List.length_cons, List.length_nil, Nat.zero_add, Nat.reduceAdd]
theorem lawFnExactQuarterTurn (a b c d : Int) (ha : (Lit.int .i64 a).wf = true) (hb : (Lit.int .i64 b).wf = true) (hc : (Lit.int .i64 c).wf = true) (hd : (Lit.int .i64 d).wf = true) : Fn Try.prog 4 [.sc (.int .i64 a), .sc (.int .i64 b), .sc (.int .i64 c), .sc (.int .i64 d)] (.sc (.bool true)) := by
  refine Fn.run 56 [.tmp 8] Try.func4 rfl rfl rfl rfl (by simp) (flats_cons (.sc _) (flats_cons (.sc _) (flats_cons (.sc _) (flats_cons (.sc _) flats_nil)))) (.sc _) ?_
  have kI := qI a b c d
  have kS := qS a b c d
  have hl : (qtr (q4 a b c d) 0 1 2 3).length = 4 := by rw [qtr_len]; rfl
  generalize qtr (q4 a b c d) 0 1 2 3 = l at *
  simp -implicitDefEqProofs only [↓w_seq, ↓w_region, ↓ops_cons, ↓g_assign, ↓ops_nil, ev_const, of_bool, ↓g_move, Nat.reduceLT, ev_tab, ne_eq, reduceCtorEq, not_false_eq_true, upd_ne, par0, Nat.reduceEqDiff, par1, par2, par3]
  refine call1L (by simp -implicitDefEqProofs only [List.map_cons, Nat.reduceLT, ev_tab, ne_eq, Nat.reduceEqDiff, not_false_eq_true, upd_ne, upd_eq, List.map_nil]) kS ?_
  simp -implicitDefEqProofs only [↓ops_cons, ↓g_assign, ↓ops_nil, ↓w_seq, ↓w_region, List.length_nil, hl, Nat.reduceLT, ev_tab, upd_eq, List.nil_append, ↓g_move, ne_eq, reduceCtorEq, not_false_eq_true, upd_ne, par0, Nat.reduceEqDiff, par1, par2, par3]
  refine call1L (by simp -implicitDefEqProofs only [List.map_cons, Nat.reduceLT, ev_tab, ne_eq, Nat.reduceEqDiff, not_false_eq_true, upd_ne, upd_eq, List.map_nil]) kI ?_
  simp -implicitDefEqProofs only [↓ops_cons, ↓g_assign, ↓ops_nil, ↓w_seq, ↓w_region, List.length_cons, List.length_nil, Nat.zero_add, hl, Nat.reduceLT, ev_tab, upd_eq, List.cons_append, List.nil_append, ↓g_move, ne_eq, Nat.reduceEqDiff, not_false_eq_true, upd_ne]
  refine call1S (by simp -implicitDefEqProofs only [List.map_cons, Nat.reduceLT, ev_tab, ne_eq, Nat.reduceEqDiff, not_false_eq_true, upd_ne, upd_eq, List.map_nil] <;> rfl) (eqS (.at rfl hl) (.at rfl hl) (by omega) (by omega)) ?_
  simp -implicitDefEqProofs only [↓ops_cons, ↓g_unOp, decide_true, Nat.reduceLT, ev_tab, upd_eq, u_not, Bool.not_true, Option.map_some, ↓ops_nil, ↓w_cond, ↓w_seq, ↓w_region, ↓g_assign, ↓w_ret, ev_const, of_bool, ret_one, ↓w_skip, of_int, ↓g_move, ne_eq, Nat.reduceEqDiff, not_false_eq_true, upd_ne, onS_some, onB_false]
  refine call1S (by simp -implicitDefEqProofs only [List.map_cons, Nat.reduceLT, ev_tab, ne_eq, Nat.reduceEqDiff, not_false_eq_true, upd_ne, upd_eq, List.map_nil] <;> rfl) (markS' rfl hl (by omega)) ?_
  simp -implicitDefEqProofs only [↓ops_cons, ↓g_assign, ↓ops_nil, ↓w_seq, ↓w_region, Int.cast_ofNat_Int, Int.reduceAdd, Nat.reduceLT, ev_tab, upd_eq, List.set_cons_succ, List.set_cons_zero, ev_const, of_int, ↓g_move, ne_eq, Nat.reduceEqDiff, not_false_eq_true, upd_ne]
  refine call1S (by simp -implicitDefEqProofs only [List.map_cons, Nat.reduceLT, ev_tab, ne_eq, Nat.reduceEqDiff, not_false_eq_true, upd_ne, upd_eq, List.map_nil] <;> rfl) (heldS (n := 4) (.at rfl (marked_len _ _)) (by omega)) ?_
  simp -implicitDefEqProofs only [↓ops_cons, ↓g_assign, ↓ops_nil, ↓w_seq, ↓w_region, Int.cast_ofNat_Int, Int.reduceAdd, Nat.reduceLT, ev_tab, upd_eq, ↓g_move, ↓g_binOp, ev_const, of_int, b_lss, Int.reduceLT, decide_false, ↓w_cond, ↓w_ret, of_bool, ret_one, ↓w_skip, ne_eq, Nat.reduceEqDiff, not_false_eq_true, upd_ne, b_neq, decide_true, Bool.not_true, reduceCtorEq, par0, par1, par2, par3, onS_some, onB_false]
  refine call1L (by simp -implicitDefEqProofs only [List.map_cons, Nat.reduceLT, ev_tab, ne_eq, Nat.reduceEqDiff, not_false_eq_true, upd_ne, upd_eq, List.map_nil]) kI ?_
  simp -implicitDefEqProofs only [↓ops_cons, ↓g_assign, ↓ops_nil, ↓w_seq, ↓w_region, List.length_cons, List.length_nil, Nat.zero_add, Nat.reduceAdd, hl, Nat.reduceLT, ev_tab, upd_eq, List.cons_append, List.nil_append, ↓g_move, ne_eq, Nat.reduceEqDiff, not_false_eq_true, upd_ne]
  refine call1S (by simp -implicitDefEqProofs only [List.map_cons, Nat.reduceLT, ev_tab, ne_eq, Nat.reduceEqDiff, not_false_eq_true, upd_ne, upd_eq, List.map_nil] <;> rfl) (eqS (.at rfl hl) (.at rfl hl) (by omega) (by omega)) ?_
  simp -implicitDefEqProofs only [↓ops_cons, ↓g_unOp, decide_true, Nat.reduceLT, ev_tab, upd_eq, u_not, Bool.not_true, Option.map_some, ↓ops_nil, ↓w_cond, ↓w_seq, ↓w_region, ↓g_assign, ↓w_ret, ev_const, of_bool, ret_one, ↓w_skip, of_int, ↓g_move, ne_eq, Nat.reduceEqDiff, not_false_eq_true, upd_ne, onS_some, onB_false]
  refine call1S (by simp -implicitDefEqProofs only [List.map_cons, Nat.reduceLT, ev_tab, ne_eq, Nat.reduceEqDiff, not_false_eq_true, upd_ne, upd_eq, List.map_nil] <;> rfl) (heldS (n := 4) (.at rfl (marked_len _ _)) (by omega)) ?_
  simp -implicitDefEqProofs only [↓ops_cons, ↓g_assign, ↓ops_nil, ↓w_seq, ↓w_region, Int.cast_ofNat_Int, Int.reduceAdd, Nat.reduceLT, ev_tab, upd_eq, ↓g_move, ↓g_binOp, ev_const, of_int, b_lss, Int.reduceLT, decide_false, ↓w_cond, ↓w_ret, of_bool, ret_one, ↓w_skip, ne_eq, Nat.reduceEqDiff, not_false_eq_true, upd_ne, b_neq, decide_true, Bool.not_true, onS_some, onB_false]
end Go.Proofs.Ytbmadanfpicmiaa.Sim

