/- A told list, read. -/
import Derived.Test.YtcjjcpdfnndenaaFAck
import Derived.Test.YtcjjcpdfnndenaaFRVarS
namespace Go.Proofs.Ytcjjcpdfnndenaa.Sim
open Go
set_option maxRecDepth 100000
set_option maxHeartbeats 4000000
set_option linter.unusedSimpArgs false
set_option linter.unusedVariables false
theorem rdv_le (z : ByteArray) (a : Nat) : ∀ f i n m k, rdv z a f i n = some (m, k) → k ≤ z.size ∧ m ≤ 1000000000
  | 0, i, n, m, k, h => by cases h
  | f + 1, i, n, m, k, h => by
    rw [rdv] at h
    split at h
    · rename_i hin
      split at h
      · exact rdv_le z a f _ _ _ _ h
      · split at h
        · cases h
        · rename_i hno
          simp only [Option.some.injEq, Prod.mk.injEq] at h
          obtain ⟨rfl, rfl⟩ := h
          have : ¬ 1000000000 < n + bN z (a + i) % 128 * 128 ^ i := fun q => hno (.inr q)
          omega
    · cases h
/-- The numbers that follow. -/
def rkL (z : ByteArray) : Nat → Nat → List Int → Option (List Int)
  | 0, _, acc => some acc
  | k + 1, at_, acc =>
    match rdv z at_ 5 0 0 with
    | some (n, nx) => rkL z k nx (acc ++ [(n : Int)])
    | none => none
theorem rvV_some {r : Option (Nat × Nat)} {n k : Nat} (h : r = some (n, k)) : rvV r = .tup [.sc (.int .i64 n), .sc (.int .i64 k), .sc (.bool true)] := by rw [h]; rfl
theorem rvV_none {r : Option (Nat × Nat)} (h : r = none) : rvV r = .tup [.sc (.int .i64 0), .sc (.int .i64 0), .sc (.bool false)] := by rw [h]; rfl
open Classical in
noncomputable def fin (z : ByteArray) (r : Option (List Int)) : Option (List Int) :=
  match r with
  | some l => if (UpL l ∧ l.length ≤ 100) ∧ ackT l = z then some l else none
  | none => none
def QI (r : Option (List Int)) (v : AV) (Z : AHeap) : Prop :=
  match r with
  | some l => ∃ x, v = .tup [.sl x 0 l.length 1, .sc (.bool true)] ∧ Z[x]? = some ⟨ints .i64 l, true, true⟩
  | none => v = .tup [.sc (.slice none 0 0), .sc (.bool false)]
def QS (r : Option (List Int)) (v : AV) (Z : AHeap) : Prop :=
  match r with
  | some l => ∃ x, v = .tup [.sl x 0 l.length 1, .sc (.bool true)] ∧ Z[x]? = some ⟨ints .i64 l, true, true⟩
  | none => ∃ x, v = .tup [.sl x 0 0 1, .sc (.bool false)] ∧ Z[x]? = some ⟨ints .i64 [], true, true⟩
noncomputable def rAck (z : ByteArray) : Option (List Int) :=
  match rdv z 0 5 0 0 with
  | some (c, k) => if 100 < c then none else fin z (rkL z c k [])
  | none => none
theorem neT {x z : ByteArray} (h : x ≠ z) : (x.toList == z.toList) = false := by
  rw [beq_eq_false_iff_ne]
  exact fun he => h (toL_inj.1 he)
theorem rAckI (z : ByteArray) (hz : z.size ≤ 1000000000) : ∃ v Z, Sound Try.prog 27 [.sc (.string z)] [] v Z ∧ QI (rAck z) v Z := by
  refine Sound.runP (args := [.sc (.string z)]) 56 [.tmp 2, .tmp 3] Try.func27 rfl rfl rfl rfl (by simp) (QI (rAck z)) ?_
  simp -implicitDefEqProofs only [↓w_seq, ↓w_region, ↓ops_cons, ↓g_assign, ↓ops_nil, ev_const, of_bool, ↓g_move, Nat.reduceLT, ev_tab, ne_eq, reduceCtorEq, not_false_eq_true, upd_ne, par0]
  refine call1 (by simp -implicitDefEqProofs only [List.map_cons, Nat.reduceLT, ev_tab, upd_eq, ev_const, of_int, List.map_nil, Int.cast_ofNat_Int] <;> rfl) (rvI z 0 (by omega) hz) ?_
  unfold rAck
  cases hr : rdv z 0 5 0 0 with
  | none =>
    rw [rvV_none rfl]
    simp -implicitDefEqProofs only [↓ops_cons, ↓g_move, ↓g_extract, Nat.reduceLT, ev_tab, upd_eq, ext_0, ne_eq, Nat.reduceEqDiff, not_false_eq_true, upd_ne, ext_1, ext_2, ↓g_assign, ↓ops_nil, ↓w_seq, ↓w_region, ↓g_unOp, onS_some, u_not, Bool.not_false, Option.map_some, yielded_tab, dstAt_s, dstAt_0, ybv_some, boolOf_b, ↓g_guard_f, ↓g_pick, ev_const, of_bool, pick_b, if_true, ↓w_cond, ↓w_ret, retP_2, res_tmp, ↓w_skip, ↓g_buildSlice, Try.underlying22, List.map_nil, bs3_0, ↓w_block, of_int, alK_some, ints_one, List.length_nil, List.nil_append, true_and, onB_true]
    rfl
  | some p =>
    obtain ⟨c, k⟩ := p
    rw [rvV_some rfl]
    obtain ⟨hk, hc⟩ := rdv_le z 0 _ _ _ _ _ hr
    simp only
    by_cases h100 : 100 < c
    · have k1 : (100 : Int) < c := by omega
      rw [if_pos h100]
      simp -implicitDefEqProofs only [↓ops_cons, ↓g_move, ↓g_extract, Nat.reduceLT, ev_tab, upd_eq, ext_0, ne_eq, Nat.reduceEqDiff, not_false_eq_true, upd_ne, ext_1, ext_2, ↓g_assign, ↓ops_nil, ↓w_seq, ↓w_region, ↓g_unOp, onS_some, u_not, Bool.not_true, Option.map_some, yielded_tab, dstAt_s, dstAt_0, ybv_some, boolOf_b, ↓g_guard_t, ↓g_binOp, ev_const, of_int, ↓g_pick, of_bool, pick_b, Bool.false_eq_true, if_false, ↓w_cond, ↓w_ret, retP_2, res_tmp, ↓w_skip, ↓g_buildSlice, Try.underlying22, List.map_nil, bs3_0, ↓w_block, alK_some, ints_one, List.length_nil, List.nil_append, true_and, b_gtr, k1, decide_true, onB_true]
      rfl
    · have k1 : ¬ (100 : Int) < c := by omega
      rw [if_neg h100]
      simp -implicitDefEqProofs only [↓ops_cons, ↓g_move, ↓g_extract, Nat.reduceLT, ev_tab, upd_eq, ext_0, ne_eq, Nat.reduceEqDiff, not_false_eq_true, upd_ne, ext_1, ext_2, ↓g_assign, ↓ops_nil, ↓w_seq, ↓w_region, ↓g_unOp, onS_some, u_not, Bool.not_true, Option.map_some, yielded_tab, dstAt_s, dstAt_0, ybv_some, boolOf_b, ↓g_guard_t, ↓g_binOp, ev_const, of_int, ↓g_pick, of_bool, pick_b, Bool.false_eq_true, if_false, ↓w_cond, ↓w_ret, retP_2, res_tmp, ↓w_skip, ↓g_buildSlice, Try.underlying22, List.map_nil, bs3_0, ↓w_block, alK_some, ints_one, List.length_nil, List.nil_append, true_and, b_gtr, k1, decide_false, onB_false]
      generalize hR : rkL z c k [] = R
      refine w_loop (ι := Nat) (fun i s => ∃ (T : Nat → AV) (G : AHeap) (acc : List Int) (p : Nat), s = ⟨tab 56 T, G ++ [⟨ints .i64 acc, true, true⟩]⟩ ∧ i ≤ c ∧ acc.length = i ∧ p ≤ z.size ∧ rkL z (c - i) p acc = R ∧ T 0 = .sc (.string z) ∧ T 5 = .sc (.int .i64 p) ∧ T 7 = .sl G.length 0 acc.length 1 ∧ T 25 = .sc (.int .i64 c) ∧ T 26 = .sc (.int .i64 i)) (fun i => c - i) ?_ (i := 0) ?_
      · rintro i s ⟨T, G, acc, p, rfl, a1, a2, a3, a4, a5, a6, a7, a8, a9⟩
        have e1 : IntKind.i64.wrap ((i : Int) + 1) = ((i + 1 : Nat) : Int) := by rw [w64 (by omega) (by omega)]; omega
        have htk : acc.take acc.length = acc := List.take_length
        by_cases hi : i < c
        · have k2 : (i : Int) < c := by omega
          obtain ⟨f, hf⟩ : ∃ f, c - i = f + 1 := ⟨c - i - 1, by omega⟩
          have hf2 : c - (i + 1) = f := by omega
          rw [hf, rkL] at a4
          simp -implicitDefEqProofs only [↓w_seq, ↓w_region, ↓ops_cons, ↓g_binOp, Nat.reduceLT, ev_tab, a9, a8, b_lss, k2, decide_true, ↓ops_nil, ↓w_cond, upd_eq, ↓w_skip, ↓w_block, ↓g_move, ne_eq, reduceCtorEq, not_false_eq_true, upd_ne, a5, Nat.reduceEqDiff, a6, ↓w_exit, a7, if_true, onS_some, onB_true]
          refine call1 (by simp -implicitDefEqProofs only [List.map_cons, Nat.reduceLT, ev_tab, ne_eq, Nat.reduceEqDiff, not_false_eq_true, upd_ne, upd_eq, List.map_nil] <;> rfl) (rvI z p a3 hz) ?_
          cases hr2 : rdv z p 5 0 0 with
          | none =>
            rw [hr2] at a4
            subst a4
            rw [rvV_none rfl]
            simp -implicitDefEqProofs only [↓ops_cons, ↓g_move, ↓g_extract, Nat.reduceLT, ev_tab, upd_eq, ext_0, ne_eq, Nat.reduceEqDiff, not_false_eq_true, upd_ne, ext_1, ext_2, ↓g_assign, ↓ops_nil, ↓w_seq, ↓w_region, ↓g_unOp, ↓w_cond, ↓w_ret, ev_const, of_bool, retP_2, res_tmp, onS_some, ↓w_skip, ↓g_buildSlice, Try.underlying22, List.map_cons, List.map_nil, ↓g_append, ↓g_binOp, of_int, u_not, Bool.not_false, Option.map_some, onB_true]
            rfl
          | some q =>
            obtain ⟨m, nx⟩ := q
            rw [hr2] at a4
            obtain ⟨hnx, hmm⟩ := rdv_le z p _ _ _ _ _ hr2
            rw [rvV_some rfl]
            simp -implicitDefEqProofs only [↓ops_cons, ↓g_move, ↓g_extract, Nat.reduceLT, ev_tab, upd_eq, ext_0, ne_eq, Nat.reduceEqDiff, not_false_eq_true, upd_ne, ext_1, ext_2, ↓g_assign, ↓ops_nil, ↓w_seq, ↓w_region, ↓g_unOp, ↓w_cond, ↓w_ret, ev_const, of_bool, retP_2, res_tmp, onS_some, ↓w_skip, ↓g_buildSlice, Try.underlying22, a7, List.map_cons, List.map_nil, ↓g_append, apS22, ↓g_binOp, a9, of_int, b_add, e1, u_not, Bool.not_true, Option.map_some, onB_false, bs3_1, alK_some, ints_one, at_a, List.length_append, List.length_cons, List.length_nil, Nat.zero_add, src_sl, at_b, at_ints, Nat.le_refl, List.drop_zero, List.take_succ_cons, List.take_zero, if_true, ap_ints, Nat.reduceLeDiff, true_and, htk, onS_ite]
            refine ⟨by omega, i + 1, by omega, _, _, acc ++ [(m : Int)], nx, rfl, by omega, by simp; omega, hnx, by rw [hf2]; exact a4, ?_, ?_, ?_, ?_, ?_⟩
            · simp -implicitDefEqProofs only [ne_eq, reduceCtorEq, not_false_eq_true, upd_ne, a5]
            · simp -implicitDefEqProofs only [ne_eq, Nat.reduceEqDiff, not_false_eq_true, upd_ne, upd_eq]
            · simp -implicitDefEqProofs only [ne_eq, Nat.reduceEqDiff, not_false_eq_true, upd_ne, upd_eq, kill_len, List.length_append, List.length_cons, List.length_nil, Nat.zero_add]
              try simp only [kill_len, List.length_append, List.length_cons, List.length_nil]
              try rfl
            · simp -implicitDefEqProofs only [ne_eq, Nat.reduceEqDiff, not_false_eq_true, upd_ne, a8]
            · simp -implicitDefEqProofs only [upd_eq] <;> rfl
        · have k2 : ¬ (i : Int) < c := by omega
          have hci : c - i = 0 := by omega
          rw [hci, rkL] at a4
          subst a4
          have hL : IsL (G ++ [⟨ints .i64 acc, true, true⟩]) (.sl G.length 0 acc.length 1) .i64 acc := .mk (at_end _ _)
          simp -implicitDefEqProofs only [↓w_seq, ↓w_region, ↓ops_cons, ↓g_binOp, Nat.reduceLT, ev_tab, a9, a8, b_lss, k2, decide_false, ↓ops_nil, ↓w_cond, upd_eq, ↓w_skip, ↓w_block, ↓g_move, ne_eq, reduceCtorEq, not_false_eq_true, upd_ne, a5, Nat.reduceEqDiff, a6, ↓w_exit, a7, if_true, onS_some, onB_false]
          by_cases hU : UpL acc ∧ acc.length ≤ 100
          · refine call1S (by simp -implicitDefEqProofs only [List.map_cons, Nat.reduceLT, ev_tab, upd_eq, List.map_nil] <;> rfl) (ackI hU.1 hU.2 hL) ?_
            by_cases hq : ackT acc = z
            · rw [fin, if_pos ⟨hU, hq⟩, hq]
              simp -implicitDefEqProofs only [↓ops_cons, ↓g_move, ↓g_extract, Nat.reduceLT, ev_tab, upd_eq, ext_0, ne_eq, Nat.reduceEqDiff, not_false_eq_true, upd_ne, ext_1, ↓g_assign, ↓ops_nil, ↓w_seq, ↓w_region, ↓g_unOp, onS_some, u_not, Bool.not_true, Option.map_some, yielded_tab, dstAt_s, dstAt_0, ybv_some, boolOf_b, ↓g_guard_t, reduceCtorEq, a5, ↓g_binOp, ↓g_pick, ev_const, of_bool, pick_b, Bool.false_eq_true, if_false, ↓w_cond, ↓w_ret, retP_2, res_tmp, ↓w_skip, a7, t_neq, beq_self_eq_true, onB_false]
              exact ⟨_, rfl, at_end _ _⟩
            · rw [fin, if_neg (fun x => hq x.2)]
              simp -implicitDefEqProofs only [↓ops_cons, ↓g_move, ↓g_extract, Nat.reduceLT, ev_tab, upd_eq, ext_0, ne_eq, Nat.reduceEqDiff, not_false_eq_true, upd_ne, ext_1, ↓g_assign, ↓ops_nil, ↓w_seq, ↓w_region, ↓g_unOp, onS_some, u_not, Bool.not_true, Option.map_some, yielded_tab, dstAt_s, dstAt_0, ybv_some, boolOf_b, ↓g_guard_t, reduceCtorEq, a5, ↓g_binOp, ↓g_pick, ev_const, of_bool, pick_b, Bool.false_eq_true, if_false, ↓w_cond, ↓w_ret, retP_2, res_tmp, ↓w_skip, a7, t_neq, neT hq, Bool.not_false, onB_true]
              rfl
          · refine call1S (by simp -implicitDefEqProofs only [List.map_cons, Nat.reduceLT, ev_tab, upd_eq, List.map_nil] <;> rfl) (ackNoI hU (by omega) hL) ?_
            rw [fin, if_neg (fun x => hU x.1)]
            simp -implicitDefEqProofs only [↓ops_cons, ↓g_move, ↓g_extract, Nat.reduceLT, ev_tab, upd_eq, ext_0, ne_eq, Nat.reduceEqDiff, not_false_eq_true, upd_ne, ext_1, ↓g_assign, ↓ops_nil, ↓w_seq, ↓w_region, ↓g_unOp, onS_some, u_not, Bool.not_false, Option.map_some, yielded_tab, dstAt_s, dstAt_0, ybv_some, boolOf_b, ↓g_guard_f, ↓g_pick, ev_const, of_bool, pick_b, if_true, ↓w_cond, ↓w_ret, retP_2, res_tmp, ↓w_skip, a7, onB_true]
            rfl
      · refine ⟨_, [], [], k, rfl, by omega, rfl, hk, hR, ?_, ?_, ?_, ?_, ?_⟩ <;> simp -implicitDefEqProofs only [ne_eq, reduceCtorEq, not_false_eq_true, upd_ne, par0, Nat.reduceEqDiff, upd_eq, List.length_nil, Int.cast_ofNat_Int] <;> rfl
theorem rAckS (z : ByteArray) (hz : z.size ≤ 1000000000) : ∃ v Z, Sound Try.prog 26 [.sc (.string z)] [] v Z ∧ QS (rAck z) v Z := by
  refine Sound.runP (args := [.sc (.string z)]) 62 [.tmp 2, .tmp 3] Try.func26 rfl rfl rfl rfl (by simp) (QS (rAck z)) ?_
  simp -implicitDefEqProofs only [↓w_seq, ↓w_region, ↓ops_cons, ↓g_assign, ↓ops_nil, ev_const, of_bool, ↓g_move, Nat.reduceLT, ev_tab, ne_eq, reduceCtorEq, not_false_eq_true, upd_ne, par0]
  refine call1 (by simp -implicitDefEqProofs only [List.map_cons, Nat.reduceLT, ev_tab, upd_eq, ev_const, of_int, List.map_nil, Int.cast_ofNat_Int] <;> rfl) (rvS z 0 (by omega) hz) ?_
  unfold rAck
  cases hr : rdv z 0 5 0 0 with
  | none =>
    rw [rvV_none rfl]
    simp -implicitDefEqProofs only [↓ops_cons, ↓g_move, ↓g_extract, Nat.reduceLT, ev_tab, upd_eq, ext_0, ne_eq, Nat.reduceEqDiff, not_false_eq_true, upd_ne, ext_1, ext_2, ↓g_assign, ↓ops_nil, ↓w_seq, ↓w_region, ↓g_buildSlice, Try.underlying22, List.map_nil, bs3_0, ↓g_unOp, alK_some, ints_one, List.length_nil, List.nil_append, true_and, onS_some, u_not, Bool.not_false, Option.map_some, yielded_tab, dstAt_s, dstAt_0, ybv_some, boolOf_b, ↓g_guard_f, ↓g_pick, ev_const, of_bool, pick_b, if_true, ↓w_cond, ↓w_ret, retP_2, res_tmp, ↓w_skip, ↓w_block, of_int, onB_true]
    exact ⟨_, rfl, rfl⟩
  | some p =>
    obtain ⟨c, k⟩ := p
    rw [rvV_some rfl]
    obtain ⟨hk, hc⟩ := rdv_le z 0 _ _ _ _ _ hr
    simp only
    by_cases h100 : 100 < c
    · have k1 : (100 : Int) < c := by omega
      rw [if_pos h100]
      simp -implicitDefEqProofs only [↓ops_cons, ↓g_move, ↓g_extract, Nat.reduceLT, ev_tab, upd_eq, ext_0, ne_eq, Nat.reduceEqDiff, not_false_eq_true, upd_ne, ext_1, ext_2, ↓g_assign, ↓ops_nil, ↓w_seq, ↓w_region, ↓g_buildSlice, Try.underlying22, List.map_nil, bs3_0, ↓g_unOp, alK_some, ints_one, List.length_nil, List.nil_append, true_and, onS_some, u_not, Bool.not_true, Option.map_some, yielded_tab, dstAt_s, dstAt_0, ybv_some, boolOf_b, ↓g_guard_t, ↓g_binOp, ev_const, of_int, ↓g_pick, of_bool, pick_b, Bool.false_eq_true, if_false, ↓w_cond, ↓w_ret, retP_2, res_tmp, ↓w_skip, ↓w_block, b_gtr, k1, decide_true, onB_true]
      exact ⟨_, rfl, rfl⟩
    · have k1 : ¬ (100 : Int) < c := by omega
      rw [if_neg h100]
      simp -implicitDefEqProofs only [↓ops_cons, ↓g_move, ↓g_extract, Nat.reduceLT, ev_tab, upd_eq, ext_0, ne_eq, Nat.reduceEqDiff, not_false_eq_true, upd_ne, ext_1, ext_2, ↓g_assign, ↓ops_nil, ↓w_seq, ↓w_region, ↓g_buildSlice, Try.underlying22, List.map_nil, bs3_0, ↓g_unOp, alK_some, ints_one, List.length_nil, List.nil_append, true_and, onS_some, u_not, Bool.not_true, Option.map_some, yielded_tab, dstAt_s, dstAt_0, ybv_some, boolOf_b, ↓g_guard_t, ↓g_binOp, ev_const, of_int, ↓g_pick, of_bool, pick_b, Bool.false_eq_true, if_false, ↓w_cond, ↓w_ret, retP_2, res_tmp, ↓w_skip, ↓w_block, b_gtr, k1, decide_false, onB_false]
      generalize hR : rkL z c k [] = R
      refine w_loop (ι := Nat) (fun i s => ∃ (T : Nat → AV) (G : AHeap) (acc : List Int) (p : Nat), s = ⟨tab 62 T, G ++ [⟨ints .i64 acc, true, true⟩]⟩ ∧ i ≤ c ∧ acc.length = i ∧ p ≤ z.size ∧ rkL z (c - i) p acc = R ∧ T 0 = .sc (.string z) ∧ T 4 = .sc (.int .i64 c) ∧ T 5 = .sc (.int .i64 p) ∧ T 7 = .sl G.length 0 acc.length 1 ∧ T 8 = .sc (.int .i64 i)) (fun i => c - i) ?_ (i := 0) ?_
      · rintro i s ⟨T, G, acc, p, rfl, a1, a2, a3, a4, a5, a8, a6, a7, a9⟩
        have e1 : IntKind.i64.wrap ((i : Int) + 1) = ((i + 1 : Nat) : Int) := by rw [w64 (by omega) (by omega)]; omega
        have htk : acc.take acc.length = acc := List.take_length
        by_cases hi : i < c
        · have k2 : (i : Int) < c := by omega
          obtain ⟨f, hf⟩ : ∃ f, c - i = f + 1 := ⟨c - i - 1, by omega⟩
          have hf2 : c - (i + 1) = f := by omega
          rw [hf, rkL] at a4
          simp -implicitDefEqProofs only [↓w_seq, ↓w_region, ↓ops_cons, ↓g_move, ↓g_binOp, Nat.reduceLT, ev_tab, a9, ne_eq, Nat.reduceEqDiff, not_false_eq_true, upd_ne, a8, upd_eq, b_lss, k2, decide_true, ↓ops_nil, ↓w_cond, ↓w_skip, ↓w_block, reduceCtorEq, a5, a6, ↓w_exit, a7, if_true, onS_some, onB_true]
          refine call1 (by simp -implicitDefEqProofs only [List.map_cons, Nat.reduceLT, ev_tab, ne_eq, Nat.reduceEqDiff, not_false_eq_true, upd_ne, upd_eq, List.map_nil] <;> rfl) (rvS z p a3 hz) ?_
          cases hr2 : rdv z p 5 0 0 with
          | none =>
            rw [hr2] at a4
            subst a4
            rw [rvV_none rfl]
            simp -implicitDefEqProofs only [↓ops_cons, ↓g_move, ↓g_extract, Nat.reduceLT, ev_tab, upd_eq, ext_0, ne_eq, Nat.reduceEqDiff, not_false_eq_true, upd_ne, ext_1, ext_2, ↓g_assign, ↓ops_nil, ↓w_seq, ↓w_region, ↓g_unOp, ↓w_cond, ↓g_buildSlice, Try.underlying22, List.map_nil, bs3_0, ↓w_ret, ev_const, of_bool, retP_2, res_tmp, onS_some, alK_some, ints_one, List.length_append, List.length_cons, List.length_nil, Nat.zero_add, true_and, ↓w_skip, List.map_cons, ↓g_append, ↓g_binOp, of_int, u_not, Bool.not_false, Option.map_some, onB_true]
            refine ⟨_, rfl, ?_⟩
            have := at_end (G ++ [⟨ints .i64 acc, true, true⟩]) ⟨ints .i64 [], true, true⟩
            rwa [List.length_append] at this
          | some q =>
            obtain ⟨m, nx⟩ := q
            rw [hr2] at a4
            obtain ⟨hnx, hmm⟩ := rdv_le z p _ _ _ _ _ hr2
            rw [rvV_some rfl]
            simp -implicitDefEqProofs only [↓ops_cons, ↓g_move, ↓g_extract, Nat.reduceLT, ev_tab, upd_eq, ext_0, ne_eq, Nat.reduceEqDiff, not_false_eq_true, upd_ne, ext_1, ext_2, ↓g_assign, ↓ops_nil, ↓w_seq, ↓w_region, ↓g_unOp, ↓w_cond, ↓g_buildSlice, Try.underlying22, List.map_nil, bs3_0, ↓w_ret, ev_const, of_bool, retP_2, res_tmp, onS_some, alK_some, ints_one, List.length_append, List.length_cons, List.length_nil, Nat.zero_add, true_and, ↓w_skip, a7, List.map_cons, ↓g_append, apS22, ↓g_binOp, a9, of_int, b_add, e1, u_not, Bool.not_true, Option.map_some, onB_false, bs3_1, at_a, src_sl, at_b, at_ints, Nat.le_refl, List.drop_zero, List.take_succ_cons, List.take_zero, if_true, ap_ints, Nat.reduceLeDiff, htk, onS_ite]
            refine ⟨by omega, i + 1, by omega, _, _, acc ++ [(m : Int)], nx, rfl, by omega, by simp; omega, hnx, by rw [hf2]; exact a4, ?_, ?_, ?_, ?_, ?_⟩
            · simp -implicitDefEqProofs only [ne_eq, reduceCtorEq, not_false_eq_true, upd_ne, a5]
            · simp -implicitDefEqProofs only [ne_eq, Nat.reduceEqDiff, not_false_eq_true, upd_ne, a8]
            · simp -implicitDefEqProofs only [ne_eq, Nat.reduceEqDiff, not_false_eq_true, upd_ne, upd_eq]
            · simp -implicitDefEqProofs only [ne_eq, Nat.reduceEqDiff, not_false_eq_true, upd_ne, upd_eq, kill_len, List.length_append, List.length_cons, List.length_nil, Nat.zero_add]
              try simp only [kill_len, List.length_append, List.length_cons, List.length_nil]
              try rfl
            · simp -implicitDefEqProofs only [upd_eq] <;> rfl
        · have k2 : ¬ (i : Int) < c := by omega
          have hci : c - i = 0 := by omega
          rw [hci, rkL] at a4
          subst a4
          have hL : IsL (G ++ [⟨ints .i64 acc, true, true⟩]) (.sl G.length 0 acc.length 1) .i64 acc := .mk (at_end _ _)
          have hem : (G ++ [(⟨ints .i64 acc, true, true⟩ : Reg)] ++ [⟨ints .i64 [], true, true⟩])[G.length + 1]? = some ⟨ints .i64 [], true, true⟩ := at_b _ _ _
          simp -implicitDefEqProofs only [↓w_seq, ↓w_region, ↓ops_cons, ↓g_move, ↓g_binOp, Nat.reduceLT, ev_tab, a9, ne_eq, Nat.reduceEqDiff, not_false_eq_true, upd_ne, a8, upd_eq, b_lss, k2, decide_false, ↓ops_nil, ↓w_cond, ↓w_skip, ↓w_block, reduceCtorEq, a5, a6, ↓w_exit, a7, if_true, onS_some, onB_false]
          by_cases hU : UpL acc ∧ acc.length ≤ 100
          · refine call1S (by simp -implicitDefEqProofs only [List.map_cons, Nat.reduceLT, ev_tab, upd_eq, List.map_nil] <;> rfl) (ackS hU.1 hU.2 hL) ?_
            by_cases hq : ackT acc = z
            · rw [fin, if_pos ⟨hU, hq⟩, hq]
              simp -implicitDefEqProofs only [↓ops_cons, ↓g_move, ↓g_extract, Nat.reduceLT, ev_tab, upd_eq, ext_0, ne_eq, Nat.reduceEqDiff, not_false_eq_true, upd_ne, ext_1, ↓g_assign, ↓ops_nil, ↓w_seq, ↓w_region, ↓g_unOp, onS_some, u_not, Bool.not_true, Option.map_some, yielded_tab, dstAt_s, dstAt_0, ybv_some, boolOf_b, ↓g_guard_t, reduceCtorEq, a5, ↓g_binOp, ↓g_pick, ev_const, of_bool, pick_b, Bool.false_eq_true, if_false, ↓w_cond, ↓g_buildSlice, Try.underlying22, List.map_nil, bs3_0, ↓w_ret, retP_2, res_tmp, alK_some, ints_one, List.length_append, List.length_cons, List.length_nil, Nat.zero_add, true_and, ↓w_skip, a7, t_neq, beq_self_eq_true, onB_false]
              exact ⟨_, rfl, at_end _ _⟩
            · rw [fin, if_neg (fun x => hq x.2)]
              simp -implicitDefEqProofs only [↓ops_cons, ↓g_move, ↓g_extract, Nat.reduceLT, ev_tab, upd_eq, ext_0, ne_eq, Nat.reduceEqDiff, not_false_eq_true, upd_ne, ext_1, ↓g_assign, ↓ops_nil, ↓w_seq, ↓w_region, ↓g_unOp, onS_some, u_not, Bool.not_true, Option.map_some, yielded_tab, dstAt_s, dstAt_0, ybv_some, boolOf_b, ↓g_guard_t, reduceCtorEq, a5, ↓g_binOp, ↓g_pick, ev_const, of_bool, pick_b, Bool.false_eq_true, if_false, ↓w_cond, ↓g_buildSlice, Try.underlying22, List.map_nil, bs3_0, ↓w_ret, retP_2, res_tmp, alK_some, ints_one, List.length_append, List.length_cons, List.length_nil, Nat.zero_add, true_and, ↓w_skip, a7, t_neq, neT hq, Bool.not_false, onB_true]
              exact ⟨_, rfl, hem⟩
          · refine call1S (by simp -implicitDefEqProofs only [List.map_cons, Nat.reduceLT, ev_tab, upd_eq, List.map_nil] <;> rfl) (ackNoS hU (by omega) hL) ?_
            rw [fin, if_neg (fun x => hU x.1)]
            simp -implicitDefEqProofs only [↓ops_cons, ↓g_move, ↓g_extract, Nat.reduceLT, ev_tab, upd_eq, ext_0, ne_eq, Nat.reduceEqDiff, not_false_eq_true, upd_ne, ext_1, ↓g_assign, ↓ops_nil, ↓w_seq, ↓w_region, ↓g_unOp, onS_some, u_not, Bool.not_false, Option.map_some, yielded_tab, dstAt_s, dstAt_0, ybv_some, boolOf_b, ↓g_guard_f, ↓g_pick, ev_const, of_bool, pick_b, if_true, ↓w_cond, ↓g_buildSlice, Try.underlying22, List.map_nil, bs3_0, ↓w_ret, retP_2, res_tmp, alK_some, ints_one, List.length_append, List.length_cons, List.length_nil, Nat.zero_add, true_and, ↓w_skip, a7, onB_true]
            exact ⟨_, rfl, hem⟩
      · refine ⟨_, [], [], k, rfl, by omega, rfl, hk, hR, ?_, ?_, ?_, ?_, ?_⟩ <;> simp -implicitDefEqProofs only [ne_eq, reduceCtorEq, not_false_eq_true, upd_ne, par0, Nat.reduceEqDiff, upd_eq, List.length_nil, Int.cast_ofNat_Int] <;> rfl
end Go.Proofs.Ytcjjcpdfnndenaa.Sim

