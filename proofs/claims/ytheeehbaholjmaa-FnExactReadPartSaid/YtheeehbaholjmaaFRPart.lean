/- A part, read. -/
import Derived.Test.YtheeehbaholjmaaFPartTxt
import Derived.Test.YtheeehbaholjmaaFRVarS
namespace Go.Proofs.Ytheeehbaholjmaa.Sim
open Go
set_option maxRecDepth 100000
set_option maxHeartbeats 40000000
set_option linter.unusedSimpArgs false
set_option linter.unusedVariables false
set_option linter.unusedSectionVars false
theorem rdv_le (z : ByteArray) (a : Nat) : ∀ f i n m k, rdv z a f i n = some (m, k) → k ≤ z.size ∧ m ≤ 1000000000
  | 0, i, n, m, k, h => by cases h
  | f + 1, i, n, m, k, h => by
    rw [rdv] at h
    split at h
    · rename_i hin
      split at h
      · exact rdv_le z a f _ _ _ _ h
      · split at h
        · cases h
        · rename_i hno
          simp only [Option.some.injEq, Prod.mk.injEq] at h
          obtain ⟨rfl, rfl⟩ := h
          have : ¬ 1000000000 < n + bN z (a + i) % 128 * 128 ^ i := fun q => hno (.inr q)
          omega
    · cases h
theorem rdv_num (z : ByteArray) (a : Nat) : ∀ f i n m k, rdv z a f i n = some (m, k) → ∃ q, m = n + 128 ^ i * q ∧ k = a + i + (varN q).length ∧ (i = 0 ∨ q ≠ 0)
  | 0, i, n, m, k, h => by cases h
  | f + 1, i, n, m, k, h => by
    rw [rdv] at h
    split at h
    · rename_i hin
      generalize hc : bN z (a + i) = c at *
      split at h
      · rename_i hbig
        obtain ⟨q, h1, h2, h3⟩ := rdv_num z a f _ _ _ _ h
        have hq : q ≠ 0 := by
          rcases h3 with h3 | h3
          · omega
          · exact h3
        refine ⟨c % 128 + 128 * q, ?_, ?_, .inr (by omega)⟩
        · rw [h1, Nat.pow_succ, Nat.mul_add, Nat.mul_comm (128 ^ i) (c % 128), Nat.mul_assoc]
          omega
        · have e2 : (c % 128 + 128 * q) / 128 = q := by omega
          rw [varN_big (by omega), e2, List.length_cons]
          omega
      · split at h
        · cases h
        · rename_i hbig hno
          simp only [Option.some.injEq, Prod.mk.injEq] at h
          obtain ⟨rfl, rfl⟩ := h
          refine ⟨c % 128, by rw [Nat.mul_comm], ?_, ?_⟩
          · rw [varN_small (by omega)]
            simp
          · by_cases hi : i = 0
            · exact .inl hi
            · refine .inr fun h0 => hno (.inl ⟨by omega, by omega⟩)
    · cases h
theorem rdv_len {z : ByteArray} {a n k : Nat} (h : rdv z a 5 0 0 = some (n, k)) : k = a + (varN n).length := by
  obtain ⟨q, h1, h2, h3⟩ := rdv_num z a _ _ _ _ _ h
  have : n = q := by omega
  rw [this, h2]
  omega
def rsh (z : ByteArray) (a : Nat) : Option (ByteArray × Nat) :=
  match rdv z a 5 0 0 with
  | some (n, k) => if 20000 < n ∨ z.size < k + n then none else some (z.extract k (k + n), k + n)
  | none => none
def rsV (r : Option (ByteArray × Nat)) : AV :=
  match r with
  | some (d, k) => .tup [.sc (.string d), .sc (.int .i64 k), .sc (.bool true)]
  | none => .tup [.sc (.string ByteArray.empty), .sc (.int .i64 0), .sc (.bool false)]
theorem rsV_flat (r : Option (ByteArray × Nat)) : Flat (rsV r) := by
  unfold rsV
  split <;> exact .tup (flats_cons (.sc _) (flats_cons (.sc _) (flats_cons (.sc _) flats_nil)))
theorem rvV_some {r : Option (Nat × Nat)} {n k : Nat} (h : r = some (n, k)) : rvV r = .tup [.sc (.int .i64 n), .sc (.int .i64 k), .sc (.bool true)] := by rw [h]; rfl
theorem rvV_none {r : Option (Nat × Nat)} (h : r = none) : rvV r = .tup [.sc (.int .i64 0), .sc (.int .i64 0), .sc (.bool false)] := by rw [h]; rfl
theorem rshI (z : ByteArray) (a : Nat) (ha : a ≤ z.size) (hz : z.size ≤ 1000000000) : Fn Try.prog 63 [.sc (.string z), .sc (.int .i64 a)] (rsV (rsh z a)) := by
  have c := rvI z a ha hz
  cases hr : rdv z a 5 0 0 with
  | none =>
    rw [rvV_none hr] at c
    have hv : rsh z a = none := by simp only [rsh, hr]
    rw [hv]
    refine Fn.run 40 [.tmp 4, .tmp 5, .tmp 6] Try.func63 rfl rfl rfl rfl (by simp) (flats_cons (.sc _) (flats_cons (.sc _) flats_nil)) (rsV_flat _) ?_
    simp -implicitDefEqProofs only [↓w_seq, ↓w_region, ↓ops_cons, ↓g_assign, ↓ops_nil, ev_const, of_str, of_int, of_bool, ↓g_move, Nat.reduceLT, ev_tab, ne_eq, reduceCtorEq, not_false_eq_true, upd_ne, par0, Nat.reduceEqDiff, par1]
    refine call1 (by simp -implicitDefEqProofs only [List.map_cons, Nat.reduceLT, ev_tab, ne_eq, Nat.reduceEqDiff, not_false_eq_true, upd_ne, upd_eq, List.map_nil] <;> rfl) c ?_
    simp -implicitDefEqProofs only [↓ops_cons, ↓g_move, ↓g_extract, Nat.reduceLT, ev_tab, upd_eq, ext_0, ne_eq, Nat.reduceEqDiff, not_false_eq_true, upd_ne, ext_1, ext_2, ↓g_assign, ↓ops_nil, ↓w_seq, ↓w_region, ↓g_unOp, onS_some, u_not, Bool.not_false, Option.map_some, yielded_tab, dstAt_s, dstAt_0, ybv_some, boolOf_b, ↓g_guard_f, ↓g_pick, ev_const, of_bool, pick_b, if_true, ↓w_cond, ↓w_ret, of_str, of_int, ret_three, ↓w_skip, ↓g_binOp, reduceCtorEq, par0, ↓g_slice, Try.underlying9, cut_str, onB_true]
    rfl
  | some p =>
    obtain ⟨n, k⟩ := p
    rw [rvV_some hr] at c
    obtain ⟨hk, hn⟩ := rdv_le z a _ _ _ _ _ hr
    have e1 : IntKind.i64.wrap ((z.size : Int) - k) = z.size - k := w64 (by omega) (by omega)
    have e2 : IntKind.i64.wrap ((k : Int) + n) = ((k + n : Nat) : Int) := by rw [w64 (by omega) (by omega)]; omega
    by_cases h1 : 20000 < n
    · have k1 : (20000 : Int) < n := by omega
      have hv : rsh z a = none := by simp only [rsh, hr]; rw [if_pos (.inl h1)]
      rw [hv]
      refine Fn.run 40 [.tmp 4, .tmp 5, .tmp 6] Try.func63 rfl rfl rfl rfl (by simp) (flats_cons (.sc _) (flats_cons (.sc _) flats_nil)) (rsV_flat _) ?_
      simp -implicitDefEqProofs only [↓w_seq, ↓w_region, ↓ops_cons, ↓g_assign, ↓ops_nil, ev_const, of_str, of_int, of_bool, ↓g_move, Nat.reduceLT, ev_tab, ne_eq, reduceCtorEq, not_false_eq_true, upd_ne, par0, Nat.reduceEqDiff, par1]
      refine call1 (by simp -implicitDefEqProofs only [List.map_cons, Nat.reduceLT, ev_tab, ne_eq, Nat.reduceEqDiff, not_false_eq_true, upd_ne, upd_eq, List.map_nil] <;> rfl) c ?_
      simp -implicitDefEqProofs only [↓ops_cons, ↓g_move, ↓g_extract, Nat.reduceLT, ev_tab, upd_eq, ext_0, ne_eq, Nat.reduceEqDiff, not_false_eq_true, upd_ne, ext_1, ext_2, ↓g_assign, ↓ops_nil, ↓w_seq, ↓w_region, ↓g_unOp, onS_some, u_not, Bool.not_true, Option.map_some, yielded_tab, dstAt_s, dstAt_0, ybv_some, boolOf_b, ↓g_guard_t, ↓g_binOp, ev_const, of_int, ↓g_pick, of_bool, pick_b, Bool.false_eq_true, if_false, b_gtr, k1, decide_true, Bool.not_false, ↓g_guard_f, if_true, ↓w_cond, ↓w_ret, of_str, ret_three, ↓w_skip, reduceCtorEq, par0, b_add, ↓g_slice, Try.underlying9, cut_str, bnd_int, onB_true]
      rfl
    · have k1 : ¬ (20000 : Int) < n := by omega
      by_cases h2 : z.size < k + n
      · have k2 : (z.size : Int) - k < n := by omega
        have hv : rsh z a = none := by simp only [rsh, hr]; rw [if_pos (.inr h2)]
        rw [hv]
        refine Fn.run 40 [.tmp 4, .tmp 5, .tmp 6] Try.func63 rfl rfl rfl rfl (by simp) (flats_cons (.sc _) (flats_cons (.sc _) flats_nil)) (rsV_flat _) ?_
        simp -implicitDefEqProofs only [↓w_seq, ↓w_region, ↓ops_cons, ↓g_assign, ↓ops_nil, ev_const, of_str, of_int, of_bool, ↓g_move, Nat.reduceLT, ev_tab, ne_eq, reduceCtorEq, not_false_eq_true, upd_ne, par0, Nat.reduceEqDiff, par1]
        refine call1 (by simp -implicitDefEqProofs only [List.map_cons, Nat.reduceLT, ev_tab, ne_eq, Nat.reduceEqDiff, not_false_eq_true, upd_ne, upd_eq, List.map_nil] <;> rfl) c ?_
        simp -implicitDefEqProofs only [↓ops_cons, ↓g_move, ↓g_extract, Nat.reduceLT, ev_tab, upd_eq, ext_0, ne_eq, Nat.reduceEqDiff, not_false_eq_true, upd_ne, ext_1, ext_2, ↓g_assign, ↓ops_nil, ↓w_seq, ↓w_region, ↓g_unOp, onS_some, u_not, Bool.not_true, Option.map_some, yielded_tab, dstAt_s, dstAt_0, ybv_some, boolOf_b, ↓g_guard_t, ↓g_binOp, ev_const, of_int, ↓g_pick, of_bool, pick_b, Bool.false_eq_true, if_false, b_gtr, k1, decide_false, reduceCtorEq, par0, ↓g_len, Try.underlying9, len_str, ↓w_cond, ↓w_ret, of_str, ret_three, ↓w_skip, b_add, ↓g_slice, cut_str, bnd_int, b_sub, e1, k2, decide_true, onB_true]
        rfl
      · have k2 : ¬ (z.size : Int) - k < n := by omega
        have hv : rsh z a = some (z.extract k (k + n), k + n) := by simp only [rsh, hr]; rw [if_neg (fun x => x.elim h1 h2)]
        rw [hv]
        have q1 : (0 : Int) ≤ (k : Int) := by omega
        have q2 : (0 : Int) ≤ ((k + n : Nat) : Int) := by omega
        have q3 : k ≤ k + n := by omega
        have q4 : k + n ≤ z.size := by omega
        refine Fn.run 40 [.tmp 4, .tmp 5, .tmp 6] Try.func63 rfl rfl rfl rfl (by simp) (flats_cons (.sc _) (flats_cons (.sc _) flats_nil)) (rsV_flat _) ?_
        simp -implicitDefEqProofs only [↓w_seq, ↓w_region, ↓ops_cons, ↓g_assign, ↓ops_nil, ev_const, of_str, of_int, of_bool, ↓g_move, Nat.reduceLT, ev_tab, ne_eq, reduceCtorEq, not_false_eq_true, upd_ne, par0, Nat.reduceEqDiff, par1]
        refine call1 (by simp -implicitDefEqProofs only [List.map_cons, Nat.reduceLT, ev_tab, ne_eq, Nat.reduceEqDiff, not_false_eq_true, upd_ne, upd_eq, List.map_nil] <;> rfl) c ?_
        simp -implicitDefEqProofs only [↓ops_cons, ↓g_move, ↓g_extract, Nat.reduceLT, ev_tab, upd_eq, ext_0, ne_eq, Nat.reduceEqDiff, not_false_eq_true, upd_ne, ext_1, ext_2, ↓g_assign, ↓ops_nil, ↓w_seq, ↓w_region, ↓g_unOp, onS_some, u_not, Bool.not_true, Option.map_some, yielded_tab, dstAt_s, dstAt_0, ybv_some, boolOf_b, ↓g_guard_t, ↓g_binOp, ev_const, of_int, ↓g_pick, of_bool, pick_b, Bool.false_eq_true, if_false, b_gtr, k1, decide_false, reduceCtorEq, par0, ↓g_len, Try.underlying9, len_str, ↓w_cond, ↓w_ret, of_str, ret_three, ↓w_skip, b_add, e2, ↓g_slice, cut_str, bnd_int, q1, Int.toNat_natCast, if_true, q2, cutS_some, q3, q4, and_self, b_sub, e1, k2, onB_false]
        try rfl
theorem rshS (z : ByteArray) (a : Nat) (ha : a ≤ z.size) (hz : z.size ≤ 1000000000) : Fn Try.prog 66 [.sc (.string z), .sc (.int .i64 a)] (rsV (rsh z a)) := by
  have c := rvS z a ha hz
  cases hr : rdv z a 5 0 0 with
  | none =>
    rw [rvV_none hr] at c
    have hv : rsh z a = none := by simp only [rsh, hr]
    rw [hv]
    refine Fn.run 40 [.tmp 4, .tmp 5, .tmp 6] Try.func66 rfl rfl rfl rfl (by simp) (flats_cons (.sc _) (flats_cons (.sc _) flats_nil)) (rsV_flat _) ?_
    simp -implicitDefEqProofs only [↓w_seq, ↓w_region, ↓ops_cons, ↓g_assign, ↓ops_nil, ev_const, of_str, of_int, of_bool, ↓g_move, Nat.reduceLT, ev_tab, ne_eq, reduceCtorEq, not_false_eq_true, upd_ne, par0, Nat.reduceEqDiff, par1]
    refine call1 (by simp -implicitDefEqProofs only [List.map_cons, Nat.reduceLT, ev_tab, ne_eq, Nat.reduceEqDiff, not_false_eq_true, upd_ne, upd_eq, List.map_nil] <;> rfl) c ?_
    simp -implicitDefEqProofs only [↓ops_cons, ↓g_move, ↓g_extract, Nat.reduceLT, ev_tab, upd_eq, ext_0, ne_eq, Nat.reduceEqDiff, not_false_eq_true, upd_ne, ext_1, ext_2, ↓g_assign, ↓ops_nil, ↓w_seq, ↓w_region, ↓g_unOp, onS_some, u_not, Bool.not_false, Option.map_some, yielded_tab, dstAt_s, dstAt_0, ybv_some, boolOf_b, ↓g_guard_f, ↓g_pick, ev_const, of_bool, pick_b, if_true, ↓w_cond, ↓w_ret, of_str, of_int, ret_three, ↓w_skip, ↓g_binOp, reduceCtorEq, par0, ↓g_slice, Try.underlying9, cut_str, onB_true]
    rfl
  | some p =>
    obtain ⟨n, k⟩ := p
    rw [rvV_some hr] at c
    obtain ⟨hk, hn⟩ := rdv_le z a _ _ _ _ _ hr
    have e1 : IntKind.i64.wrap ((z.size : Int) - k) = z.size - k := w64 (by omega) (by omega)
    have e2 : IntKind.i64.wrap ((k : Int) + n) = ((k + n : Nat) : Int) := by rw [w64 (by omega) (by omega)]; omega
    by_cases h1 : 20000 < n
    · have k1 : (20000 : Int) < n := by omega
      have hv : rsh z a = none := by simp only [rsh, hr]; rw [if_pos (.inl h1)]
      rw [hv]
      refine Fn.run 40 [.tmp 4, .tmp 5, .tmp 6] Try.func66 rfl rfl rfl rfl (by simp) (flats_cons (.sc _) (flats_cons (.sc _) flats_nil)) (rsV_flat _) ?_
      simp -implicitDefEqProofs only [↓w_seq, ↓w_region, ↓ops_cons, ↓g_assign, ↓ops_nil, ev_const, of_str, of_int, of_bool, ↓g_move, Nat.reduceLT, ev_tab, ne_eq, reduceCtorEq, not_false_eq_true, upd_ne, par0, Nat.reduceEqDiff, par1]
      refine call1 (by simp -implicitDefEqProofs only [List.map_cons, Nat.reduceLT, ev_tab, ne_eq, Nat.reduceEqDiff, not_false_eq_true, upd_ne, upd_eq, List.map_nil] <;> rfl) c ?_
      simp -implicitDefEqProofs only [↓ops_cons, ↓g_move, ↓g_extract, Nat.reduceLT, ev_tab, upd_eq, ext_0, ne_eq, Nat.reduceEqDiff, not_false_eq_true, upd_ne, ext_1, ext_2, ↓g_assign, ↓ops_nil, ↓w_seq, ↓w_region, ↓g_unOp, onS_some, u_not, Bool.not_true, Option.map_some, yielded_tab, dstAt_s, dstAt_0, ybv_some, boolOf_b, ↓g_guard_t, ↓g_binOp, ev_const, of_int, ↓g_pick, of_bool, pick_b, Bool.false_eq_true, if_false, b_gtr, k1, decide_true, Bool.not_false, ↓g_guard_f, if_true, ↓w_cond, ↓w_ret, of_str, ret_three, ↓w_skip, reduceCtorEq, par0, b_add, ↓g_slice, Try.underlying9, cut_str, bnd_int, onB_true]
      rfl
    · have k1 : ¬ (20000 : Int) < n := by omega
      by_cases h2 : z.size < k + n
      · have k2 : (z.size : Int) - k < n := by omega
        have hv : rsh z a = none := by simp only [rsh, hr]; rw [if_pos (.inr h2)]
        rw [hv]
        refine Fn.run 40 [.tmp 4, .tmp 5, .tmp 6] Try.func66 rfl rfl rfl rfl (by simp) (flats_cons (.sc _) (flats_cons (.sc _) flats_nil)) (rsV_flat _) ?_
        simp -implicitDefEqProofs only [↓w_seq, ↓w_region, ↓ops_cons, ↓g_assign, ↓ops_nil, ev_const, of_str, of_int, of_bool, ↓g_move, Nat.reduceLT, ev_tab, ne_eq, reduceCtorEq, not_false_eq_true, upd_ne, par0, Nat.reduceEqDiff, par1]
        refine call1 (by simp -implicitDefEqProofs only [List.map_cons, Nat.reduceLT, ev_tab, ne_eq, Nat.reduceEqDiff, not_false_eq_true, upd_ne, upd_eq, List.map_nil] <;> rfl) c ?_
        simp -implicitDefEqProofs only [↓ops_cons, ↓g_move, ↓g_extract, Nat.reduceLT, ev_tab, upd_eq, ext_0, ne_eq, Nat.reduceEqDiff, not_false_eq_true, upd_ne, ext_1, ext_2, ↓g_assign, ↓ops_nil, ↓w_seq, ↓w_region, ↓g_unOp, onS_some, u_not, Bool.not_true, Option.map_some, yielded_tab, dstAt_s, dstAt_0, ybv_some, boolOf_b, ↓g_guard_t, ↓g_binOp, ev_const, of_int, ↓g_pick, of_bool, pick_b, Bool.false_eq_true, if_false, b_gtr, k1, decide_false, reduceCtorEq, par0, ↓g_len, Try.underlying9, len_str, ↓w_cond, ↓w_ret, of_str, ret_three, ↓w_skip, b_add, ↓g_slice, cut_str, bnd_int, b_sub, e1, k2, decide_true, onB_true]
        rfl
      · have k2 : ¬ (z.size : Int) - k < n := by omega
        have hv : rsh z a = some (z.extract k (k + n), k + n) := by simp only [rsh, hr]; rw [if_neg (fun x => x.elim h1 h2)]
        rw [hv]
        have q1 : (0 : Int) ≤ (k : Int) := by omega
        have q2 : (0 : Int) ≤ ((k + n : Nat) : Int) := by omega
        have q3 : k ≤ k + n := by omega
        have q4 : k + n ≤ z.size := by omega
        refine Fn.run 40 [.tmp 4, .tmp 5, .tmp 6] Try.func66 rfl rfl rfl rfl (by simp) (flats_cons (.sc _) (flats_cons (.sc _) flats_nil)) (rsV_flat _) ?_
        simp -implicitDefEqProofs only [↓w_seq, ↓w_region, ↓ops_cons, ↓g_assign, ↓ops_nil, ev_const, of_str, of_int, of_bool, ↓g_move, Nat.reduceLT, ev_tab, ne_eq, reduceCtorEq, not_false_eq_true, upd_ne, par0, Nat.reduceEqDiff, par1]
        refine call1 (by simp -implicitDefEqProofs only [List.map_cons, Nat.reduceLT, ev_tab, ne_eq, Nat.reduceEqDiff, not_false_eq_true, upd_ne, upd_eq, List.map_nil] <;> rfl) c ?_
        simp -implicitDefEqProofs only [↓ops_cons, ↓g_move, ↓g_extract, Nat.reduceLT, ev_tab, upd_eq, ext_0, ne_eq, Nat.reduceEqDiff, not_false_eq_true, upd_ne, ext_1, ext_2, ↓g_assign, ↓ops_nil, ↓w_seq, ↓w_region, ↓g_unOp, onS_some, u_not, Bool.not_true, Option.map_some, yielded_tab, dstAt_s, dstAt_0, ybv_some, boolOf_b, ↓g_guard_t, ↓g_binOp, ev_const, of_int, ↓g_pick, of_bool, pick_b, Bool.false_eq_true, if_false, b_gtr, k1, decide_false, reduceCtorEq, par0, ↓g_len, Try.underlying9, len_str, ↓w_cond, ↓w_ret, of_str, ret_three, ↓w_skip, b_add, e2, ↓g_slice, cut_str, bnd_int, q1, Int.toNat_natCast, if_true, q2, cutS_some, q3, q4, and_self, b_sub, e1, k2, onB_false]
        try rfl
/-- What a reader gave. -/
theorem rv_ex (z : ByteArray) (a : Nat) : ∃ (n k : Nat) (b : Bool), rvV (rdv z a 5 0 0) = .tup [.sc (.int .i64 n), .sc (.int .i64 k), .sc (.bool b)] ∧ k ≤ z.size ∧ n ≤ 1000000000 ∧ (b = true → k = a + (varN n).length) := by
  cases hr : rdv z a 5 0 0 with
  | none => exact ⟨0, 0, false, rfl, by omega, by omega, by simp⟩
  | some p =>
    obtain ⟨n, k⟩ := p
    obtain ⟨hk, hn⟩ := rdv_le z a _ _ _ _ _ hr
    exact ⟨n, k, true, rfl, hk, hn, fun _ => rdv_len hr⟩
theorem rs_ex (z : ByteArray) (a : Nat) : ∃ (d : ByteArray) (k : Nat) (b : Bool), rsV (rsh z a) = .tup [.sc (.string d), .sc (.int .i64 k), .sc (.bool b)] ∧ k ≤ z.size ∧ d.size ≤ z.size ∧ (b = true → k = a + (varN d.size).length + d.size) := by
  unfold rsh
  cases hr : rdv z a 5 0 0 with
  | none => exact ⟨ByteArray.empty, 0, false, rfl, by omega, by simp, by simp⟩
  | some p =>
    obtain ⟨n, k⟩ := p
    obtain ⟨hk, hn⟩ := rdv_le z a _ _ _ _ _ hr
    simp only
    by_cases h : 20000 < n ∨ z.size < k + n
    · rw [if_pos h]
      exact ⟨ByteArray.empty, 0, false, rfl, by omega, by simp, by simp⟩
    · rw [if_neg h]
      have h2 : ¬ z.size < k + n := fun x => h (.inr x)
      have hs : (z.extract k (k + n)).size = n := by rw [ByteArray.size_extract]; omega
      refine ⟨_, _, _, rfl, by omega, by omega, ?_⟩
      intro _
      rw [hs, rdv_len hr]
theorem ptT_size (i t f : Nat) (d : ByteArray) : (ptT i t f d).size = (varN i).length + (varN t).length + (varN f).length + (varN d.size).length + d.size := by
  rw [ptT, son_size]
  simp only [List.length_append, nums_len]
  omega
theorem neT {x z : ByteArray} (h : x ≠ z) : (x.toList == z.toList) = false := by
  rw [beq_eq_false_iff_ne]
  exact fun he => h (toL_inj.1 he)
theorem flatP (i t f : Int) (d : ByteArray) (c : Bool) : Flat (.tup [prt i t f d, .sc (.bool c)]) := .tup (flats_cons (prt_flat _ _ _ _) (flats_cons (.sc _) flats_nil))
section
variable (z : ByteArray) (hz : z.size ≤ 1000000000) (i t f k1 k2 k3 k4 : Nat) (d : ByteArray) (b1 b2 b3 b4 : Bool)
  (h1 : rvV (rdv z 0 5 0 0) = .tup [.sc (.int .i64 i), .sc (.int .i64 k1), .sc (.bool b1)]) (q1 : k1 ≤ z.size)
  (h2 : rvV (rdv z k1 5 0 0) = .tup [.sc (.int .i64 t), .sc (.int .i64 k2), .sc (.bool b2)]) (q2 : k2 ≤ z.size)
  (h3 : rvV (rdv z k2 5 0 0) = .tup [.sc (.int .i64 f), .sc (.int .i64 k3), .sc (.bool b3)]) (q3 : k3 ≤ z.size)
  (h4 : rsV (rsh z k3) = .tup [.sc (.string d), .sc (.int .i64 k4), .sc (.bool b4)]) (q4 : d.size ≤ z.size)
include h1 q1 h2 q2 h3 q3 h4 q4 hz
theorem rpOkI (hb1 : b1 = true) (hb2 : b2 = true) (hb3 : b3 = true) (hb4 : b4 = true) (hp : okPc i t f d ∧ d.size ≤ 1000) (he : ptT i t f d = z) : Fn Try.prog 29 [.sc (.string z)] (.tup [prt i t f d, .sc (.bool true)]) := by
  refine Fn.run 79 [.cell 2 27, .tmp 3] Try.func29 rfl rfl rfl rfl (by simp) (flats_cons (.sc _) flats_nil) (flatP _ _ _ _ _) ?_
  subst hb1 hb2 hb3 hb4
  have c1 := rvI z 0 (by omega) hz
  have c2 := rvI z k1 q1 hz
  have c3 := rvI z k2 q2 hz
  have c4 := rshI z k3 q3 hz
  rw [h1] at c1
  rw [h2] at c2
  rw [h3] at c3
  rw [h4] at c4
  have c5 := ptI i t f d hp.1 hp.2
  rw [he] at c5
  unfold prt at c5 ⊢
  simp -implicitDefEqProofs only [↓w_seq, ↓w_region, ↓ops_cons, ↓g_alloc, zero27, Option.map_some, ↓g_assign, ↓ops_nil, ev_const, of_bool, ↓g_buildV, List.map_nil, bz27, ↓g_store, Nat.reduceLT, ev_tab, upd_eq, ne_eq, Nat.reduceEqDiff, not_false_eq_true, upd_ne, ↓g_move, reduceCtorEq, par0, alK_some, List.all_cons, one_int, one_str, List.all_nil, Bool.and_self, wr_def, tyOk27, cells27, at_end, wr_c, Nat.zero_add, List.length_cons, List.length_nil, Nat.reduceAdd, Nat.le_refl, true_and, onS_ite, onS_some, cells_agg, and_self, ovr_m, ovr_n, List.nil_append, List.cons_append, List.set_cons_succ, List.set_cons_zero]
  refine call1 (by simp -implicitDefEqProofs only [List.map_cons, Nat.reduceLT, ev_tab, upd_eq, ev_const, of_int, List.map_nil, Int.cast_ofNat_Int] <;> rfl) c1 ?_
  simp -implicitDefEqProofs only [↓ops_cons, ↓g_move, ↓g_extract, Nat.reduceLT, ev_tab, upd_eq, ext_0, ne_eq, Nat.reduceEqDiff, not_false_eq_true, upd_ne, ext_1, ext_2, ↓g_assign, ↓ops_nil, ↓w_seq, ↓w_region, reduceCtorEq, par0, onS_some]
  refine call1 (by simp -implicitDefEqProofs only [List.map_cons, Nat.reduceLT, ev_tab, ne_eq, Nat.reduceEqDiff, not_false_eq_true, upd_ne, upd_eq, List.map_nil] <;> rfl) c2 ?_
  simp -implicitDefEqProofs only [↓ops_cons, ↓g_move, ↓g_extract, Nat.reduceLT, ev_tab, upd_eq, ext_0, ne_eq, Nat.reduceEqDiff, not_false_eq_true, upd_ne, ext_1, ext_2, ↓g_assign, ↓ops_nil, ↓w_seq, ↓w_region, reduceCtorEq, par0, onS_some]
  refine call1 (by simp -implicitDefEqProofs only [List.map_cons, Nat.reduceLT, ev_tab, ne_eq, Nat.reduceEqDiff, not_false_eq_true, upd_ne, upd_eq, List.map_nil] <;> rfl) c3 ?_
  simp -implicitDefEqProofs only [↓ops_cons, ↓g_move, ↓g_extract, Nat.reduceLT, ev_tab, upd_eq, ext_0, ne_eq, Nat.reduceEqDiff, not_false_eq_true, upd_ne, ext_1, ext_2, ↓g_assign, ↓ops_nil, ↓w_seq, ↓w_region, reduceCtorEq, par0, onS_some]
  refine call1 (by simp -implicitDefEqProofs only [List.map_cons, Nat.reduceLT, ev_tab, ne_eq, Nat.reduceEqDiff, not_false_eq_true, upd_ne, upd_eq, List.map_nil] <;> rfl) c4 ?_
  simp -implicitDefEqProofs only [↓ops_cons, ↓g_move, ↓g_extract, Nat.reduceLT, ev_tab, upd_eq, ext_0, ne_eq, Nat.reduceEqDiff, not_false_eq_true, upd_ne, ext_1, ext_2, ↓g_assign, ↓ops_nil, ↓w_seq, ↓w_region, ↓g_unOp, u_not, Bool.not_true, Option.map_some, onS_some, yielded_tab, dstAt_s, dstAt_0, ybv_some, boolOf_b, ↓g_guard_t, ↓g_pick, ev_const, of_bool, pick_b, Bool.false_eq_true, if_false, ↓w_cond, ↓g_buildV, List.map_nil, bz27, ↓g_store, wr_def, tyOk27, cells27, List.getElem?_cons_zero, wr_c, Nat.zero_add, List.length_cons, List.length_nil, Nat.reduceAdd, Nat.le_refl, true_and, List.set_cons_zero, ↓w_ret, ret_ct, rd_def, agg27, onS_ite, cells_agg, List.all_cons, one_int, one_str, List.all_nil, Bool.and_self, and_self, ovr_m, ovr_n, rd_aggc, List.drop_zero, List.take_succ_cons, List.take_zero, if_true, ↓w_skip, List.map_cons, cells_int, List.getElem?_cons_succ, List.set_cons_succ, ↓g_load, onB_false, cells_str, bds27]
  refine call1 (by simp -implicitDefEqProofs only [List.map_cons, Nat.reduceLT, ev_tab, upd_eq, List.map_nil] <;> rfl) c5 ?_
  simp -implicitDefEqProofs only [↓ops_cons, ↓g_move, ↓g_extract, Nat.reduceLT, ev_tab, upd_eq, ext_0, ne_eq, Nat.reduceEqDiff, not_false_eq_true, upd_ne, ext_1, ↓g_assign, ↓ops_nil, ↓w_seq, ↓w_region, ↓g_unOp, onS_some, u_not, Bool.not_true, Option.map_some, yielded_tab, dstAt_s, dstAt_0, ybv_some, boolOf_b, ↓g_guard_t, reduceCtorEq, par0, ↓g_binOp, ↓g_pick, ev_const, of_bool, pick_b, Bool.false_eq_true, if_false, ↓w_cond, ↓g_buildV, List.map_nil, bz27, ↓g_store, wr_def, tyOk27, cells27, List.getElem?_cons_zero, wr_c, Nat.zero_add, List.length_cons, List.length_nil, Nat.reduceAdd, Nat.le_refl, true_and, List.set_cons_zero, ↓w_ret, ret_ct, rd_def, agg27, onS_ite, cells_agg, List.all_cons, one_int, one_str, List.all_nil, Bool.and_self, and_self, ovr_m, ovr_n, rd_aggc, List.drop_zero, List.take_succ_cons, List.take_zero, if_true, ↓w_skip, ↓g_load, List.getElem?_cons_succ, t_neq, beq_self_eq_true, onB_false]
theorem rpOkS (hb1 : b1 = true) (hb2 : b2 = true) (hb3 : b3 = true) (hb4 : b4 = true) (hp : okPc i t f d ∧ d.size ≤ 1000) (he : ptT i t f d = z) (hk : k4 = z.size) : Fn Try.prog 32 [.sc (.string z)] (.tup [prt i t f d, .sc (.bool true)]) := by
  refine Fn.run 84 [.cell 2 27, .tmp 3] Try.func32 rfl rfl rfl rfl (by simp) (flats_cons (.sc _) flats_nil) (flatP _ _ _ _ _) ?_
  subst hb1 hb2 hb3 hb4
  have c1 := rvS z 0 (by omega) hz
  have c2 := rvS z k1 q1 hz
  have c3 := rvS z k2 q2 hz
  have c4 := rshS z k3 q3 hz
  rw [h1] at c1
  rw [h2] at c2
  rw [h3] at c3
  rw [h4, hk] at c4
  have c5 := ptS i t f d hp.1 hp.2
  rw [he] at c5
  unfold prt at c5 ⊢
  simp -implicitDefEqProofs only [↓w_seq, ↓w_region, ↓ops_cons, ↓g_alloc, zero27, Option.map_some, ↓g_assign, ↓ops_nil, ev_const, of_bool, ↓g_move, Nat.reduceLT, ev_tab, ne_eq, reduceCtorEq, not_false_eq_true, upd_ne, par0, alK_some, List.all_cons, one_int, one_str, List.all_nil, Bool.and_self, List.length_nil, List.nil_append, true_and]
  refine call1 (by simp -implicitDefEqProofs only [List.map_cons, Nat.reduceLT, ev_tab, upd_eq, ev_const, of_int, List.map_nil, Int.cast_ofNat_Int] <;> rfl) c1 ?_
  simp -implicitDefEqProofs only [↓ops_cons, ↓g_move, ↓g_extract, Nat.reduceLT, ev_tab, upd_eq, ext_0, ne_eq, Nat.reduceEqDiff, not_false_eq_true, upd_ne, ext_1, ext_2, ↓g_assign, ↓ops_nil, ↓w_seq, ↓w_region, ↓g_unOp, ↓w_cond, ↓g_buildV, List.map_nil, bz27, ↓g_store, wr_def, tyOk27, cells27, List.getElem?_cons_zero, wr_c, Nat.zero_add, List.length_cons, List.length_nil, Nat.reduceAdd, Nat.le_refl, true_and, List.set_cons_zero, ↓w_ret, ev_const, of_bool, ret_ct, rd_def, agg27, onS_ite, onS_some, cells_agg, List.all_cons, one_int, one_str, List.all_nil, Bool.and_self, and_self, ovr_m, ovr_n, rd_aggc, List.drop_zero, List.take_succ_cons, List.take_zero, if_true, ↓w_skip, reduceCtorEq, par0, u_not, Bool.not_true, Option.map_some, onB_false]
  refine call1 (by simp -implicitDefEqProofs only [List.map_cons, Nat.reduceLT, ev_tab, ne_eq, Nat.reduceEqDiff, not_false_eq_true, upd_ne, upd_eq, List.map_nil] <;> rfl) c2 ?_
  simp -implicitDefEqProofs only [↓ops_cons, ↓g_move, ↓g_extract, Nat.reduceLT, ev_tab, upd_eq, ext_0, ne_eq, Nat.reduceEqDiff, not_false_eq_true, upd_ne, ext_1, ext_2, ↓g_assign, ↓ops_nil, ↓w_seq, ↓w_region, ↓g_unOp, ↓w_cond, ↓g_buildV, List.map_nil, bz27, ↓g_store, wr_def, tyOk27, cells27, List.getElem?_cons_zero, wr_c, Nat.zero_add, List.length_cons, List.length_nil, Nat.reduceAdd, Nat.le_refl, true_and, List.set_cons_zero, ↓w_ret, ev_const, of_bool, ret_ct, rd_def, agg27, onS_ite, onS_some, cells_agg, List.all_cons, one_int, one_str, List.all_nil, Bool.and_self, and_self, ovr_m, ovr_n, rd_aggc, List.drop_zero, List.take_succ_cons, List.take_zero, if_true, ↓w_skip, reduceCtorEq, par0, u_not, Bool.not_true, Option.map_some, onB_false]
  refine call1 (by simp -implicitDefEqProofs only [List.map_cons, Nat.reduceLT, ev_tab, ne_eq, Nat.reduceEqDiff, not_false_eq_true, upd_ne, upd_eq, List.map_nil] <;> rfl) c3 ?_
  simp -implicitDefEqProofs only [↓ops_cons, ↓g_move, ↓g_extract, Nat.reduceLT, ev_tab, upd_eq, ext_0, ne_eq, Nat.reduceEqDiff, not_false_eq_true, upd_ne, ext_1, ext_2, ↓g_assign, ↓ops_nil, ↓w_seq, ↓w_region, ↓g_unOp, ↓w_cond, ↓g_buildV, List.map_nil, bz27, ↓g_store, wr_def, tyOk27, cells27, List.getElem?_cons_zero, wr_c, Nat.zero_add, List.length_cons, List.length_nil, Nat.reduceAdd, Nat.le_refl, true_and, List.set_cons_zero, ↓w_ret, ev_const, of_bool, ret_ct, rd_def, agg27, onS_ite, onS_some, cells_agg, List.all_cons, one_int, one_str, List.all_nil, Bool.and_self, and_self, ovr_m, ovr_n, rd_aggc, List.drop_zero, List.take_succ_cons, List.take_zero, if_true, ↓w_skip, reduceCtorEq, par0, u_not, Bool.not_true, Option.map_some, onB_false]
  refine call1 (by simp -implicitDefEqProofs only [List.map_cons, Nat.reduceLT, ev_tab, ne_eq, Nat.reduceEqDiff, not_false_eq_true, upd_ne, upd_eq, List.map_nil] <;> rfl) c4 ?_
  simp -implicitDefEqProofs only [↓ops_cons, ↓g_move, ↓g_extract, Nat.reduceLT, ev_tab, upd_eq, ext_0, ne_eq, Nat.reduceEqDiff, not_false_eq_true, upd_ne, ext_1, ext_2, ↓g_assign, ↓ops_nil, ↓w_seq, ↓w_region, ↓g_buildV, List.map_cons, List.map_nil, cells_int, ↓g_alloc, zero27, Option.map_some, ↓g_store, ↓g_load, alK_some, List.all_cons, one_int, one_str, List.all_nil, Bool.and_self, List.length_cons, List.length_nil, Nat.zero_add, List.cons_append, List.nil_append, wr_def, tyOk27, cells27, List.getElem?_cons_succ, List.getElem?_cons_zero, wr_c, Nat.reduceAdd, Nat.le_refl, true_and, List.set_cons_succ, List.set_cons_zero, rd_def, agg27, onS_ite, onS_some, cells_str, bds27, cells_agg, and_self, ovr_m, ovr_n, rd_aggc, List.drop_zero, List.take_succ_cons, List.take_zero, if_true]
  refine call1 (by simp -implicitDefEqProofs only [List.map_cons, Nat.reduceLT, ev_tab, upd_eq, List.map_nil] <;> rfl) c5 ?_
  simp -implicitDefEqProofs only [↓ops_cons, ↓g_move, ↓g_extract, Nat.reduceLT, ev_tab, upd_eq, ext_0, ne_eq, Nat.reduceEqDiff, not_false_eq_true, upd_ne, ext_1, ↓g_assign, ↓ops_nil, ↓w_seq, ↓w_region, ↓g_unOp, u_not, Bool.not_true, Option.map_some, onS_some, yielded_tab, dstAt_s, dstAt_0, ybv_some, boolOf_b, ↓g_guard_t, reduceCtorEq, par0, ↓g_len, Try.underlying9, len_str, ↓g_binOp, ↓g_pick, ev_const, of_bool, pick_b, Bool.false_eq_true, if_false, b_neq, decide_true, ↓w_cond, ↓g_buildV, List.map_nil, bz27, ↓g_store, wr_def, tyOk27, cells27, List.getElem?_cons_zero, wr_c, Nat.zero_add, List.length_cons, List.length_nil, Nat.reduceAdd, Nat.le_refl, true_and, List.set_cons_zero, ↓w_ret, ret_ct, rd_def, agg27, onS_ite, cells_agg, List.all_cons, one_int, one_str, List.all_nil, Bool.and_self, and_self, ovr_m, ovr_n, rd_aggc, List.drop_zero, List.take_succ_cons, List.take_zero, if_true, ↓w_skip, ↓g_load, List.getElem?_cons_succ, t_neq, beq_self_eq_true, onB_false]
end
end Go.Proofs.Ytheeehbaholjmaa.Sim

