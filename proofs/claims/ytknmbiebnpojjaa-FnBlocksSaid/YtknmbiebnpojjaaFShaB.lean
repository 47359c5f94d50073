/- A block of SHA-256 for any arguments: what both sides answer. -/
import Derived.Test.YtknmbiebnpojjaaFDigI
import Derived.Test.YtknmbiebnpojjaaFBlockS
import Derived.Test.YtknmbiebnpojjaaFHap
namespace Go.Proofs.Ytknmbiebnpojjaa.Sim
open Go
set_option maxRecDepth 100000
set_option maxHeartbeats 4000000
set_option linter.unusedSimpArgs false
set_option linter.unusedVariables false
def OkW (l : List Int) (off n : Nat) : Prop := ∀ i, i < n → 0 ≤ l.getD (off + i) 0 ∧ l.getD (off + i) 0 ≤ 4294967295
theorem areV {H : AHeap} {r off n : Nat} {l : List Int} {own : Bool} (k : Int) (b : Bool) (hb : b = true ↔ OkW l off n ∧ (n : Int) = k) (hH : H[r]? = some ⟨ints .i64 l, own, true⟩) (hm : off + n ≤ l.length) (hl : l.length ≤ 1000000000000) : Sound Try.prog 61 [.sl r off n 1, .sc (.int .i64 k)] H (.sc (.bool b)) H := by
  refine Sound.run 21 [.tmp 4] Try.func61 rfl rfl rfl rfl (by simp) ?_
  simp -implicitDefEqProofs only [↓w_seq, ↓w_region, ↓ops_cons, ↓g_assign, ↓ops_nil, ev_const, of_bool, ↓g_move, ↓g_len, Try.underlying26, Nat.reduceLT, ev_tab, ne_eq, reduceCtorEq, not_false_eq_true, upd_ne, par0, upd_eq, len_sl, ↓w_block, of_int, onS_some]
  refine w_loop (ι := Nat) (fun i s => ∃ T : Nat → AV, s = ⟨tab 21 T, H⟩ ∧ i ≤ n ∧ (∀ j, j < i → 0 ≤ l.getD (off + j) 0 ∧ l.getD (off + j) 0 ≤ 4294967295) ∧ T 0 = .sl r off n 1 ∧ T 1 = .sc (.int .i64 k) ∧ T 7 = .sl r off n 1 ∧ T 8 = .sc (.int .i64 n) ∧ T 9 = .sc (.int .i64 i)) (fun i => n - i) ?_ (i := 0) ?_
  · rintro i s ⟨T, rfl, a1, ao, a2, a3, a4, a5, a6⟩
    by_cases h : i < n
    · have k1 : (i : Int) < n := by omega
      have k2 : (0 : Int) ≤ i := by omega
      have k3 : off + i < l.length := by omega
      have e1 : IntKind.i64.wrap ((i : Int) + 1) = i + 1 := w64 (by omega) (by omega)
      by_cases c : 0 ≤ l.getD (off + i) 0 ∧ l.getD (off + i) 0 ≤ 4294967295
      · have e2 := decide_eq_true c
        simp -implicitDefEqProofs only [↓w_seq, ↓w_region, ↓ops_cons, ↓g_binOp, Nat.reduceLT, ev_tab, a6, a5, b_lss, k1, decide_true, ↓ops_nil, ↓w_cond, upd_eq, ↓w_skip, ↓w_block, ↓g_indexAddr, Try.underlying26, ne_eq, Nat.reduceEqDiff, not_false_eq_true, upd_ne, a4, adr_sl, k2, cells3, tyOk3, and_self, Int.toNat_natCast, Nat.mul_one, if_true, ↓g_load, ↓g_assign, ↓g_move, onS_some, rd_def, agg3, hH, rd_ints, k3, ↓w_exit, ↓g_len, reduceCtorEq, a2, len_sl, a3, ↓w_ret, ret_one, and_true, b_eql, onB_true]
        refine call1 (by simp -implicitDefEqProofs only [List.map_cons, Nat.reduceLT, ev_tab, upd_eq, ev_const, of_int, List.map_nil] <;> rfl) (inI _ 0 4294967295) ?_
        simp -implicitDefEqProofs only [↓ops_cons, ↓g_unOp, e2, Nat.reduceLT, ev_tab, upd_eq, u_not, Bool.not_true, Option.map_some, ↓ops_nil, ↓w_cond, ↓w_seq, ↓w_region, ↓g_assign, ↓w_ret, ev_const, of_bool, ret_one, and_true, ↓w_skip, ↓g_binOp, ne_eq, Nat.reduceEqDiff, not_false_eq_true, upd_ne, a6, of_int, b_add, e1, ↓g_move, onS_some, onB_false]
        refine ⟨i + 1, by omega, _, rfl, by omega, fun j hj => ?_, ?_, ?_, ?_, ?_, ?_⟩
        · rcases Nat.lt_or_ge j i with q | q
          · exact ao j q
          · rw [show j = i by omega]; exact c
        · simp -implicitDefEqProofs only [ne_eq, reduceCtorEq, not_false_eq_true, upd_ne, a2]
        · simp -implicitDefEqProofs only [ne_eq, Nat.reduceEqDiff, not_false_eq_true, upd_ne, a3]
        · simp -implicitDefEqProofs only [ne_eq, Nat.reduceEqDiff, not_false_eq_true, upd_ne, a4]
        · simp -implicitDefEqProofs only [ne_eq, Nat.reduceEqDiff, not_false_eq_true, upd_ne, a5]
        · simp -implicitDefEqProofs only [upd_eq] <;> rfl
      · have e2 := decide_eq_false c
        have hbf : b = false := by
          cases b with
          | false => rfl
          | true => exact absurd ((hb.1 rfl).1 i h) c
        simp -implicitDefEqProofs only [↓w_seq, ↓w_region, ↓ops_cons, ↓g_binOp, Nat.reduceLT, ev_tab, a6, a5, b_lss, k1, decide_true, ↓ops_nil, ↓w_cond, upd_eq, ↓w_skip, ↓w_block, ↓g_indexAddr, Try.underlying26, ne_eq, Nat.reduceEqDiff, not_false_eq_true, upd_ne, a4, adr_sl, k2, cells3, tyOk3, and_self, Int.toNat_natCast, Nat.mul_one, if_true, ↓g_load, ↓g_assign, ↓g_move, onS_some, rd_def, agg3, hH, rd_ints, k3, ↓w_exit, ↓g_len, reduceCtorEq, a2, len_sl, a3, ↓w_ret, ret_one, and_true, b_eql, onB_true]
        refine call1 (by simp -implicitDefEqProofs only [List.map_cons, Nat.reduceLT, ev_tab, upd_eq, ev_const, of_int, List.map_nil] <;> rfl) (inI _ 0 4294967295) ?_
        simp -implicitDefEqProofs only [↓ops_cons, ↓g_unOp, e2, Nat.reduceLT, ev_tab, upd_eq, u_not, Bool.not_false, Option.map_some, ↓ops_nil, ↓w_cond, ↓w_seq, ↓w_region, hbf, ↓g_assign, ↓w_ret, ev_const, of_bool, ret_one, and_self, ↓w_skip, ↓g_binOp, ne_eq, Nat.reduceEqDiff, not_false_eq_true, upd_ne, of_int, ↓g_move, onS_some, onB_true]
        try rfl
    · have k1 : ¬ (i : Int) < n := by omega
      have hn : i = n := by omega
      subst hn
      have e : decide ((i : Int) = k) = b := by
        by_cases q : (i : Int) = k
        · rw [decide_eq_true q, hb.2 ⟨ao, q⟩]
        · cases b with
          | false => exact decide_eq_false q
          | true => exact absurd (hb.1 rfl).2 q
      simp -implicitDefEqProofs only [↓w_seq, ↓w_region, ↓ops_cons, ↓g_binOp, Nat.reduceLT, ev_tab, a6, a5, b_lss, k1, decide_false, ↓ops_nil, ↓w_cond, upd_eq, ↓w_skip, ↓w_block, ↓g_indexAddr, Try.underlying26, ne_eq, Nat.reduceEqDiff, not_false_eq_true, upd_ne, a4, adr_sl, cells3, tyOk3, and_self, and_true, and_false, Nat.mul_one, if_false, ↓g_load, ↓g_assign, ↓g_move, ↓w_exit, ↓g_len, reduceCtorEq, a2, len_sl, a3, ↓w_ret, ret_one, onS_some, b_eql, e, if_true, onB_false]
  · refine ⟨_, rfl, by omega, fun j hj => by omega, ?_, ?_, ?_, ?_, ?_⟩ <;> simp -implicitDefEqProofs only [ne_eq, reduceCtorEq, not_false_eq_true, upd_ne, par0, Nat.reduceEqDiff, par1, upd_eq, Int.cast_ofNat_Int] <;> rfl
theorem shaIno {H : AHeap} {r off n : Nat} {l : List Int} {own : Bool} (z : ByteArray) (hH : H[r]? = some ⟨ints .i64 l, own, true⟩) (hm : off + n ≤ l.length) (hl : l.length ≤ 1000000000) (hno : ¬ ((OkW l off n ∧ (n : Int) = 8) ∧ (z.size : Int) = 64)) : ∃ (q : Nat) (Z : AHeap), Sound Try.prog 12 [.sl r off n 1, .sc (.string z)] H (.sl q 0 n 1) Z ∧ Ext H Z ∧ H.length ≤ q ∧ Z[q]? = some ⟨ints .i64 ((l.drop off).take n), true, true⟩ := by
  suffices h : ∃ v Z, Sound Try.prog 12 [.sl r off n 1, .sc (.string z)] H v Z ∧ ∃ q, v = .sl q 0 n 1 ∧ Ext H Z ∧ H.length ≤ q ∧ Z[q]? = some ⟨ints .i64 ((l.drop off).take n), true, true⟩ by
    obtain ⟨v, Z, h1, q, rfl, h2⟩ := h
    exact ⟨q, Z, h1, h2⟩
  refine Sound.runP (args := [.sl r off n 1, .sc (.string z)]) 154 [.tmp 4] Try.func12 rfl rfl rfl rfl (by simp) (fun v Z => ∃ q, v = .sl q 0 n 1 ∧ Ext H Z ∧ H.length ≤ q ∧ Z[q]? = some ⟨ints .i64 ((l.drop off).take n), true, true⟩) ?_
  have hr := fun Y => (Ext.more H Y).at hH
  have hlen : ((l.drop off).take n).length = n := by rw [List.length_take, List.length_drop]; omega
  have k1 : n * 8 ≤ 140737488355328 := by omega
  have k2 : n ≤ 140737488355328 := by omega
  simp -implicitDefEqProofs only [↓w_seq, ↓w_region, ↓ops_cons, ↓g_assign, ↓ops_nil, ev_const, ↓g_buildSlice, Try.underlying26, List.map_nil, bs3_0, ↓g_move, ↓g_append, Nat.reduceLT, ev_tab, ne_eq, reduceCtorEq, not_false_eq_true, upd_ne, par0, Nat.reduceEqDiff, upd_eq, alK_some, ints_one, apS26, hap_0, List.getElem?_cons_zero, src_sl, hr, at_ints, hm, if_true, ap_ints, List.length_nil, Nat.le_refl, hlen, Nat.zero_add, k1, k2, and_self, List.length_append, List.length_cons, hkill_0, kill_0, List.take_zero, List.nil_append, List.append_assoc, List.cons_append, onS_some, true_and]
  by_cases c : OkW l off n ∧ (n : Int) = 8
  · have hA := fun Y => areV (H := H ++ Y) 8 true ⟨fun _ => c, fun _ => rfl⟩ (hr Y) hm (by omega)
    have c2 : ¬ (z.size : Int) = 64 := fun q => hno ⟨c, q⟩
    refine call1S (by simp -implicitDefEqProofs only [List.map_cons, Nat.reduceLT, ev_tab, upd_eq, ev_const, of_int, List.map_nil] <;> rfl) (hA _) ?_
    simp -implicitDefEqProofs only [↓ops_cons, ↓g_unOp, Nat.reduceLT, ev_tab, upd_eq, u_not, Bool.not_true, Option.map_some, ↓g_move, onS_some, yielded_tab, dstAt_s, dstAt_0, ybv_some, boolOf_b, ↓g_guard_t, ne_eq, Nat.reduceEqDiff, not_false_eq_true, upd_ne, par1, ↓g_len, Try.underlying9, len_str, ↓g_binOp, ev_const, of_int, ↓g_pick, of_bool, pick_b, reduceCtorEq, if_false, ↓ops_nil, ↓w_cond, ↓w_seq, ↓w_region, ↓g_assign, ↓w_ret, retP_1, res_tmp, ↓w_skip, b_neq, c2, decide_false, Bool.not_false, onB_true]
    exact ⟨_, rfl, Ext.more _ _, by omega, hap_k _ _ 1⟩
  · have hA := fun Y => areV (H := H ++ Y) 8 false ⟨fun q => Bool.noConfusion q, fun q => absurd q c⟩ (hr Y) hm (by omega)
    refine call1S (by simp -implicitDefEqProofs only [List.map_cons, Nat.reduceLT, ev_tab, upd_eq, ev_const, of_int, List.map_nil] <;> rfl) (hA _) ?_
    simp -implicitDefEqProofs only [↓ops_cons, ↓g_unOp, Nat.reduceLT, ev_tab, upd_eq, u_not, Bool.not_false, Option.map_some, ↓g_move, onS_some, yielded_tab, dstAt_s, dstAt_0, ybv_some, boolOf_b, ↓g_guard_f, ne_eq, Nat.reduceEqDiff, not_false_eq_true, upd_ne, ↓g_pick, ev_const, of_bool, pick_b, if_true, ↓ops_nil, ↓w_cond, ↓w_seq, ↓w_region, ↓g_assign, ↓w_ret, retP_1, res_tmp, ↓w_skip, onB_true]
    exact ⟨_, rfl, Ext.more _ _, by omega, hap_k _ _ 1⟩
theorem u_wi (x : Wo) : IntKind.u32.wrap (wi x) = wi x := by rw [IntKind.wrap_u32]; exact mask_one x
theorem i_wi (x : Wo) : IntKind.i64.wrap (wi x) = wi x := w64 (by have := wi_0 x; omega) (by have := wi_lt x; omega)
theorem shaSno {H : AHeap} {r off n : Nat} {l : List Int} {own : Bool} (z : ByteArray) (hH : H[r]? = some ⟨ints .i64 l, own, true⟩) (hm : off + n ≤ l.length) (hl : l.length ≤ 1000000000) (hno : ¬ ((OkW l off n ∧ (n : Int) = 8) ∧ (z.size : Int) = 64)) : ∃ (q : Nat) (Z : AHeap), Sound Try.prog 18 [.sl r off n 1, .sc (.string z)] H (.sl q 0 n 1) Z ∧ Ext H Z ∧ H.length ≤ q ∧ Z[q]? = some ⟨ints .i64 ((l.drop off).take n), true, true⟩ := by
  suffices h : ∃ v Z, Sound Try.prog 18 [.sl r off n 1, .sc (.string z)] H v Z ∧ ∃ q, v = .sl q 0 n 1 ∧ Ext H Z ∧ H.length ≤ q ∧ Z[q]? = some ⟨ints .i64 ((l.drop off).take n), true, true⟩ by
    obtain ⟨v, Z, h1, q, rfl, h2⟩ := h
    exact ⟨q, Z, h1, h2⟩
  refine Sound.runP (args := [.sl r off n 1, .sc (.string z)]) 56 [.tmp 4] Try.func18 rfl rfl rfl rfl (by simp) (fun v Z => ∃ q, v = .sl q 0 n 1 ∧ Ext H Z ∧ H.length ≤ q ∧ Z[q]? = some ⟨ints .i64 ((l.drop off).take n), true, true⟩) ?_
  have hr := fun Y => (Ext.more H Y).at hH
  have hlen : ((l.drop off).take n).length = n := by rw [List.length_take, List.length_drop]; omega
  have k1 : n * 8 ≤ 140737488355328 := by omega
  have k2 : n ≤ 140737488355328 := by omega
  by_cases c0 : (n : Int) = 8
  · by_cases c2 : (z.size : Int) = 64
    · have hn8 : n = 8 := by omega
      subst hn8
      simp -implicitDefEqProofs only [↓w_seq, ↓w_region, ↓ops_cons, ↓g_assign, ↓ops_nil, ev_const, ↓g_buildSlice, Try.underlying26, List.map_nil, bs3_0, ↓g_move, ↓g_append, Nat.reduceLT, ev_tab, ne_eq, reduceCtorEq, not_false_eq_true, upd_ne, par0, Nat.reduceEqDiff, upd_eq, ↓g_len, len_sl, Int.cast_ofNat_Int, ↓g_binOp, of_int, onS_some, b_neq, decide_true, Bool.not_true, yielded_tab, dstAt_s, dstAt_0, ybv_some, boolOf_b, ↓g_guard_t, par1, Try.underlying9, len_str, c2, ↓g_pick, of_bool, pick_b, if_false, ↓w_cond, ↓w_ret, retP_1, res_tmp, ↓w_skip, ↓g_buildV, bz86, ↓g_alloc, zero86, Option.map_some, ↓g_store, ↓w_block, alK_some, ints_one, wr_def, tyOk86, cells86, hap_0, List.getElem?_cons_zero, true_and, List.length_replicate, wrA, hset_0, List.set_cons_zero, onB_false, apS26, src_sl, hr, at_ints, hm, if_true, ap_ints, List.length_nil, Nat.le_refl, hlen, Nat.zero_add, Nat.reduceMul, k1, k2, and_self, List.length_append, List.length_cons, hkill_0, kill_0, List.take_zero, List.nil_append, List.append_assoc, List.cons_append, Nat.reduceAdd]
      refine w_loop (ι := Nat) (fun i st => ∃ (T : Nat → AV) (A : List Int), st = ⟨tab 56 T, H ++ [⟨ints .i64 [], true, false⟩, ⟨ints .i64 ((l.drop off).take 8), true, true⟩, ⟨ints .u32 A, true, true⟩]⟩ ∧ i ≤ 8 ∧ A.length = 8 ∧ (∀ j, j < i → 0 ≤ l.getD (off + j) 0 ∧ l.getD (off + j) 0 ≤ 4294967295) ∧ T 0 = .sl r off 8 1 ∧ T 5 = .sl (H.length + 1) 0 8 1 ∧ T 6 = .ptr (H.length + 2) 0 ∧ T 7 = .sc (.int .i64 i)) (fun i => 8 - i) ?_ (i := 0) ?_
      · rintro i st ⟨T, A, rfl, a1, al, ao, t0, t5, t6, t7⟩
        by_cases h : i < 8
        · have m1 : (i : Int) < 8 := by omega
          have m2 : (0 : Int) ≤ i := by omega
          have m3 : off + i < l.length := by omega
          have e1 : IntKind.i64.wrap ((i : Int) + 1) = i + 1 := w64 (by omega) (by omega)
          by_cases c : 0 ≤ l.getD (off + i) 0 ∧ l.getD (off + i) 0 ≤ 4294967295
          · have e2 := decide_eq_true c
            simp -implicitDefEqProofs only [↓w_seq, ↓w_region, ↓ops_cons, ↓g_move, ↓g_binOp, Nat.reduceLT, ev_tab, t7, upd_eq, ev_const, of_int, b_lss, m1, decide_true, ↓ops_nil, ↓w_cond, ↓w_skip, ↓w_block, ↓g_indexAddr, Try.underlying26, ne_eq, reduceCtorEq, not_false_eq_true, upd_ne, t0, Nat.reduceEqDiff, adr_sl, m2, Int.cast_ofNat_Int, cells3, tyOk3, and_self, Int.toNat_natCast, Nat.mul_one, if_true, ↓g_load, onS_some, rd_def, agg3, hr, rd_ints, m3, ↓w_exit, onB_true]
            refine call1 (by simp -implicitDefEqProofs only [List.map_cons, Nat.reduceLT, ev_tab, upd_eq, ev_const, of_int, List.map_nil] <;> rfl) (inS _ 0 4294967295) ?_
            simp -implicitDefEqProofs only [↓ops_cons, ↓g_unOp, e2, Nat.reduceLT, ev_tab, upd_eq, u_not, Bool.not_true, Option.map_some, ↓ops_nil, ↓w_cond, ↓w_seq, ↓w_region, ↓g_move, ↓g_assign, ↓w_ret, ne_eq, Nat.reduceEqDiff, not_false_eq_true, upd_ne, retP_1, res_tmp, onS_some, ↓w_skip, ↓g_indexAddr, Try.underlying26, t7, reduceCtorEq, t0, adr_sl, m2, Int.cast_ofNat_Int, m1, cells3, tyOk3, and_self, Int.toNat_natCast, Nat.mul_one, if_true, ↓g_load, ↓g_convert, Try.underlying3, Try.underlying85, Try.underlying86, t6, adr_arr, tyOk85, cells85, Nat.zero_add, ↓g_store, ↓g_binOp, ev_const, of_int, b_add, e1, wr_def, rd_def, agg3, hr, rd_ints, m3, c_int, hap_k, List.getElem?_cons_succ, List.getElem?_cons_zero, wr_ints, al, h, hset_k, List.set_cons_succ, List.set_cons_zero, onB_false]
            refine ⟨i + 1, by omega, _, _, rfl, by omega, by rw [List.length_set, al], fun j hj => ?_, ?_, ?_, ?_, ?_⟩
            · rcases Nat.lt_or_ge j i with q | q
              · exact ao j q
              · rw [show j = i by omega]; exact c
            all_goals (simp -implicitDefEqProofs only [ne_eq, reduceCtorEq, not_false_eq_true, upd_ne, t0, Nat.reduceEqDiff, t5, t6, upd_eq] <;> rfl)
          · have e2 := decide_eq_false c
            simp -implicitDefEqProofs only [↓w_seq, ↓w_region, ↓ops_cons, ↓g_move, ↓g_binOp, Nat.reduceLT, ev_tab, t7, upd_eq, ev_const, of_int, b_lss, m1, decide_true, ↓ops_nil, ↓w_cond, ↓w_skip, ↓w_block, ↓g_indexAddr, Try.underlying26, ne_eq, reduceCtorEq, not_false_eq_true, upd_ne, t0, Nat.reduceEqDiff, adr_sl, m2, Int.cast_ofNat_Int, cells3, tyOk3, and_self, Int.toNat_natCast, Nat.mul_one, if_true, ↓g_load, onS_some, rd_def, agg3, hr, rd_ints, m3, ↓w_exit, onB_true]
            refine call1 (by simp -implicitDefEqProofs only [List.map_cons, Nat.reduceLT, ev_tab, upd_eq, ev_const, of_int, List.map_nil] <;> rfl) (inS _ 0 4294967295) ?_
            simp -implicitDefEqProofs only [↓ops_cons, ↓g_unOp, e2, Nat.reduceLT, ev_tab, upd_eq, u_not, Bool.not_false, Option.map_some, ↓ops_nil, ↓w_cond, ↓w_seq, ↓w_region, ↓g_move, ↓g_assign, ↓w_ret, ne_eq, Nat.reduceEqDiff, not_false_eq_true, upd_ne, t5, retP_1, res_tmp, onS_some, ↓w_skip, ↓g_indexAddr, Try.underlying26, reduceCtorEq, ↓g_load, ↓g_convert, Try.underlying3, Try.underlying85, Try.underlying86, ↓g_store, ↓g_binOp, ev_const, of_int, onB_true]
            exact ⟨_, rfl, Ext.more _ _, by omega, hap_k _ _ 1⟩
        · have hi : i = 8 := by omega
          subst hi
          exact absurd ⟨⟨ao, c0⟩, c2⟩ hno
      · refine ⟨_, _, rfl, by omega, List.length_replicate .., fun j hj => by omega, ?_, ?_, ?_, ?_⟩ <;> simp -implicitDefEqProofs only [ne_eq, reduceCtorEq, not_false_eq_true, upd_ne, par0, Nat.reduceEqDiff, upd_eq, Int.cast_ofNat_Int] <;> rfl
    · simp -implicitDefEqProofs only [↓w_seq, ↓w_region, ↓ops_cons, ↓g_assign, ↓ops_nil, ev_const, ↓g_buildSlice, Try.underlying26, List.map_nil, bs3_0, ↓g_move, ↓g_append, Nat.reduceLT, ev_tab, ne_eq, reduceCtorEq, not_false_eq_true, upd_ne, par0, Nat.reduceEqDiff, upd_eq, ↓g_len, len_sl, c0, ↓g_binOp, of_int, onS_some, b_neq, decide_true, Bool.not_true, yielded_tab, dstAt_s, dstAt_0, ybv_some, boolOf_b, ↓g_guard_t, par1, Try.underlying9, len_str, ↓g_pick, of_bool, pick_b, if_false, ↓w_cond, ↓w_ret, retP_1, res_tmp, ↓w_skip, ↓g_buildV, bz86, ↓g_alloc, zero86, Option.map_some, ↓g_store, ↓w_block, alK_some, ints_one, wr_def, tyOk86, cells86, hap_0, List.getElem?_cons_zero, true_and, List.length_replicate, wrA, hset_0, List.set_cons_zero, c2, decide_false, Bool.not_false, onB_true, apS26, src_sl, hr, at_ints, hm, if_true, ap_ints, List.length_nil, Nat.le_refl, hlen, Nat.zero_add, k1, k2, and_self, List.length_append, List.length_cons, hkill_0, kill_0, List.take_zero, List.nil_append, List.append_assoc, List.cons_append]
      exact ⟨_, rfl, Ext.more _ _, by omega, hap_k _ _ 1⟩
  · simp -implicitDefEqProofs only [↓w_seq, ↓w_region, ↓ops_cons, ↓g_assign, ↓ops_nil, ev_const, ↓g_buildSlice, Try.underlying26, List.map_nil, bs3_0, ↓g_move, ↓g_append, Nat.reduceLT, ev_tab, ne_eq, reduceCtorEq, not_false_eq_true, upd_ne, par0, Nat.reduceEqDiff, upd_eq, ↓g_len, len_sl, ↓g_binOp, of_int, onS_some, b_neq, c0, decide_false, Bool.not_false, yielded_tab, dstAt_s, dstAt_0, ybv_some, boolOf_b, ↓g_guard_f, ↓g_pick, of_bool, pick_b, if_true, ↓w_cond, ↓w_ret, retP_1, res_tmp, ↓w_skip, ↓g_buildV, bz86, ↓g_alloc, zero86, Option.map_some, ↓g_store, ↓w_block, alK_some, ints_one, wr_def, tyOk86, cells86, hap_0, List.getElem?_cons_zero, true_and, List.length_replicate, wrA, hset_0, List.set_cons_zero, onB_true, apS26, src_sl, hr, at_ints, hm, ap_ints, List.length_nil, Nat.le_refl, hlen, Nat.zero_add, k1, k2, and_self, List.length_append, List.length_cons, hkill_0, kill_0, List.take_zero, List.nil_append, List.append_assoc, List.cons_append]
    exact ⟨_, rfl, Ext.more _ _, by omega, hap_k _ _ 1⟩
theorem shaSok {H : AHeap} {r : Nat} {s : S8} {own : Bool} (z : ByteArray) (hH : H[r]? = some ⟨ints .i64 (wis s.l), own, true⟩) (hz : z.size = 64) : ∃ (q : Nat) (Z : AHeap), Sound Try.prog 18 [.sl r 0 8 1, .sc (.string z)] H (.sl q 0 8 1) Z ∧ Ext H Z ∧ H.length ≤ q ∧ Z[q]? = some ⟨ints .i64 (wis (blk s z).l), true, true⟩ := by
  suffices h : ∃ v Z, Sound Try.prog 18 [.sl r 0 8 1, .sc (.string z)] H v Z ∧ ∃ q, v = .sl q 0 8 1 ∧ Ext H Z ∧ H.length ≤ q ∧ Z[q]? = some ⟨ints .i64 (wis (blk s z).l), true, true⟩ by
    obtain ⟨v, Z, h1, q, rfl, h2⟩ := h
    exact ⟨q, Z, h1, h2⟩
  refine Sound.runP (args := [.sl r 0 8 1, .sc (.string z)]) 56 [.tmp 4] Try.func18 rfl rfl rfl rfl (by simp) (fun v Z => ∃ q, v = .sl q 0 8 1 ∧ Ext H Z ∧ H.length ≤ q ∧ Z[q]? = some ⟨ints .i64 (wis (blk s z).l), true, true⟩) ?_
  have hr := fun Y => (Ext.more H Y).at hH
  have hlen : (wis s.l).length = 8 := rfl
  have htk : (wis s.l).take 8 = wis s.l := List.take_of_length_le (Nat.le_of_eq hlen)
  have c2 : (z.size : Int) = 64 := by omega
  simp -implicitDefEqProofs only [↓w_seq, ↓w_region, ↓ops_cons, ↓g_assign, ↓ops_nil, ev_const, ↓g_buildSlice, Try.underlying26, List.map_nil, bs3_0, ↓g_move, ↓g_append, Nat.reduceLT, ev_tab, ne_eq, reduceCtorEq, not_false_eq_true, upd_ne, par0, Nat.reduceEqDiff, upd_eq, ↓g_len, len_sl, Int.cast_ofNat_Int, ↓g_binOp, of_int, onS_some, b_neq, decide_true, Bool.not_true, yielded_tab, dstAt_s, dstAt_0, ybv_some, boolOf_b, ↓g_guard_t, par1, Try.underlying9, len_str, c2, ↓g_pick, of_bool, pick_b, if_false, ↓w_cond, ↓w_ret, retP_1, res_tmp, ↓w_skip, ↓g_buildV, bz86, ↓g_alloc, zero86, Option.map_some, ↓g_store, ↓w_block, alK_some, ints_one, wr_def, tyOk86, cells86, hap_0, List.getElem?_cons_zero, true_and, List.length_replicate, wrA, hset_0, List.set_cons_zero, onB_false, apS26, src_sl, hr, at_ints, Nat.zero_add, hlen, Nat.le_refl, List.drop_zero, htk, if_true, ap_ints, List.length_nil, Nat.reduceMul, Nat.reduceLeDiff, and_self, List.length_append, List.length_cons, hkill_0, kill_0, List.take_zero, List.nil_append, List.append_assoc, List.cons_append, Nat.reduceAdd]
  have hm0 : List.replicate 8 (0 : Int) = wis (mix (List.replicate 8 0) s.l 0) := by rw [wis_rep]; rfl
  refine w_loop (ι := Nat) (fun i st => ∃ (T : Nat → AV), st = ⟨tab 56 T, H ++ [⟨ints .i64 [], true, false⟩, ⟨ints .i64 (wis s.l), true, true⟩, ⟨ints .u32 (wis (mix (List.replicate 8 0) s.l i)), true, true⟩]⟩ ∧ i ≤ 8 ∧ T 0 = .sl r 0 8 1 ∧ T 1 = .sc (.string z) ∧ T 5 = .sl (H.length + 1) 0 8 1 ∧ T 6 = .ptr (H.length + 2) 0 ∧ T 7 = .sc (.int .i64 i)) (fun i => 8 - i) ?_ (i := 0) ?_
  · rintro i st ⟨T, rfl, a1, t0, t1, t5, t6, t7⟩
    have sl8 : s.l.length = 8 := rfl
    by_cases h : i < 8
    · have m1 : (i : Int) < 8 := by omega
      have m2 : (0 : Int) ≤ i := by omega
      have e1 : IntKind.i64.wrap ((i : Int) + 1) = i + 1 := w64 (by omega) (by omega)
      have ml : (mix (List.replicate 8 (0 : Wo)) s.l i).length = 8 := mix_len _ _ _ (by rw [sl8]; rfl)
      have ms := mix_set (List.replicate 8 (0 : Wo)) s.l i (by rw [sl8]; rfl) (by rw [sl8]; exact h)
      have e2 : decide (0 ≤ wi (s.l.getD i 0) ∧ wi (s.l.getD i 0) ≤ 4294967295) = true := decide_eq_true ⟨wi_0 _, by have := wi_lt (s.l.getD i 0); omega⟩
      simp -implicitDefEqProofs only [↓w_seq, ↓w_region, ↓ops_cons, ↓g_move, ↓g_binOp, Nat.reduceLT, ev_tab, t7, upd_eq, ev_const, of_int, b_lss, m1, decide_true, ↓ops_nil, ↓w_cond, ↓w_skip, ↓w_block, ↓g_indexAddr, Try.underlying26, ne_eq, reduceCtorEq, not_false_eq_true, upd_ne, t0, Nat.reduceEqDiff, adr_sl, m2, Int.cast_ofNat_Int, cells3, tyOk3, and_self, Int.toNat_natCast, Nat.mul_one, Nat.zero_add, if_true, ↓g_load, onS_some, rd_def, agg3, hr, rd_ints, wis_len, sl8, h, wis_get, ↓w_exit, onB_true]
      refine call1 (by simp -implicitDefEqProofs only [List.map_cons, Nat.reduceLT, ev_tab, upd_eq, ev_const, of_int, List.map_nil] <;> rfl) (inS _ 0 4294967295) ?_
      simp -implicitDefEqProofs only [↓ops_cons, ↓g_unOp, e2, Nat.reduceLT, ev_tab, upd_eq, u_not, Bool.not_true, Option.map_some, ↓ops_nil, ↓w_cond, ↓w_seq, ↓w_region, ↓g_move, ↓g_assign, ↓w_ret, ne_eq, Nat.reduceEqDiff, not_false_eq_true, upd_ne, retP_1, res_tmp, onS_some, ↓w_skip, ↓g_indexAddr, Try.underlying26, t7, reduceCtorEq, t0, adr_sl, m2, Int.cast_ofNat_Int, m1, cells3, tyOk3, and_self, Int.toNat_natCast, Nat.mul_one, Nat.zero_add, if_true, ↓g_load, ↓g_convert, Try.underlying3, Try.underlying85, Try.underlying86, t6, adr_arr, tyOk85, cells85, ↓g_store, ↓g_binOp, ev_const, of_int, b_add, e1, wr_def, rd_def, agg3, hr, rd_ints, wis_len, sl8, h, wis_get, c_int, hap_k, List.getElem?_cons_succ, List.getElem?_cons_zero, u_wi, wr_ints, ml, wis_set, ms, hset_k, List.set_cons_succ, List.set_cons_zero, onB_false]
      refine ⟨i + 1, by omega, _, rfl, by omega, ?_, ?_, ?_, ?_, ?_⟩ <;> simp -implicitDefEqProofs only [ne_eq, reduceCtorEq, not_false_eq_true, upd_ne, t0, Nat.reduceEqDiff, t1, t5, t6, upd_eq] <;> rfl
    · have m1 : ¬ (i : Int) < 8 := by omega
      have hi : i = 8 := by omega
      subst hi
      have hmx : mix (List.replicate 8 (0 : Wo)) s.l 8 = s.l := by
        rw [mix, List.drop_of_length_le (by simp), List.append_nil, List.take_of_length_le (by rw [sl8]; exact Nat.le_refl _)]
      rw [hmx]
      simp -implicitDefEqProofs only [↓w_seq, ↓w_region, Nat.reduceSub, ↓ops_cons, ↓g_move, ↓g_binOp, Nat.reduceLT, ev_tab, t7, Int.cast_ofNat_Int, upd_eq, ev_const, of_int, b_lss, Int.reduceLT, decide_false, ↓ops_nil, ↓w_cond, ↓w_skip, ↓w_block, ↓g_indexAddr, Try.underlying26, ne_eq, reduceCtorEq, not_false_eq_true, upd_ne, t0, Nat.reduceEqDiff, adr_sl, Int.reduceLE, cells3, tyOk3, and_self, and_true, and_false, Int.reduceToNat, Nat.mul_one, Nat.zero_add, if_false, ↓g_load, ↓w_exit, if_true, onS_some, onB_false]
      refine drawn [(0, 0), (0, 3)] follows (by kernel_rfl) (by kernel_rfl) ?_
      simp -implicitDefEqProofs only [↓dops_cons, ↓g_load, Nat.reduceLT, ev_tab, ne_eq, Nat.reduceEqDiff, not_false_eq_true, upd_ne, t6, rd_def, tyOk86, agg86, cells86, hap_k, List.getElem?_cons_succ, List.getElem?_cons_zero, wis_len, sl8, rdA, ↓g_move, t1, onS_some]
      refine call1 (by simp -implicitDefEqProofs only [List.map_nil] <;> rfl) keysS ?_
      simp -implicitDefEqProofs only [↓dops_cons]
      refine call1 (by simp -implicitDefEqProofs only [List.map_cons, Nat.reduceLT, ev_tab, ne_eq, Nat.reduceEqDiff, not_false_eq_true, upd_ne, upd_eq, List.map_nil] <;> rfl) (blockS s z hz) ?_
      simp -implicitDefEqProofs only [↓dops_cons, ↓g_store, Nat.reduceLT, ev_tab, ne_eq, Nat.reduceEqDiff, not_false_eq_true, upd_ne, t6, upd_eq, wr_def, tyOk86, cells86, hap_k, List.getElem?_cons_succ, List.getElem?_cons_zero, ↓dops_p, ↓w_seq, ↓w_region, ↓ops_cons, ↓g_assign, ↓ops_nil, ↓w_block, ev_const, of_int]
      refine ⟨pairs_cons (same_H rfl) (pairs_cons (same_H rfl) (pairs_nil)), ?_⟩
      have bl8 : (blk s z).l.length = 8 := rfl
      generalize (blk s z).l = K at *
      simp -implicitDefEqProofs only [cells_agg, hset_k, List.set_cons_succ, List.set_cons_zero]
      refine w_loop (ι := Nat) (fun i st => ∃ (T : Nat → AV), st = ⟨tab 56 T, H ++ [⟨ints .i64 [], true, false⟩, ⟨ints .i64 (wis (mix s.l K i)), true, true⟩, ⟨ints .u32 (wis K), true, true⟩]⟩ ∧ i ≤ 8 ∧ T 5 = .sl (H.length + 1) 0 8 1 ∧ T 6 = .ptr (H.length + 2) 0 ∧ T 8 = .sc (.int .i64 i)) (fun i => 8 - i) ?_ (i := 0) ?_
      · rintro i st ⟨T, rfl, a1, t5, t6, t8⟩
        by_cases h : i < 8
        · have m1 : (i : Int) < 8 := by omega
          have m2 : (0 : Int) ≤ i := by omega
          have e1 : IntKind.i64.wrap ((i : Int) + 1) = i + 1 := w64 (by omega) (by omega)
          have ml : (mix s.l K i).length = 8 := by rw [mix_len _ _ _ (by rw [sl8, bl8]), bl8]
          have ms := mix_set s.l K i (by rw [sl8, bl8]) (by rw [bl8]; exact h)
          simp -implicitDefEqProofs only [↓w_seq, ↓w_region, ↓ops_cons, ↓g_move, ↓g_binOp, Nat.reduceLT, ev_tab, t8, upd_eq, ev_const, of_int, b_lss, m1, decide_true, ↓ops_nil, ↓w_cond, ↓w_skip, ↓w_block, ↓g_indexAddr, Try.underlying86, ne_eq, Nat.reduceEqDiff, not_false_eq_true, upd_ne, t5, t6, adr_arr, m2, Int.cast_ofNat_Int, tyOk85, and_self, Int.toNat_natCast, cells85, Nat.mul_one, Nat.zero_add, if_true, ↓g_load, ↓g_convert, Try.underlying85, Try.underlying3, Try.underlying26, adr_sl, cells3, tyOk3, ↓g_store, b_add, e1, ↓g_assign, onS_some, wr_def, rd_def, agg85, hap_k, List.getElem?_cons_succ, List.getElem?_cons_zero, rd_ints, wis_len, bl8, h, wis_get, c_int, i_wi, wr_ints, ml, wis_set, ms, hset_k, List.set_cons_succ, List.set_cons_zero, ↓w_exit, ↓w_ret, retP_1, res_tmp, onB_true]
          refine ⟨i + 1, by omega, _, rfl, by omega, ?_, ?_, ?_⟩ <;> simp -implicitDefEqProofs only [ne_eq, Nat.reduceEqDiff, not_false_eq_true, upd_ne, t5, t6, upd_eq] <;> rfl
        · have m1 : ¬ (i : Int) < 8 := by omega
          have hi : i = 8 := by omega
          subst hi
          have hmx : mix s.l K 8 = K := by
            rw [mix, List.drop_of_length_le (by rw [sl8]; exact Nat.le_refl _), List.append_nil, List.take_of_length_le (by rw [bl8]; exact Nat.le_refl _)]
          rw [hmx]
          simp -implicitDefEqProofs only [↓w_seq, ↓w_region, Nat.reduceSub, ↓ops_cons, ↓g_move, ↓g_binOp, Nat.reduceLT, ev_tab, t8, Int.cast_ofNat_Int, upd_eq, ev_const, of_int, b_lss, Int.reduceLT, decide_false, ↓ops_nil, ↓w_cond, ↓w_skip, ↓w_block, ↓g_indexAddr, Try.underlying86, ne_eq, Nat.reduceEqDiff, not_false_eq_true, upd_ne, t5, ↓g_load, ↓g_convert, Try.underlying85, Try.underlying3, Try.underlying26, adr_sl, Int.reduceLE, cells3, tyOk3, and_self, and_true, and_false, Int.reduceToNat, Nat.mul_one, Nat.zero_add, if_false, ↓g_store, b_add, Int.reduceAdd, ↓g_assign, onS_some, ↓w_exit, ↓w_ret, retP_1, res_tmp, if_true, onB_false]
          exact ⟨_, rfl, Ext.more _ _, by omega, hap_k _ _ 1⟩
      · have ho : overA (ints .u32 (wis s.l)) 0 (ints .u32 (wis K)) = ints .u32 (wis K) := over_all _ _ (by rw [ints_len, ints_len, wis_len, wis_len, bl8, sl8])
        have hmx : mix s.l K 0 = s.l := by simp [mix]
        refine ⟨_, by rw [ho, hmx], by omega, ?_, ?_, ?_⟩ <;> simp -implicitDefEqProofs only [ne_eq, Nat.reduceEqDiff, not_false_eq_true, upd_ne, t5, t6, upd_eq, Int.cast_ofNat_Int] <;> rfl
  · refine ⟨_, by rw [hm0], by omega, ?_, ?_, ?_, ?_, ?_⟩ <;> simp -implicitDefEqProofs only [ne_eq, reduceCtorEq, not_false_eq_true, upd_ne, par0, Nat.reduceEqDiff, par1, upd_eq, Int.cast_ofNat_Int] <;> rfl
end Go.Proofs.Ytknmbiebnpojjaa.Sim

