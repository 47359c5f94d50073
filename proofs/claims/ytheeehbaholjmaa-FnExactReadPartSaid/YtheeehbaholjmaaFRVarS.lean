/- A number read, as the reference reads it. -/
import Derived.Test.YtheeehbaholjmaaFRVar
namespace Go.Proofs.Ytheeehbaholjmaa.Sim
open Go
set_option maxRecDepth 100000
set_option maxHeartbeats 4000000
set_option linter.unusedSimpArgs false
set_option linter.unusedVariables false
def vl : List Nat → Nat
  | [] => 0
  | b :: l => b % 128 + 128 * vl l
theorem vl_app (c : Nat) : ∀ l : List Nat, vl (l ++ [c]) = vl l + c % 128 * 128 ^ l.length
  | [] => by simp [vl]
  | b :: l => by
    simp only [List.cons_append, vl, vl_app c l, List.length_cons, Nat.pow_succ, Nat.mul_add]
    rw [Nat.mul_comm (128 ^ l.length) 128, ← Nat.mul_assoc, ← Nat.mul_assoc, Nat.mul_comm 128 (c % 128)]
    omega
theorem vl_pos (c : Nat) (hc : 0 < c % 128) : ∀ l : List Nat, 1 ≤ vl (l ++ [c])
  | [] => by simp [vl]; omega
  | b :: l => by
    have := vl_pos c hc l
    simp only [List.cons_append, vl]
    omega
theorem vl_lt : ∀ l : List Nat, vl l < 128 ^ l.length
  | [] => by simp [vl]
  | b :: l => by
    have := vl_lt l
    simp only [vl, List.length_cons, Nat.pow_succ]
    omega
def ci (l : List Nat) : List Int := l.map fun b : Nat => (b : Int)
theorem varN_good (c : Nat) (hc : c < 128) : ∀ P : List Nat, (∀ b ∈ P, 128 ≤ b ∧ b < 256) → (c ≠ 0 ∨ P = []) → varN (vl (P ++ [c])) = ci (P ++ [c])
  | [], _, _ => by
    simp only [List.nil_append, vl]
    rw [varN_small (by omega)]
    simp [ci]
    omega
  | b :: P, h, h0 => by
    have hc0 : c ≠ 0 := by
      rcases h0 with h0 | h0
      · exact h0
      · cases h0
    have hp := vl_pos c (by omega) P
    have hb := h b (by simp)
    have ih := varN_good c hc P (fun x hx => h x (by simp [hx])) (.inl hc0)
    simp only [List.cons_append, vl]
    rw [varN_big (by omega)]
    have e1 : (b % 128 + 128 * vl (P ++ [c])) % 128 + 128 = b := by omega
    have e2 : (b % 128 + 128 * vl (P ++ [c])) / 128 = vl (P ++ [c]) := by omega
    rw [e1, e2, ih]
    rfl
theorem varN_bad (P : List Nat) (hP : P ≠ []) : varN (vl (P ++ [0])) ≠ ci (P ++ [0]) := by
  intro h
  have hl : (varN (vl (P ++ [0]))).length = P.length + 1 := by rw [h]; simp [ci]
  obtain ⟨k, hk⟩ : ∃ k, P.length = k + 1 := ⟨P.length - 1, by have := List.length_pos_iff.2 hP; omega⟩
  have hv : vl (P ++ [0]) < 128 ^ (k + 1) := by
    rw [vl_app, ← hk]
    have := vl_lt P
    omega
  have := varN_len k _ hv
  omega
theorem varN_range (n : Nat) : ∀ x ∈ varN n, 0 ≤ x ∧ x < 256 := by
  induction n using Nat.strongRecOn with
  | _ n ih =>
    intro x hx
    by_cases h : 127 < n
    · rw [varN_big h] at hx
      rcases List.mem_cons.1 hx with rfl | hx
      · omega
      · exact ih (n / 128) (by omega) x hx
    · rw [varN_small h] at hx
      simp at hx
      omega
theorem ext_ci (z : ByteArray) (a i : Nat) (P : List Nat) (c : Nat) (hP : ((nums z).drop a).take i = ci P) (hl : P.length = i) (hin : a + i < z.size) (hc : byteAt z (a + i) = (c : Int)) : ((nums z).drop a).take (i + 1) = ci (P ++ [c]) := by
  have h : i < ((nums z).drop a).length := by rw [List.length_drop, nums_len]; omega
  rw [List.take_add_one, hP, List.getElem?_eq_getElem h]
  have e : ((nums z).drop a)[i] = byteAt z (a + i) := by
    rw [byteAt_nums, List.getElem_drop, List.getD_eq_getElem?_getD, List.getElem?_eq_getElem (by rw [nums_len]; omega)]
    rfl
  rw [e, hc]
  simp [ci]
theorem ext_nums (z : ByteArray) (a k : Nat) : nums (z.extract a (a + k)) = ((nums z).drop a).take k := by
  rw [nums_extract, List.drop_take, Nat.add_sub_cancel_left]
theorem rvS (z : ByteArray) (a : Nat) (ha : a ≤ z.size) (hz : z.size ≤ 1000000000) : Fn Try.prog 65 [.sc (.string z), .sc (.int .i64 a)] (rvV (rdv z a 5 0 0)) := by
  refine Fn.run 58 [.tmp 4, .tmp 5, .tmp 6] Try.func65 rfl rfl rfl rfl (by simp) (flats_cons (.sc _) (flats_cons (.sc _) flats_nil)) (rvV_flat _) ?_
  generalize hR : rdv z a 5 0 0 = R
  simp -implicitDefEqProofs only [↓w_seq, ↓w_region, ↓ops_cons, ↓g_assign, ↓ops_nil, ev_const, of_int, of_bool, ↓g_move, ↓g_len, Try.underlying9, Nat.reduceLT, ev_tab, ne_eq, Nat.reduceEqDiff, not_false_eq_true, upd_ne, par1, reduceCtorEq, par0, upd_eq, len_str, onS_some]
  refine call1 (by simp -implicitDefEqProofs only [List.map_cons, Nat.reduceLT, ev_tab, ne_eq, Nat.reduceEqDiff, not_false_eq_true, upd_ne, upd_eq, ev_const, of_int, List.map_nil] <;> rfl) (inS _ 0 _) ?_
  rw [decide_eq_true (p := 0 ≤ (a : Int) ∧ (a : Int) ≤ (z.size : Int)) (by omega)]
  simp -implicitDefEqProofs only [↓ops_cons, ↓g_unOp, Nat.reduceLT, ev_tab, upd_eq, u_not, Bool.not_true, Option.map_some, ↓ops_nil, ↓w_cond, ↓w_seq, ↓w_region, ↓g_assign, ↓w_ret, ev_const, of_int, of_bool, ret_three, ne_eq, Nat.reduceEqDiff, not_false_eq_true, upd_ne, ↓w_skip, ↓g_move, ↓w_block, par1, onS_some, onB_false]
  refine w_loop (ι := Nat) (fun i s => ∃ (T : Nat → AV) (H : AHeap) (P : List Nat), s = ⟨tab 58 T, H⟩ ∧ i ≤ 5 ∧ a + i ≤ z.size ∧ P.length = i ∧ (∀ b ∈ P, 128 ≤ b ∧ b < 256) ∧ ((nums z).drop a).take i = ci P ∧ rdv z a (5 - i) i (vl P) = R ∧ T 0 = .sc (.string z) ∧ T 1 = .sc (.int .i64 a) ∧ T 7 = .sc (.int .i64 (vl P)) ∧ T 8 = .sc (.int .i64 ((128 ^ i : Nat) : Int)) ∧ T 9 = .sc (.int .i64 ((a + i : Nat) : Int))) (fun i => 5 - i) ?_ (i := 0) ?_
  · rintro i s ⟨T, H, P, rfl, a1, a1b, hPl, hPr, hPe, a3, a4, a5, a6, a7, a8⟩
    have e5 : IntKind.i64.wrap ((a : Int) + 5) = ((a + 5 : Nat) : Int) := by rw [w64 (by omega) (by omega)]; omega
    have e9 : IntKind.i64.wrap (((a + i : Nat) : Int) + 1) = ((a + (i + 1) : Nat) : Int) := by rw [w64 (by omega) (by omega)]; omega
    by_cases hi : i < 5
    · have k1 : ((a + i : Nat) : Int) < ((a + 5 : Nat) : Int) := by omega
      obtain ⟨f, hf⟩ : ∃ f, 5 - i = f + 1 := ⟨4 - i, by omega⟩
      have hf2 : 5 - (i + 1) = f := by omega
      rw [hf, rdv] at a3
      by_cases hin : a + i < z.size
      · have k2 : ((a + i : Nat) : Int) < z.size := by omega
        rw [if_pos hin] at a3
        obtain ⟨hb, hb2⟩ := bN_i z (a + i)
        obtain ⟨p1, p2, p3⟩ := pw7 i hi
        have hvl := vl_lt P
        rw [hPl] at hvl
        generalize hc : bN z (a + i) = c at *
        have hva : vl (P ++ [c]) = vl P + c % 128 * 128 ^ i := by rw [vl_app, hPl]
        have hex := ext_ci z a i P c hPe hPl hin hb
        have k3 : (0 : Int) ≤ ((a + i : Nat) : Int) := by omega
        have e2 : IntKind.i64.wrap (c : Int) = c := w64 (by omega) (by omega)
        have e3 : ((c : Int)).tmod 128 = ((c % 128 : Nat) : Int) := by rw [Int.tmod_eq_emod_of_nonneg (by omega)]; omega
        have hm : c % 128 * 128 ^ i ≤ 127 * 268435456 := Nat.mul_le_mul (by omega) p2
        have e6 : IntKind.i64.wrap (((c % 128 : Nat) : Int) * ((128 ^ i : Nat) : Int)) = ((c % 128 * 128 ^ i : Nat) : Int) := by
          rw [← Int.natCast_mul, w64 (by omega) (by omega)]
        have e7 : IntKind.i64.wrap ((vl P : Int) + ((c % 128 * 128 ^ i : Nat) : Int)) = ((vl (P ++ [c]) : Nat) : Int) := by rw [hva, w64 (by omega) (by omega)]; omega
        have e10 : IntKind.i64.wrap (((128 ^ i : Nat) : Int) * 128) = ((128 ^ (i + 1) : Nat) : Int) := by
          rw [Nat.pow_succ, w64 (by omega) (by omega)]
          omega
        rw [← hva] at a3
        by_cases hbig : 127 < c
        · have k5 : ¬ (c : Int) < 128 := by omega
          rw [if_pos hbig] at a3
          simp -implicitDefEqProofs only [↓w_seq, ↓w_region, ↓ops_cons, ↓g_move, ↓g_len, Try.underlying9, Nat.reduceLT, ev_tab, a8, ne_eq, reduceCtorEq, not_false_eq_true, upd_ne, a4, upd_eq, len_str, ↓g_binOp, Nat.reduceEqDiff, onS_some, b_lss, k2, decide_true, yielded_tab, dstAt_s, dstAt_0, ybv_some, boolOf_b, ↓g_guard_t, a5, ev_const, of_int, b_add, e5, ↓g_pick, of_bool, pick_b, if_true, ↓ops_nil, ↓w_cond, ↓w_skip, ↓w_block, ↓g_index, a6, idx_str, k3, Int.toNat_natCast, hin, and_self, hb, ↓g_convert, Try.underlying5, Try.underlying3, a7, ↓g_assign, b_mul, e10, e9, k5, decide_false, onB_false, c_int, e2, b_rem, Int.reduceEq, e3, if_false, e6, e7, ↓w_exit, ↓w_ret, ret_three, k1, onB_true]
          refine ⟨i + 1, by omega, _, _, P ++ [c], rfl, by omega, by omega, by simp [hPl], ?_, hex, by rw [hf2]; exact a3, ?_, ?_, ?_, ?_, ?_⟩
          · intro x hx
            rcases List.mem_append.1 hx with hx | hx
            · exact hPr x hx
            · simp at hx
              omega
          all_goals (simp -implicitDefEqProofs only [ne_eq, reduceCtorEq, not_false_eq_true, upd_ne, a4, Nat.reduceEqDiff, a5, upd_eq] <;> rfl)
        · have k5 : (c : Int) < 128 := by omega
          rw [if_neg hbig] at a3
          simp -implicitDefEqProofs only [↓w_seq, ↓w_region, ↓ops_cons, ↓g_move, ↓g_len, Try.underlying9, Nat.reduceLT, ev_tab, a8, ne_eq, reduceCtorEq, not_false_eq_true, upd_ne, a4, upd_eq, len_str, ↓g_binOp, Nat.reduceEqDiff, onS_some, b_lss, k2, decide_true, yielded_tab, dstAt_s, dstAt_0, ybv_some, boolOf_b, ↓g_guard_t, a5, ev_const, of_int, b_add, e5, ↓g_pick, of_bool, pick_b, if_true, ↓ops_nil, ↓w_cond, ↓w_skip, ↓w_block, ↓g_index, a6, idx_str, k3, Int.toNat_natCast, hin, and_self, hb, ↓g_convert, Try.underlying5, Try.underlying3, a7, ↓g_assign, b_mul, e10, e9, k5, onB_true, c_int, e2, b_rem, Int.reduceEq, e3, if_false, e6, e7, ↓w_exit, ↓w_ret, ret_three, k1]
          refine drawn [] follows (by kernel_rfl) (by kernel_rfl) ?_
          by_cases h1 : 1000000000 < vl (P ++ [c])
          · rw [if_pos (.inr h1)] at a3
            have k8 : (1000000000 : Int) < ((vl (P ++ [c]) : Nat) : Int) := by omega
            subst a3
            simp -implicitDefEqProofs only [↓dops_cons, ↓g_move, ↓g_binOp, Nat.reduceLT, ev_tab, ne_eq, Nat.reduceEqDiff, not_false_eq_true, upd_ne, upd_eq, ev_const, of_int, b_gtr, k8, decide_true, onS_some, yielded_tab, dstAt_s, dstAt_0, ybv_some, boolOf_b, Bool.not_false, ↓g_guard_f, ↓g_pick, of_bool, pick_b, if_true, ↓dops_0, ↓w_cond, ↓w_seq, ↓w_region, ↓ops_cons, ↓g_assign, ↓ops_nil, ↓w_ret, ret_three, ↓w_skip, onB_true]
            try rfl
          · have k8 : ¬ (1000000000 : Int) < ((vl (P ++ [c]) : Nat) : Int) := by omega
            simp -implicitDefEqProofs only [↓dops_cons, ↓g_move, ↓g_binOp, Nat.reduceLT, ev_tab, ne_eq, Nat.reduceEqDiff, not_false_eq_true, upd_ne, upd_eq, ev_const, of_int, b_gtr, k8, decide_false, onS_some, yielded_tab, dstAt_s, dstAt_0, ybv_some, boolOf_b, ↓g_guard_t]
            refine call1 (by simp -implicitDefEqProofs only [List.map_cons, Nat.reduceLT, ev_tab, upd_eq, List.map_nil] <;> rfl) (varS (vl (P ++ [c])) (by omega)) ?_
            have q1 : (0 : Int) ≤ (a : Int) := by omega
            have q2 : (0 : Int) ≤ ((a + (i + 1) : Nat) : Int) := by omega
            have q3 : a ≤ a + (i + 1) := by omega
            have q4 : a + (i + 1) ≤ z.size := by omega
            have hnx : nums (z.extract a (a + (i + 1))) = ci (P ++ [c]) := by rw [ext_nums]; exact hex
            by_cases h0 : 0 < i ∧ c = 0
            · rw [if_pos (.inl h0)] at a3
              subst a3
              have hne : ((varT (vl (P ++ [c]))).toList == (z.extract a (a + (i + 1))).toList) = false := by
                rw [beq_eq_false_iff_ne]
                intro he
                have he2 := toL_inj.1 he
                have he3 : nums (varT (vl (P ++ [c]))) = ci (P ++ [c]) := by rw [he2, hnx]
                rw [varT, nums_son (varN_range _), h0.2] at he3
                exact varN_bad P (by intro hn; rw [hn] at hPl; simp at hPl; omega) he3
              simp -implicitDefEqProofs only [↓dops_cons, yielded_tab, dstAt_s, dstAt_0, Nat.reduceLT, ybv_some, ne_eq, Nat.reduceEqDiff, not_false_eq_true, upd_ne, upd_eq, boolOf_b, ↓g_guard_t, ↓g_move, ev_tab, reduceCtorEq, a4, a5, a8, ↓g_binOp, ev_const, of_int, b_add, e9, ↓g_slice, Try.underlying9, Option.map_some, cut_str, bnd_int, q1, Int.toNat_natCast, if_true, ↓g_pick, of_bool, pick_b, Bool.false_eq_true, if_false, ↓dops_0, ↓w_cond, ↓w_seq, ↓w_region, ↓ops_cons, ↓g_assign, ↓ops_nil, ↓w_ret, ret_three, ↓w_skip, onS_some, q2, cutS_some, q3, q4, and_self, t_neq, hne, Bool.not_false, onB_true]
              try rfl
            · rw [if_neg (fun x => x.elim h0 h1)] at a3
              subst a3
              have hg : c ≠ 0 ∨ P = [] := by
                by_cases hi0 : 0 < i
                · exact .inl fun hc0 => h0 ⟨hi0, hc0⟩
                · exact .inr (List.eq_nil_of_length_eq_zero (by omega))
              have heq : varT (vl (P ++ [c])) = z.extract a (a + (i + 1)) := by
                apply nums_inj
                rw [varT, nums_son (varN_range _), hnx]
                exact varN_good c (by omega) P hPr hg
              rw [heq]
              simp -implicitDefEqProofs only [↓dops_cons, yielded_tab, dstAt_s, dstAt_0, Nat.reduceLT, ybv_some, ne_eq, Nat.reduceEqDiff, not_false_eq_true, upd_ne, upd_eq, boolOf_b, ↓g_guard_t, ↓g_move, ev_tab, reduceCtorEq, a4, a5, a8, ↓g_binOp, ev_const, of_int, b_add, e9, ↓g_slice, Try.underlying9, Option.map_some, cut_str, bnd_int, q1, Int.toNat_natCast, if_true, ↓g_pick, of_bool, pick_b, Bool.false_eq_true, if_false, ↓dops_0, ↓w_cond, ↓w_seq, ↓w_region, ↓ops_cons, ↓g_assign, ↓ops_nil, ↓w_ret, ret_three, ↓w_skip, onS_some, q2, cutS_some, q3, q4, and_self, t_neq, beq_self_eq_true, Bool.not_true, onB_false]
              try rfl
      · have k2 : ¬ ((a + i : Nat) : Int) < z.size := by omega
        rw [if_neg hin] at a3
        subst a3
        simp -implicitDefEqProofs only [↓w_seq, ↓w_region, ↓ops_cons, ↓g_move, ↓g_len, Try.underlying9, Nat.reduceLT, ev_tab, a8, ne_eq, reduceCtorEq, not_false_eq_true, upd_ne, a4, upd_eq, len_str, ↓g_binOp, Nat.reduceEqDiff, onS_some, b_lss, k2, decide_false, yielded_tab, dstAt_s, dstAt_0, ybv_some, boolOf_b, Bool.not_true, ↓g_guard_f, ↓g_pick, ev_const, of_bool, pick_b, Bool.false_eq_true, if_false, ↓ops_nil, ↓w_cond, ↓w_skip, ↓w_block, ↓g_index, a6, idx_str, ↓g_convert, Try.underlying5, Try.underlying3, of_int, a7, ↓g_assign, b_mul, b_add, onS_ite, onB_dec, c_int, b_rem, Int.reduceEq, ↓w_exit, ↓w_ret, ret_three, if_true, onB_false]
        try rfl
    · have k1 : ¬ ((a + i : Nat) : Int) < ((a + 5 : Nat) : Int) := by omega
      have hi5 : i = 5 := by omega
      subst hi5
      have hRn : R = none := a3.symm
      subst hRn
      by_cases hin : a + 5 < z.size
      · have k2 : ((a + 5 : Nat) : Int) < z.size := by omega
        simp -implicitDefEqProofs only [↓w_seq, ↓w_region, Nat.reduceSub, ↓ops_cons, ↓g_move, ↓g_len, Try.underlying9, Nat.reduceLT, ev_tab, a8, ne_eq, reduceCtorEq, not_false_eq_true, upd_ne, a4, upd_eq, len_str, ↓g_binOp, Nat.reduceEqDiff, onS_some, b_lss, k2, decide_true, yielded_tab, dstAt_s, dstAt_0, ybv_some, boolOf_b, ↓g_guard_t, a5, ev_const, of_int, b_add, e5, ↓g_pick, of_bool, pick_b, if_true, ↓ops_nil, ↓w_cond, ↓w_skip, ↓w_block, ↓g_index, a6, idx_str, ↓g_convert, Try.underlying5, Try.underlying3, a7, Nat.reducePow, Int.cast_ofNat_Int, ↓g_assign, b_mul, Int.reduceMul, onS_ite, onB_dec, c_int, b_rem, Int.reduceEq, if_false, ↓w_exit, ↓w_ret, ret_three, k1, decide_false, onB_false]
        try rfl
      · have k2 : ¬ ((a + 5 : Nat) : Int) < z.size := by omega
        simp -implicitDefEqProofs only [↓w_seq, ↓w_region, Nat.reduceSub, ↓ops_cons, ↓g_move, ↓g_len, Try.underlying9, Nat.reduceLT, ev_tab, a8, ne_eq, reduceCtorEq, not_false_eq_true, upd_ne, a4, upd_eq, len_str, ↓g_binOp, Nat.reduceEqDiff, onS_some, b_lss, k2, decide_false, yielded_tab, dstAt_s, dstAt_0, ybv_some, boolOf_b, Bool.not_true, ↓g_guard_f, ↓g_pick, ev_const, of_bool, pick_b, Bool.false_eq_true, if_false, ↓ops_nil, ↓w_cond, ↓w_skip, ↓w_block, ↓g_index, a6, idx_str, ↓g_convert, Try.underlying5, Try.underlying3, of_int, a7, Nat.reducePow, Int.cast_ofNat_Int, ↓g_assign, b_mul, Int.reduceMul, b_add, onS_ite, onB_dec, c_int, b_rem, Int.reduceEq, ↓w_exit, ↓w_ret, ret_three, if_true, onB_false]
        try rfl
  · refine ⟨_, _, [], rfl, by omega, by omega, rfl, by simp, rfl, hR, ?_, ?_, ?_, ?_, ?_⟩ <;> simp -implicitDefEqProofs only [ne_eq, reduceCtorEq, not_false_eq_true, upd_ne, par0, Nat.reduceEqDiff, par1, upd_eq, Nat.reducePow, Int.cast_ofNat_Int] <;> rfl
end Go.Proofs.Ytheeehbaholjmaa.Sim

