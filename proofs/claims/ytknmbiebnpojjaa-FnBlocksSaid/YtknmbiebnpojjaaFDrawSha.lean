/- Drawn states and blocks of SHA-256, right or not. -/
import Derived.Test.YtknmbiebnpojjaaFShaB
import Derived.Test.YtknmbiebnpojjaaFDraw3
namespace Go.Proofs.Ytknmbiebnpojjaa.Sim
open Go
set_option maxRecDepth 100000
set_option maxHeartbeats 40000000
set_option linter.unusedSimpArgs false
set_option linter.unusedVariables false
theorem startS (H : AHeap) : ∃ (q : Nat) (Z : AHeap), Sound Try.prog 68 [] H (.sl q 0 8 1) Z ∧ Ext H Z ∧ H.length ≤ q ∧ Z[q]? = some ⟨ints .i64 (wis start.l), true, true⟩ := by
  suffices h : ∃ v Z, Sound Try.prog 68 [] H v Z ∧ ∃ q, v = .sl q 0 8 1 ∧ Ext H Z ∧ H.length ≤ q ∧ Z[q]? = some ⟨ints .i64 (wis start.l), true, true⟩ by
    obtain ⟨v, Z, h1, q, rfl, h2⟩ := h
    exact ⟨q, Z, h1, h2⟩
  refine Sound.runP (args := []) 18 [.tmp 0] Try.func68 rfl rfl rfl rfl (by simp) (fun v Z => ∃ q, v = .sl q 0 8 1 ∧ Ext H Z ∧ H.length ≤ q ∧ Z[q]? = some ⟨ints .i64 (wis start.l), true, true⟩) ?_
  have sl8 : start.l.length = 8 := rfl
  generalize hst : start.l = K at *
  have fS := firstS
  rw [hst] at fS
  simp -implicitDefEqProofs only [↓w_seq, ↓w_region, ↓ops_cons, ↓g_assign, ↓ops_nil, ev_const]
  refine call1 (by simp -implicitDefEqProofs only [List.map_nil] <;> rfl) fS ?_
  simp -implicitDefEqProofs only [↓ops_cons, ↓g_alloc, zero86, Option.map_some, ↓g_store, Nat.reduceLT, ev_tab, upd_eq, ne_eq, Nat.reduceEqDiff, not_false_eq_true, upd_ne, ↓ops_nil, ↓w_seq, ↓w_region, ↓g_buildSlice, Try.underlying26, List.map_nil, bs3_0, ↓g_assign, ↓w_block, ev_const, of_int, alK_some, ints_one, true_and, wr_def, tyOk86, cells86, hap_0, List.getElem?_cons_zero, wis_len, sl8, List.length_replicate, wrA, hset_0, List.set_cons_zero, onS_some, List.length_append, List.length_cons, List.length_nil, Nat.zero_add, List.append_assoc, List.cons_append, List.nil_append]
  refine w_loop (ι := Nat) (fun i s => ∃ (T : Nat → AV) (Z : AHeap) (q : Nat), s = ⟨tab 18 T, Z⟩ ∧ i ≤ 8 ∧ Ext H Z ∧ Z[H.length]? = some ⟨ints .u32 (wis K), true, true⟩ ∧ H.length < q ∧ Z[q]? = some ⟨ints .i64 (wis (K.take i)), true, true⟩ ∧ T 1 = .ptr H.length 0 ∧ T 2 = .sl q 0 i 1 ∧ T 3 = .sc (.int .i64 i)) (fun i => 8 - i) ?_ (i := 0) ?_
  · rintro i s ⟨T, Z, q, rfl, a0, e0, a1, a2, a3, t2, t3, t4⟩
    have e1 : IntKind.i64.wrap ((i : Int) + 1) = i + 1 := w64 (by omega) (by omega)
    by_cases h : i < 8
    · have m1 : (i : Int) < 8 := by omega
      have m2 : (0 : Int) ≤ i := by omega
      have k3 : i ≤ (K.take i).length := by rw [List.length_take]; omega
      have k4 : (i + 1) * 8 ≤ 140737488355328 := by omega
      have k5 : i + 1 ≤ 140737488355328 := by omega
      have k6 : (wis (K.take i)).take i = wis (K.take i) := List.take_of_length_le (by rw [wis_len, List.length_take]; omega)
      have k7 : K.take (i + 1) = K.take i ++ [K.getD i 0] := by
        rw [List.take_add_one, List.getD_eq_getElem?_getD, List.getElem?_eq_getElem (by omega)]; rfl
      have hq2 : ∀ g : Reg, (Z ++ [g])[q]? = some ⟨ints .i64 (wis (K.take i)), true, true⟩ := fun g => (at_more _ _ _ (at_lt a3)).trans a3
      have hlt := at_lt a1
      simp -implicitDefEqProofs only [↓w_seq, ↓w_region, ↓ops_cons, ↓g_move, ↓g_binOp, Nat.reduceLT, ev_tab, t4, upd_eq, ev_const, of_int, b_lss, m1, decide_true, ↓ops_nil, ↓w_cond, ↓w_skip, ↓w_block, ↓g_indexAddr, Try.underlying86, ne_eq, Nat.reduceEqDiff, not_false_eq_true, upd_ne, t3, t2, adr_arr, m2, Int.cast_ofNat_Int, tyOk85, and_self, Int.toNat_natCast, cells85, Nat.mul_one, Nat.zero_add, if_true, ↓g_load, ↓g_convert, Try.underlying85, Try.underlying3, ↓g_buildSlice, Try.underlying26, List.map_cons, List.map_nil, ↓g_append, apS26, ↓g_assign, b_add, e1, onS_some, rd_def, agg85, a1, rd_ints, wis_len, sl8, h, wis_get, c_int, i_wi, bs3_1, alK_some, ints_one, hq2, src_sl, at_end, at_ints, List.length_cons, List.length_nil, Nat.le_refl, List.drop_zero, List.take_succ_cons, List.take_zero, ap_ints, k3, k4, k5, List.length_append, k6, true_and, ↓w_exit, ↓w_ret, retP_1, res_tmp, onB_true]
      refine ⟨i + 1, by omega, _, _, Z.length + 1, rfl, by omega, ((e0.add _).kill (by omega)).add _, (at_more _ _ _ (by rw [kill_len, List.length_append]; omega)).trans ((kill_at _ _ _ (by omega)).trans ((at_more _ _ _ hlt).trans a1)), by omega, ?_, ?_, ?_, ?_⟩
      · rw [k7]
        have := at_end (killReg (Z ++ [⟨ints .i64 [wi (K.getD i 0)], true, true⟩]) q) ⟨ints .i64 (wis (K.take i) ++ [wi (K.getD i 0)]), true, true⟩
        rw [kill_len, List.length_append, List.length_singleton] at this
        rw [this, wis, wis, List.map_append]
        rfl
      all_goals (simp -implicitDefEqProofs only [ne_eq, Nat.reduceEqDiff, not_false_eq_true, upd_ne, t2, upd_eq] <;> rfl)
    · have m1 : ¬ (i : Int) < 8 := by omega
      have hi : i = 8 := by omega
      subst hi
      simp -implicitDefEqProofs only [↓w_seq, ↓w_region, Nat.reduceSub, ↓ops_cons, ↓g_move, ↓g_binOp, Nat.reduceLT, ev_tab, t4, Int.cast_ofNat_Int, upd_eq, ev_const, of_int, b_lss, Int.reduceLT, decide_false, ↓ops_nil, ↓w_cond, ↓w_skip, ↓w_block, ↓g_indexAddr, Try.underlying86, ne_eq, Nat.reduceEqDiff, not_false_eq_true, upd_ne, t3, ↓g_load, ↓g_convert, Try.underlying85, Try.underlying3, ↓g_buildSlice, Try.underlying26, List.map_cons, List.map_nil, ↓g_append, apS26, ↓g_assign, b_add, Int.reduceAdd, onS_some, ↓w_exit, ↓w_ret, retP_1, res_tmp, if_true, onB_false]
      exact ⟨q, rfl, e0, by omega, by rw [a3, List.take_of_length_le (by omega)]⟩
  · refine ⟨_, _, H.length + 1, rfl, by omega, Ext.more _ _, hap_0 _ _, by omega, hap_k _ _ 1, ?_, ?_, ?_⟩ <;> simp -implicitDefEqProofs only [ne_eq, Nat.reduceEqDiff, not_false_eq_true, upd_ne, upd_eq, Int.cast_ofNat_Int] <;> rfl
def ShaArg (Z : AHeap) (y : AV) (z : ByteArray) : Prop := (∃ r s, y = .sl r 0 8 1 ∧ Z[r]? = some ⟨ints .i64 (wis (S8.l s)), true, true⟩ ∧ z.size = 64) ∨ ∃ r off n l, y = .sl r off n 1 ∧ off + n ≤ l.length ∧ l.length ≤ 8 ∧ Z[r]? = some ⟨ints .i64 l, true, true⟩ ∧ ¬((OkW l off n ∧ (n : Int) = 8) ∧ (z.size : Int) = 64)
theorem shaBoth {Z : AHeap} {y : AV} {z : ByteArray} (h : ShaArg Z y z) : ∃ (out : List Int), out.length ≤ 8 ∧ (∀ Y, Ext Z Y → ∃ (q : Nat) (X : AHeap), Sound Try.prog 12 [y, .sc (.string z)] Y (.sl q 0 out.length 1) X ∧ Ext Y X ∧ X[q]? = some ⟨ints .i64 out, true, true⟩) ∧ (∀ Y, Ext Z Y → ∃ (q : Nat) (X : AHeap), Sound Try.prog 18 [y, .sc (.string z)] Y (.sl q 0 out.length 1) X ∧ Ext Y X ∧ X[q]? = some ⟨ints .i64 out, true, true⟩) := by
  rcases h with ⟨r, s, rfl, h1, h2⟩ | ⟨r, off, n, l, rfl, h1, h2, h3, h4⟩
  · refine ⟨wis (blk s z).l, by rw [wis_len]; exact Nat.le_refl 8, fun Y e => ?_, fun Y e => ?_⟩
    · exact ⟨_, _, blockA Y r s z h2 true (e.at h1), Ext.more _ _, at_end _ _⟩
    · obtain ⟨q, X, k1, k2, k3, k4⟩ := shaSok z (e.at h1) h2
      exact ⟨q, X, k1, k2, k4⟩
  · have hlen : ((l.drop off).take n).length = n := by rw [List.length_take, List.length_drop]; omega
    refine ⟨(l.drop off).take n, by omega, fun Y e => ?_, fun Y e => ?_⟩
    · obtain ⟨q, X, k1, k2, k3, k4⟩ := shaIno z (e.at h3) h1 (by omega) h4
      exact ⟨q, X, by rw [hlen]; exact k1, k2, k4⟩
    · obtain ⟨q, X, k1, k2, k3, k4⟩ := shaSno z (e.at h3) h1 (by omega) h4
      exact ⟨q, X, by rw [hlen]; exact k1, k2, k4⟩
theorem s8_of (m : List Wo) (h : m.length = 8) : ∃ s : S8, m = s.l := by
  match m, h with
  | [a, b, c, d, e, f, g, k], _ => exact ⟨⟨a, b, c, d, e, f, g, k⟩, rfl⟩
theorem drawShaBlock {H : AHeap} {x : AV} {L : List Int} (hx : IsL H x .u8 L) (hL : L.length ≤ 4000000) : ∃ (y : AV) (z : ByteArray) (Z : AHeap), ShaArg Z y z ∧ Sound Try.prog 13 [x] H (.tup [y, .sc (.string z)]) Z ∧ Ext H Z := by
  suffices h : ∃ v Z, Sound Try.prog 13 [x] H v Z ∧ ∃ y z, v = .tup [y, .sc (.string z)] ∧ ShaArg Z y z ∧ Ext H Z by
    obtain ⟨v, Z, h1, y, z, rfl, h2, h3⟩ := h
    exact ⟨y, z, Z, h2, h1, h3⟩
  refine Sound.runP (args := [x]) 48 [.tmp 2, .tmp 3] Try.func13 rfl rfl rfl rfl (by simp) (fun v Z => ∃ y z, v = .tup [y, .sc (.string z)] ∧ ShaArg Z y z ∧ Ext H Z) ?_
  simp -implicitDefEqProofs only [↓w_seq, ↓w_region, Int.reduceNeg, ↓ops_cons, ↓g_assign, ↓ops_nil, ev_const, of_str, ↓g_move, Nat.reduceLT, ev_tab, ne_eq, reduceCtorEq, not_false_eq_true, upd_ne, par0]
  obtain ⟨r, Z0, n1, n2, n3, n4⟩ := drawNew hx hL
  refine call1S (by simp -implicitDefEqProofs only [List.map_cons, Nat.reduceLT, ev_tab, upd_eq, List.map_nil] <;> rfl) n1 ?_
  simp -implicitDefEqProofs only [↓ops_cons, ↓g_assign, ↓ops_nil, ↓w_seq, ↓w_region, Int.reduceNeg, Nat.reduceLT, ev_tab, upd_eq, ↓g_move]
  obtain ⟨j, Z1, j1, j2, j3⟩ := drawBelow n3 hL 10 (by omega) (by omega)
  refine call1S (by simp -implicitDefEqProofs only [List.map_cons, Nat.reduceLT, ev_tab, upd_eq, ev_const, of_int, List.map_nil, Int.cast_ofNat_Int] <;> rfl) j2 ?_
  simp -implicitDefEqProofs only [↓ops_cons, ↓g_assign, ↓ops_nil, ↓w_seq, ↓w_region, Int.reduceNeg, Nat.reduceLT, ev_tab, upd_eq, ↓g_move, ne_eq, Nat.reduceEqDiff, not_false_eq_true, upd_ne]
  have c1 := n3.dr j3
  obtain ⟨z, Z2, z1, z2, z3⟩ := drawText c1 hL 64 (by omega)
  refine call1S (by simp -implicitDefEqProofs only [List.map_cons, Nat.reduceLT, ev_tab, upd_eq, ev_const, of_int, List.map_nil, Int.cast_ofNat_Int] <;> rfl) z2 ?_
  simp -implicitDefEqProofs only [↓ops_cons, ↓g_assign, ↓ops_nil, ↓w_seq, ↓w_region, Int.reduceNeg, Nat.reduceLT, ev_tab, upd_eq, ↓g_buildSlice, Try.underlying26, List.map_nil, bs3_0, ↓w_block, ev_const, of_int, alK_some, ints_one, true_and]
  have c2 := c1.dr z3
  have hr2 := c2.lt
  have hr0 := n3.lt
  have d2 := j3.trans z3
  refine w_loop (ι := Nat) (fun i s => ∃ (T : Nat → AV) (Z : AHeap) (l : List Int) (q : Nat), s = ⟨tab 48 T, Z⟩ ∧ i ≤ 8 ∧ l.length = i ∧ (∀ v ∈ l, 0 ≤ v ∧ v < 4294967296) ∧ Dr r x Z2 Z ∧ Z2.length ≤ q ∧ Z[q]? = some ⟨ints .i64 l, true, true⟩ ∧ T 4 = .ptr r 0 ∧ T 5 = .sc (.int .i64 j) ∧ T 6 = .sc (.string z) ∧ T 7 = .sl q 0 i 1 ∧ T 8 = .sc (.int .i64 i)) (fun i => 8 - i) ?_ (i := 0) ?_
  · rintro i s ⟨T, Z, l, q, rfl, a0, a1, av, a2, a3, a4, t4, t5, t6, t7, t8⟩
    have e1 : IntKind.i64.wrap ((i : Int) + 1) = i + 1 := w64 (by omega) (by omega)
    have cZ := c2.dr a2
    by_cases h : i < 8
    · have k1 : (i : Int) < 8 := by omega
      obtain ⟨P, hP⟩ : ∃ P : Reg, P = ⟨ints .i64 [0, 1, 4294967295, 2147483648, 12345678], true, true⟩ := ⟨_, rfl⟩
      have hy8 : IsL (Z ++ [P]) (.sl Z.length 0 5 1) .i64 [0, 1, 4294967295, 2147483648, 12345678] := IsL.at (by rw [hP]; exact at_end _ _) rfl
      obtain ⟨j', X, j1', j2', j3'⟩ := drawPickInt (cZ.app _) hL hy8 (by decide) (by decide)
      have hw : 0 ≤ ([0, 1, 4294967295, 2147483648, 12345678] : List Int).getD j' 0 ∧ ([0, 1, 4294967295, 2147483648, 12345678] : List Int).getD j' 0 < 4294967296 := by
        match j', j1' with
        | 0, _ => decide
        | 1, _ => decide
        | 2, _ => decide
        | 3, _ => decide
        | 4, _ => decide
        | n + 5, h => exact absurd h (by simp)
      generalize ([0, 1, 4294967295, 2147483648, 12345678] : List Int).getD j' 0 = w at *
      have e2 : IntKind.i64.wrap w = w := w64 (by omega) (by omega)
      have hY1 : (Z ++ [P])[q]? = some ⟨ints .i64 l, true, true⟩ := (at_more _ _ _ (at_lt a4)).trans a4
      have hX := j3'.at (cZ.app _) hY1
      have hq : q < X.length := at_lt hX
      have hX2 : ∀ g : Reg, (X ++ [g])[q]? = some ⟨ints .i64 l, true, true⟩ := fun g => (at_more _ _ _ hq).trans hX
      have k4 : (i + 1) * 8 ≤ 140737488355328 := by omega
      have k5 : i + 1 ≤ 140737488355328 := by omega
      have k3 : i ≤ l.length := by omega
      have k6 : l.take i = l := List.take_of_length_le (by omega)
      have d4 := a2.trans j3'.app
      have hYX := j3'.app.1
      have hHY := a2.1
      simp -implicitDefEqProofs only [↓w_seq, ↓w_region, Int.reduceNeg, ↓ops_cons, ↓g_move, ↓g_binOp, Nat.reduceLT, ev_tab, t8, upd_eq, ev_const, of_int, b_lss, k1, decide_true, ↓ops_nil, ↓w_cond, ↓w_skip, ↓w_block, ↓g_buildSlice, Try.underlying26, ne_eq, Nat.reduceEqDiff, not_false_eq_true, upd_ne, t7, t4, List.map_cons, List.map_nil, bs3_5, alK_some, ints_one, true_and, ↓w_exit, ↓g_assign, ↓g_slice, Option.map_some, Option.map_none, cut_sl, bnd_int, Int.reduceLE, Int.reduceToNat, if_true, bnd_none, cutL_some, Nat.le_refl, cells3, tyOk3, and_self, and_true, Nat.mul_one, Nat.zero_add, ↓w_ret, retP_2, res_tmp, onS_some, onS_ite, Try.underlying9, bs3_3, onB_true]
      rw [← hP]
      refine call1S (by simp -implicitDefEqProofs only [List.map_cons, Nat.reduceLT, ev_tab, ne_eq, Nat.reduceEqDiff, not_false_eq_true, upd_ne, upd_eq, List.map_nil] <;> rfl) j2' ?_
      simp -implicitDefEqProofs only [↓ops_cons, ↓g_binOp, Nat.reduceLT, ev_tab, upd_eq, ev_const, of_int, b_add, Int.add_zero, e2, ↓g_buildSlice, Try.underlying26, List.map_cons, List.map_nil, ↓g_append, ne_eq, Nat.reduceEqDiff, not_false_eq_true, upd_ne, apS26, ↓g_assign, ↓ops_nil, ↓w_region, ↓g_move, t8, e1, onS_some, bs3_1, alK_some, ints_one, hX2, src_sl, at_end, at_ints, Nat.zero_add, List.length_cons, List.length_nil, Nat.le_refl, List.drop_zero, List.take_succ_cons, List.take_zero, if_true, ap_ints, k3, k4, k5, and_self, List.length_append, k6, true_and]
      refine ⟨i + 1, by omega, _, _, l ++ [w], X.length + 1, rfl, by omega, by simp [a1], ?_, (((d4.more hr2 _).kill a3 hr2).more hr2 _), by omega, ?_, ?_, ?_, ?_, ?_, ?_⟩
      · intro v hv
        rcases List.mem_append.1 hv with hv | hv
        · exact av v hv
        · rw [List.mem_singleton.1 hv]; exact hw
      · have := at_end (killReg (X ++ [⟨ints .i64 [w], true, true⟩]) q) ⟨ints .i64 (l ++ [w]), true, true⟩
        rwa [kill_len, List.length_append, List.length_singleton] at this
      all_goals (simp -implicitDefEqProofs only [ne_eq, Nat.reduceEqDiff, not_false_eq_true, upd_ne, t4, t5, t6, upd_eq] <;> rfl)
    · have k1 : ¬ (i : Int) < 8 := by omega
      have hi : i = 8 := by omega
      subst hi
      have eZ : Ext H Z := Dr.ext n4 (d2.trans a2) n2
      have kj : ∀ c : Int, ((j : Int) = c) ∨ ¬ ((j : Int) = c) := fun c => Decidable.em _
      have ka : (1 : Int).toNat ≤ 8 := by decide
      have kq := at_lt a4
      by_cases j0 : (j : Int) = 0
      · simp -implicitDefEqProofs only [↓w_seq, ↓w_region, Nat.reduceSub, j0, Int.reduceNeg, ↓ops_cons, ↓g_move, ↓g_binOp, Nat.reduceLT, ev_tab, t8, Int.cast_ofNat_Int, upd_eq, ev_const, of_int, b_lss, Int.reduceLT, decide_false, ↓ops_nil, ↓w_cond, ↓w_skip, ↓w_block, ↓g_buildSlice, Try.underlying26, ne_eq, Nat.reduceEqDiff, not_false_eq_true, upd_ne, t7, t4, List.map_cons, List.map_nil, bs3_5, alK_some, ints_one, true_and, ↓w_exit, t5, b_eql, decide_true, ↓g_assign, ↓g_slice, Option.map_some, Option.map_none, cut_sl, bnd_int, Int.reduceLE, Int.reduceToNat, if_true, bnd_none, cutL_some, Nat.reduceLeDiff, Nat.le_refl, cells3, tyOk3, and_self, Nat.mul_one, Nat.zero_add, ↓w_ret, t6, retP_2, res_tmp, onS_some, Int.reduceEq, Try.underlying9, cut_str, cutS_some, and_true, onS_ite, bs3_3, onB_false, onB_true]
        exact ⟨_, _, rfl, .inr ⟨q, 1, 7, l, rfl, by omega, by omega, a4, fun h => by have := h.1.2; omega⟩, eZ⟩
      by_cases j1 : (j : Int) = 1
      · simp -implicitDefEqProofs only [↓w_seq, ↓w_region, Nat.reduceSub, j1, Int.reduceNeg, ↓ops_cons, ↓g_move, ↓g_binOp, Nat.reduceLT, ev_tab, t8, Int.cast_ofNat_Int, upd_eq, ev_const, of_int, b_lss, Int.reduceLT, decide_false, ↓ops_nil, ↓w_cond, ↓w_skip, ↓w_block, ↓g_buildSlice, Try.underlying26, ne_eq, Nat.reduceEqDiff, not_false_eq_true, upd_ne, t7, t4, List.map_cons, List.map_nil, bs3_5, alK_some, ints_one, true_and, ↓w_exit, t5, b_eql, Int.reduceEq, ↓g_assign, ↓g_slice, Option.map_some, Option.map_none, cut_sl, bnd_int, Int.reduceLE, Int.reduceToNat, if_true, bnd_none, cutL_some, Nat.reduceLeDiff, Nat.le_refl, cells3, tyOk3, and_self, Nat.mul_one, Nat.zero_add, ↓w_ret, t6, retP_2, res_tmp, onS_some, decide_true, Try.underlying9, cut_str, z1, cutS_some, bs3_3, onB_false, onB_true]
        refine ⟨_, _, rfl, .inr ⟨q, 0, 8, l, rfl, by omega, by omega, a4, fun h => ?_⟩, eZ⟩
        have := h.2
        rw [ByteArray.size_extract, z1] at this
        revert this; decide
      by_cases j2 : (j : Int) = 2
      · obtain ⟨P, hP⟩ : ∃ P : Reg, P = ⟨ints .i64 [-1, 4294967296, 9223372036854775807], true, true⟩ := ⟨_, rfl⟩
        have hy8 : IsL (Z ++ [P]) (.sl Z.length 0 3 1) .i64 [-1, 4294967296, 9223372036854775807] := IsL.at (by rw [hP]; exact at_end _ _) rfl
        obtain ⟨j', X, j1', j2', j3'⟩ := drawPickInt (cZ.app _) hL hy8 (by decide) (by decide)
        have hw : ¬ (0 ≤ ([-1, 4294967296, 9223372036854775807] : List Int).getD j' 0 ∧ ([-1, 4294967296, 9223372036854775807] : List Int).getD j' 0 ≤ 4294967295) := by
          match j', j1' with
          | 0, _ => decide
          | 1, _ => decide
          | 2, _ => decide
          | n + 3, h => exact absurd h (by simp)
        generalize ([-1, 4294967296, 9223372036854775807] : List Int).getD j' 0 = w at *
        have hY1 : (Z ++ [P])[q]? = some ⟨ints .i64 l, true, true⟩ := (at_more _ _ _ (at_lt a4)).trans a4
        have hX := j3'.at (cZ.app _) hY1
        have hq : q < X.length := at_lt hX
        have l3 : 3 < l.length := by omega
        have eX : Ext H X := Dr.ext n4 (d2.trans (a2.trans j3'.app)) n2
        have hz2 := n4.1
        have hz3 := d2.1
        simp -implicitDefEqProofs only [↓w_seq, ↓w_region, Nat.reduceSub, j2, Int.reduceNeg, ↓ops_cons, ↓g_move, ↓g_binOp, Nat.reduceLT, ev_tab, t8, Int.cast_ofNat_Int, upd_eq, ev_const, of_int, b_lss, Int.reduceLT, decide_false, ↓ops_nil, ↓w_cond, ↓w_skip, ↓w_block, ↓g_buildSlice, Try.underlying26, ne_eq, Nat.reduceEqDiff, not_false_eq_true, upd_ne, t7, t4, List.map_cons, List.map_nil, bs3_5, alK_some, ints_one, true_and, ↓w_exit, t5, b_eql, Int.reduceEq, ↓g_assign, ↓g_slice, Option.map_some, Option.map_none, cut_sl, bnd_int, Int.reduceLE, Int.reduceToNat, if_true, bnd_none, cutL_some, Nat.reduceLeDiff, Nat.le_refl, cells3, tyOk3, and_self, Nat.mul_one, Nat.zero_add, ↓w_ret, t6, retP_2, res_tmp, onS_some, Try.underlying9, cut_str, cutS_some, and_true, onS_ite, decide_true, bs3_3, onB_false, onB_true]
        rw [← hP]
        refine call1S (by simp -implicitDefEqProofs only [List.map_cons, Nat.reduceLT, ev_tab, ne_eq, Nat.reduceEqDiff, not_false_eq_true, upd_ne, upd_eq, List.map_nil] <;> rfl) j2' ?_
        simp -implicitDefEqProofs only [↓ops_cons, ↓g_indexAddr, Try.underlying26, Nat.reduceLT, ev_tab, ne_eq, Nat.reduceEqDiff, not_false_eq_true, upd_ne, upd_eq, ev_const, of_int, adr_sl, Int.reduceLE, Int.cast_ofNat_Int, Int.reduceLT, cells3, tyOk3, and_self, Int.reduceToNat, Nat.mul_one, Nat.zero_add, if_true, ↓g_store, ↓ops_nil, ↓w_seq, ↓w_region, ↓g_move, ↓g_assign, ↓w_ret, t7, t6, retP_2, res_tmp, onS_some, wr_def, hX, wr_ints, l3]
        refine ⟨_, _, rfl, .inr ⟨q, 0, 8, l.set 3 w, rfl, by rw [List.length_set]; omega, by rw [List.length_set]; omega, List.getElem?_set_self hq, fun h => hw ?_⟩, eX.set (by omega) _⟩
        have := h.1.1 3 (by omega)
        rw [Nat.zero_add, List.getD_eq_getElem?_getD, List.getElem?_set_self l3] at this
        exact this
      by_cases j3 : (j : Int) = 3
      · obtain ⟨q', X, s1, s2, s3, s4⟩ := startS Z
        simp -implicitDefEqProofs only [↓w_seq, ↓w_region, Nat.reduceSub, j3, Int.reduceNeg, ↓ops_cons, ↓g_move, ↓g_binOp, Nat.reduceLT, ev_tab, t8, Int.cast_ofNat_Int, upd_eq, ev_const, of_int, b_lss, Int.reduceLT, decide_false, ↓ops_nil, ↓w_cond, ↓w_skip, ↓w_block, ↓g_buildSlice, Try.underlying26, ne_eq, Nat.reduceEqDiff, not_false_eq_true, upd_ne, t7, t4, List.map_cons, List.map_nil, bs3_5, alK_some, ints_one, true_and, ↓w_exit, t5, b_eql, Int.reduceEq, ↓g_assign, ↓g_slice, Option.map_some, Option.map_none, cut_sl, bnd_int, Int.reduceLE, Int.reduceToNat, if_true, bnd_none, cutL_some, Nat.reduceLeDiff, Nat.le_refl, cells3, tyOk3, and_self, Nat.mul_one, Nat.zero_add, ↓w_ret, t6, retP_2, res_tmp, onS_some, Try.underlying9, cut_str, cutS_some, and_true, onS_ite, bs3_3, decide_true, onB_true, onB_false]
        refine call1S (by simp -implicitDefEqProofs only [List.map_nil] <;> rfl) s1 ?_
        simp -implicitDefEqProofs only [↓ops_cons, ↓g_assign, ↓ops_nil, ↓w_seq, ↓w_region, Nat.reduceLT, ev_tab, upd_eq, ↓g_move, ↓w_ret, ne_eq, Nat.reduceEqDiff, not_false_eq_true, upd_ne, t6, retP_2, res_tmp, onS_some]
        exact ⟨_, _, rfl, .inl ⟨q', start, rfl, s4, z1⟩, eZ.trans s2⟩
      · obtain ⟨m, hm⟩ := wis_of l av
        have ml : m.length = 8 := by rw [hm, wis_len] at a1; exact a1
        obtain ⟨s, rfl⟩ := s8_of m ml
        rw [hm] at a4
        simp -implicitDefEqProofs only [↓w_seq, ↓w_region, Nat.reduceSub, Int.reduceNeg, ↓ops_cons, ↓g_move, ↓g_binOp, Nat.reduceLT, ev_tab, t8, Int.cast_ofNat_Int, upd_eq, ev_const, of_int, b_lss, Int.reduceLT, decide_false, ↓ops_nil, ↓w_cond, ↓w_skip, ↓w_block, ↓g_buildSlice, Try.underlying26, ne_eq, Nat.reduceEqDiff, not_false_eq_true, upd_ne, t7, t4, List.map_cons, List.map_nil, bs3_5, alK_some, ints_one, true_and, ↓w_exit, t5, b_eql, j0, ↓g_assign, ↓g_slice, Option.map_some, Option.map_none, cut_sl, bnd_int, Int.reduceLE, Int.reduceToNat, if_true, bnd_none, cutL_some, Nat.reduceLeDiff, Nat.le_refl, cells3, tyOk3, and_self, Nat.mul_one, Nat.zero_add, ↓w_ret, t6, retP_2, res_tmp, onS_some, j1, Try.underlying9, cut_str, cutS_some, and_true, onS_ite, j2, bs3_3, j3, onB_false]
        exact ⟨_, _, rfl, .inl ⟨q, s, rfl, a4, z1⟩, eZ⟩
  · refine ⟨_, _, [], Z2.length, rfl, by omega, rfl, fun v hv => (by cases hv), Dr.start c2 _, Nat.le_refl _, at_end _ _, ?_, ?_, ?_, ?_, ?_⟩ <;> simp -implicitDefEqProofs only [ne_eq, Nat.reduceEqDiff, not_false_eq_true, upd_ne, upd_eq, Int.cast_ofNat_Int] <;> rfl
end Go.Proofs.Ytknmbiebnpojjaa.Sim

