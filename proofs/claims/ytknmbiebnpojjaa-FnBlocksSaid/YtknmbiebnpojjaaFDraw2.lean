/- Draws: numbers, one of a list, texts. -/
import Derived.Test.YtknmbiebnpojjaaFDraw
namespace Go.Proofs.Ytknmbiebnpojjaa.Sim
open Go
set_option maxRecDepth 100000
set_option maxHeartbeats 4000000
set_option linter.unusedSimpArgs false
set_option linter.unusedVariables false
theorem Dr.ext {r : Nat} {x : AV} {G H Z : AHeap} (e : Ext G H) (d : Dr r x H Z) (hr : G.length ≤ r) : Ext G Z := by
  obtain ⟨d1, d2, _⟩ := d
  exact ⟨Nat.le_trans e.1 d1, fun i h => (d2 i (Nat.lt_of_lt_of_le h e.1) (by omega)).trans (e.2 i h)⟩
theorem Cur.ne {H : AHeap} {r q : Nat} {x : AV} {L : List Int} {k : IntKind} {l : List Int} {o v : Bool} (c : Cur H r x L) (h2 : H[q]? = some ⟨ints k l, o, v⟩) : q ≠ r := by
  obtain ⟨⟨i, h, c1⟩, c2⟩ := c
  exact cur_ne c1 h2 c2.kind
theorem Dr.at {r q : Nat} {x : AV} {L : List Int} {H Z : AHeap} {k : IntKind} {l : List Int} {o v : Bool} (d : Dr r x H Z) (c : Cur H r x L) (h : H[q]? = some ⟨ints k l, o, v⟩) : Z[q]? = some ⟨ints k l, o, v⟩ := (d.2.1 q (at_lt h) (c.ne h)).trans h
theorem Dr.isL {r : Nat} {x y : AV} {L : List Int} {H Z : AHeap} {k : IntKind} {l : List Int} (d : Dr r x H Z) (c : Cur H r x L) (h : IsL H y k l) : IsL Z y k l := by
  rcases h with ⟨rfl, rfl⟩ | ⟨q, o, rfl, hq⟩
  · exact .nil _ _
  · exact .inr ⟨q, o, _root_.rfl, d.at c hq⟩
theorem Dr.start {r : Nat} {x : AV} {L : List Int} {H : AHeap} (c : Cur H r x L) (Y : AHeap) : Dr r x H (H ++ Y) := (Dr.rfl c).more c.lt Y
theorem drawBelow {H : AHeap} {r : Nat} {x : AV} {L : List Int} (c : Cur H r x L) (hL : L.length ≤ 4000000) (n : Nat) (h0 : 0 < n) (hn : n ≤ 4294967296) : ∃ (v : Nat) (Z : AHeap), v < n ∧ Sound Try.prog 65 [.ptr r 0, .sc (.int .i64 n)] H (.sc (.int .i64 v)) Z ∧ Dr r x H Z := by
  suffices h : ∃ v Z, Sound Try.prog 65 [.ptr r 0, .sc (.int .i64 n)] H v Z ∧ ∃ m : Nat, m < n ∧ v = .sc (.int .i64 m) ∧ Dr r x H Z by
    obtain ⟨v, Z, h1, n, h2, rfl, h3⟩ := h
    exact ⟨n, Z, h2, h1, h3⟩
  refine Sound.runP (args := [.ptr r 0, .sc (.int .i64 n)]) 37 [.tmp 4] Try.func65 rfl rfl rfl rfl (by simp) (fun v Z => ∃ m : Nat, m < n ∧ v = .sc (.int .i64 m) ∧ Dr r x H Z) ?_
  have k0 : ¬ (n : Int) ≤ 0 := by omega
  have k1 : ¬ (n : Int) = 0 := by omega
  have hm : ∀ a : Nat, ((a : Int)).tmod n = ((a % n : Nat) : Int) := fun a => by rw [Int.tmod_eq_emod_of_nonneg (by omega)]; omega
  simp -implicitDefEqProofs only [↓w_seq, ↓w_region, ↓ops_cons, ↓g_assign, ↓ops_nil, ev_const, of_int, ↓g_move, ↓g_binOp, Nat.reduceLT, ev_tab, ne_eq, Nat.reduceEqDiff, not_false_eq_true, upd_ne, par1, upd_eq, b_leq, k0, decide_false, ↓w_cond, ↓w_ret, retP_1, res_tmp, onS_some, ↓w_skip, reduceCtorEq, par0, onB_dec, onB_false]
  by_cases h : n ≤ 256
  · have k2 : (n : Int) ≤ 256 := by omega
    simp -implicitDefEqProofs only [k2, decide_true, if_true]
    obtain ⟨a, Z, a1, a2, a3⟩ := drawByte c hL
    refine call1S (by simp -implicitDefEqProofs only [List.map_cons, Nat.reduceLT, ev_tab, upd_eq, List.map_nil] <;> rfl) a2 ?_
    simp -implicitDefEqProofs only [↓ops_cons, ↓g_move, ↓g_binOp, Nat.reduceLT, ev_tab, ne_eq, Nat.reduceEqDiff, not_false_eq_true, upd_ne, par1, upd_eq, b_rem, k1, hm, if_false, ↓g_assign, ↓ops_nil, ↓w_ret, retP_1, res_tmp, onS_some]
    exact ⟨_, Nat.mod_lt _ h0, rfl, a3⟩
  · have k2 : ¬ (n : Int) ≤ 256 := by omega
    simp -implicitDefEqProofs only [k2, decide_false, if_false]
    obtain ⟨a, Z1, a1, a2, a3⟩ := drawByte c hL
    refine call1S (by simp -implicitDefEqProofs only [List.map_cons, Nat.reduceLT, ev_tab, upd_eq, List.map_nil] <;> rfl) a2 ?_
    simp -implicitDefEqProofs only [↓ops_cons, ↓g_assign, ↓ops_nil, ↓w_seq, ↓w_region, Nat.reduceLT, ev_tab, upd_eq, ↓g_move, ne_eq, reduceCtorEq, not_false_eq_true, upd_ne, par0]
    obtain ⟨b, Z2, b1, b2, b3⟩ := drawByte (c.dr a3) hL
    refine call1S (by simp -implicitDefEqProofs only [List.map_cons, Nat.reduceLT, ev_tab, upd_eq, List.map_nil] <;> rfl) b2 ?_
    simp -implicitDefEqProofs only [↓ops_cons, ↓g_assign, ↓ops_nil, ↓w_seq, ↓w_region, Nat.reduceLT, ev_tab, upd_eq, ↓g_move, ne_eq, reduceCtorEq, not_false_eq_true, upd_ne, par0]
    obtain ⟨p, Z3, p1, p2, p3⟩ := drawByte ((c.dr a3).dr b3) hL
    refine call1S (by simp -implicitDefEqProofs only [List.map_cons, Nat.reduceLT, ev_tab, upd_eq, List.map_nil] <;> rfl) p2 ?_
    simp -implicitDefEqProofs only [↓ops_cons, ↓g_assign, ↓ops_nil, ↓w_seq, ↓w_region, Nat.reduceLT, ev_tab, upd_eq, ↓g_move, ne_eq, reduceCtorEq, not_false_eq_true, upd_ne, par0]
    obtain ⟨q, Z4, q1, q2, q3⟩ := drawByte (((c.dr a3).dr b3).dr p3) hL
    refine call1S (by simp -implicitDefEqProofs only [List.map_cons, Nat.reduceLT, ev_tab, upd_eq, List.map_nil] <;> rfl) q2 ?_
    have e1 : IntKind.i64.wrap ((a : Int) * 16777216) = ((a * 16777216 : Nat) : Int) := by rw [w64 (by omega) (by omega)]; omega
    have e2 : IntKind.i64.wrap ((b : Int) * 65536) = ((b * 65536 : Nat) : Int) := by rw [w64 (by omega) (by omega)]; omega
    have e3 : IntKind.i64.wrap (((a * 16777216 : Nat) : Int) + ((b * 65536 : Nat) : Int)) = ((a * 16777216 + b * 65536 : Nat) : Int) := by rw [w64 (by omega) (by omega)]; omega
    have e4 : IntKind.i64.wrap ((p : Int) * 256) = ((p * 256 : Nat) : Int) := by rw [w64 (by omega) (by omega)]; omega
    have e5 : IntKind.i64.wrap (((a * 16777216 + b * 65536 : Nat) : Int) + ((p * 256 : Nat) : Int)) = ((a * 16777216 + b * 65536 + p * 256 : Nat) : Int) := by rw [w64 (by omega) (by omega)]; omega
    have e6 : IntKind.i64.wrap (((a * 16777216 + b * 65536 + p * 256 : Nat) : Int) + (q : Int)) = ((a * 16777216 + b * 65536 + p * 256 + q : Nat) : Int) := by rw [w64 (by omega) (by omega)]; omega
    simp -implicitDefEqProofs only [↓ops_cons, ↓g_assign, ↓ops_nil, ↓w_seq, ↓w_region, Nat.reduceLT, ev_tab, upd_eq, ↓g_move, ↓g_binOp, ne_eq, Nat.reduceEqDiff, not_false_eq_true, upd_ne, ev_const, of_int, b_mul, e1, e2, e4, par1, ↓w_ret, retP_1, res_tmp, onS_some, b_add, e3, e5, e6, b_rem, k1, hm, if_false]
    exact ⟨_, Nat.mod_lt _ h0, rfl, ((a3.trans b3).trans p3).trans q3⟩
theorem drawOnce {H : AHeap} {r : Nat} {x : AV} {L : List Int} (c : Cur H r x L) (hL : L.length ≤ 4000000) (n : Nat) (h0 : 0 < n) (hn : n ≤ 4294967296) : ∃ (b : Bool) (Z : AHeap), Sound Try.prog 82 [.ptr r 0, .sc (.int .i64 n)] H (.sc (.bool b)) Z ∧ Dr r x H Z := by
  suffices h : ∃ v Z, Sound Try.prog 82 [.ptr r 0, .sc (.int .i64 n)] H v Z ∧ ∃ b : Bool, v = .sc (.bool b) ∧ Dr r x H Z by
    obtain ⟨v, Z, h1, b, rfl, h3⟩ := h
    exact ⟨b, Z, h1, h3⟩
  refine Sound.runP (args := [.ptr r 0, .sc (.int .i64 n)]) 9 [.tmp 4] Try.func82 rfl rfl rfl rfl (by simp) (fun v Z => ∃ b : Bool, v = .sc (.bool b) ∧ Dr r x H Z) ?_
  obtain ⟨a, Z, a1, a2, a3⟩ := drawBelow c hL n h0 hn
  simp -implicitDefEqProofs only [↓w_seq, ↓w_region, ↓ops_cons, ↓g_assign, ↓ops_nil, ev_const, of_bool, ↓g_move, Nat.reduceLT, ev_tab, ne_eq, reduceCtorEq, not_false_eq_true, upd_ne, par0, Nat.reduceEqDiff, par1]
  refine call1S (by simp -implicitDefEqProofs only [List.map_cons, Nat.reduceLT, ev_tab, ne_eq, Nat.reduceEqDiff, not_false_eq_true, upd_ne, upd_eq, List.map_nil] <;> rfl) a2 ?_
  simp -implicitDefEqProofs only [↓ops_cons, ↓g_binOp, Nat.reduceLT, ev_tab, upd_eq, ev_const, of_int, b_eql, ↓g_assign, ↓ops_nil, ↓w_ret, retP_1, res_tmp, onS_some]
  exact ⟨_, rfl, a3⟩
theorem drawPickInt {H : AHeap} {r : Nat} {x y : AV} {L l : List Int} (c : Cur H r x L) (hL : L.length ≤ 4000000) (hy : IsL H y .i64 l) (h0 : 0 < l.length) (hn : l.length ≤ 256) : ∃ (j : Nat) (Z : AHeap), j < l.length ∧ Sound Try.prog 67 [.ptr r 0, y] H (.sc (.int .i64 (l.getD j 0))) Z ∧ Dr r x H Z := by
  suffices h : ∃ v Z, Sound Try.prog 67 [.ptr r 0, y] H v Z ∧ ∃ j : Nat, j < l.length ∧ v = .sc (.int .i64 (l.getD j 0)) ∧ Dr r x H Z by
    obtain ⟨v, Z, h1, n, h2, rfl, h3⟩ := h
    exact ⟨n, Z, h2, h1, h3⟩
  refine Sound.runP (args := [.ptr r 0, y]) 12 [.tmp 4] Try.func67 rfl rfl rfl rfl (by simp) (fun v Z => ∃ j : Nat, j < l.length ∧ v = .sc (.int .i64 (l.getD j 0)) ∧ Dr r x H Z) ?_
  have lx := fun e => hy.len e
  obtain ⟨j, Z, a1, a2, a3⟩ := drawBelow c hL l.length h0 (by omega)
  obtain ⟨q, o, rfl, hq⟩ := (a3.isL c hy).get a1
  have k1 : (j : Int) < l.length := by omega
  have k2 : (0 : Int) ≤ j := by omega
  simp -implicitDefEqProofs only [↓w_seq, ↓w_region, ↓ops_cons, ↓g_assign, ↓ops_nil, ev_const, of_int, ↓g_move, ↓g_len, Try.underlying26, Nat.reduceLT, ev_tab, ne_eq, Nat.reduceEqDiff, not_false_eq_true, upd_ne, par1, reduceCtorEq, par0, upd_eq, lx, onS_some]
  refine call1S (by simp -implicitDefEqProofs only [List.map_cons, Nat.reduceLT, ev_tab, ne_eq, Nat.reduceEqDiff, not_false_eq_true, upd_ne, upd_eq, List.map_nil] <;> rfl) a2 ?_
  simp -implicitDefEqProofs only [↓ops_cons, ↓g_indexAddr, Try.underlying26, Nat.reduceLT, ev_tab, ne_eq, Nat.reduceEqDiff, not_false_eq_true, upd_ne, upd_eq, adr_sl, k2, k1, cells3, tyOk3, and_self, Int.toNat_natCast, Nat.mul_one, Nat.zero_add, if_true, ↓g_load, ↓g_assign, ↓ops_nil, ↓w_ret, retP_1, res_tmp, onS_some, rd_def, agg3, hq, rd_ints, a1]
  exact ⟨j, a1, rfl, a3⟩
theorem drawPick {H : AHeap} {r q : Nat} {o : Bool} {x : AV} {L : List Int} {l : List ByteArray} (c : Cur H r x L) (hL : L.length ≤ 4000000) (hq : H[q]? = some ⟨strs l, o, true⟩) (h0 : 0 < l.length) (hn : l.length ≤ 256) : ∃ (j : Nat) (Z : AHeap), j < l.length ∧ Sound Try.prog 109 [.ptr r 0, .sl q 0 l.length 1] H (.sc (.string (l.getD j ByteArray.empty))) Z ∧ Dr r x H Z := by
  suffices h : ∃ v Z, Sound Try.prog 109 [.ptr r 0, .sl q 0 l.length 1] H v Z ∧ ∃ j : Nat, j < l.length ∧ v = .sc (.string (l.getD j ByteArray.empty)) ∧ Dr r x H Z by
    obtain ⟨v, Z, h1, n, h2, rfl, h3⟩ := h
    exact ⟨n, Z, h2, h1, h3⟩
  refine Sound.runP (args := [.ptr r 0, .sl q 0 l.length 1]) 12 [.tmp 4] Try.func109 rfl rfl rfl rfl (by simp) (fun v Z => ∃ j : Nat, j < l.length ∧ v = .sc (.string (l.getD j ByteArray.empty)) ∧ Dr r x H Z) ?_
  obtain ⟨j, Z, a1, a2, a3⟩ := drawBelow c hL l.length h0 (by omega)
  have hne : q ≠ r := by
    rintro rfl
    obtain ⟨⟨i, h, c1⟩, c2⟩ := c
    rw [c1] at hq
    injection hq with hq
    have h3 : [x, .sc (.int .i64 i), .sc (.int .i64 h)] = strs l := congrArg Reg.cs hq
    cases l with
    | nil => cases h3
    | cons a l =>
      injection h3 with h3 _
      rcases c2.kind with ⟨a, b, c, rfl⟩ | rfl <;> cases h3
  have hq2 := (a3.2.1 q (at_lt hq) hne).trans hq
  have k1 : (j : Int) < l.length := by omega
  have k2 : (0 : Int) ≤ j := by omega
  simp -implicitDefEqProofs only [↓w_seq, ↓w_region, ↓ops_cons, ↓g_assign, ↓ops_nil, ev_const, of_str, ↓g_move, ↓g_len, Try.underlying125, Nat.reduceLT, ev_tab, ne_eq, Nat.reduceEqDiff, not_false_eq_true, upd_ne, par1, reduceCtorEq, par0, upd_eq, len_sl, onS_some]
  refine call1S (by simp -implicitDefEqProofs only [List.map_cons, Nat.reduceLT, ev_tab, ne_eq, Nat.reduceEqDiff, not_false_eq_true, upd_ne, upd_eq, List.map_nil] <;> rfl) a2 ?_
  simp -implicitDefEqProofs only [↓ops_cons, ↓g_indexAddr, Try.underlying125, Nat.reduceLT, ev_tab, ne_eq, Nat.reduceEqDiff, not_false_eq_true, upd_ne, upd_eq, adr_sl, k2, k1, cells9, tyOk9, and_self, Int.toNat_natCast, Nat.mul_one, Nat.zero_add, if_true, ↓g_load, ↓g_assign, ↓ops_nil, ↓w_ret, retP_1, res_tmp, onS_some, rd_def, agg9, hq2, rd_strs, a1]
  exact ⟨j, a1, rfl, a3⟩
theorem drawText {H : AHeap} {r : Nat} {x : AV} {L : List Int} (c : Cur H r x L) (hL : L.length ≤ 4000000) (n : Nat) (hn : n ≤ 5000) : ∃ (z : ByteArray) (Z : AHeap), z.size = n ∧ Sound Try.prog 66 [.ptr r 0, .sc (.int .i64 n)] H (.sc (.string z)) Z ∧ Dr r x H Z := by
  suffices h : ∃ v Z, Sound Try.prog 66 [.ptr r 0, .sc (.int .i64 n)] H v Z ∧ ∃ z : ByteArray, z.size = n ∧ v = .sc (.string z) ∧ Dr r x H Z by
    obtain ⟨v, Z, h1, n, h2, rfl, h3⟩ := h
    exact ⟨n, Z, h2, h1, h3⟩
  refine Sound.runP (args := [.ptr r 0, .sc (.int .i64 n)]) 23 [.tmp 4] Try.func66 rfl rfl rfl rfl (by simp) (fun v Z => ∃ z : ByteArray, z.size = n ∧ v = .sc (.string z) ∧ Dr r x H Z) ?_
  have k0 : ¬ (5000 : Int) < n := by omega
  have hr := c.lt
  simp -implicitDefEqProofs only [↓w_seq, ↓w_region, ↓ops_cons, ↓g_assign, ↓ops_nil, ev_const, of_str, ↓g_move, ↓g_binOp, Nat.reduceLT, ev_tab, ne_eq, Nat.reduceEqDiff, not_false_eq_true, upd_ne, par1, upd_eq, of_int, b_gtr, k0, decide_false, ↓w_cond, ↓g_buildSlice, Try.underlying22, List.map_nil, bs5_0, ↓w_block, alK_some, ints_one, true_and, ↓w_skip, onS_some, onB_false]
  refine w_loop (ι := Nat) (fun i s => ∃ (T : Nat → AV) (Z : AHeap) (A : List Int) (q : Nat), s = ⟨tab 23 T, Z⟩ ∧ i ≤ n ∧ A.length = i ∧ Dr r x H Z ∧ H.length ≤ q ∧ Z[q]? = some ⟨ints .u8 A, true, true⟩ ∧ T 0 = .ptr r 0 ∧ T 1 = .sc (.int .i64 n) ∧ T 5 = .sl q 0 i 1 ∧ T 6 = .sc (.int .i64 i)) (fun i => n - i) ?_ (i := 0) ?_
  · rintro i s ⟨T, Z, A, q, rfl, a0, a1, a2, a3, a4, a5, a6, a7, a8⟩
    by_cases h : i < n
    · have k1 : (i : Int) < n := by omega
      have e1 : IntKind.i64.wrap ((i : Int) + 1) = i + 1 := w64 (by omega) (by omega)
      simp -implicitDefEqProofs only [↓w_seq, ↓w_region, ↓ops_cons, ↓g_move, ↓g_binOp, Nat.reduceLT, ev_tab, a8, ne_eq, Nat.reduceEqDiff, not_false_eq_true, upd_ne, a6, upd_eq, b_lss, k1, decide_true, ↓ops_nil, ↓w_cond, ↓w_skip, ↓w_block, a7, reduceCtorEq, a5, ↓w_exit, ↓g_convert, Try.underlying22, Try.underlying9, ↓g_assign, ↓w_ret, retP_1, res_tmp, onS_some, c_text, isU5, and_self, at_def, if_true, onB_true]
      obtain ⟨v, Y, v1, v2, v3⟩ := drawByte (c.dr a2) hL
      refine call1S (by simp -implicitDefEqProofs only [List.map_cons, Nat.reduceLT, ev_tab, upd_eq, List.map_nil] <;> rfl) v2 ?_
      have hY := v3.at (c.dr a2) a4
      have hq : q < Y.length := at_lt hY
      have hY2 : ∀ g : Reg, (Y ++ [g])[q]? = some ⟨ints .u8 A, true, true⟩ := fun g => (at_more _ _ _ hq).trans hY
      have e2 : IntKind.u8.wrap (v : Int) = v := u8_id (by omega) (by omega)
      have k3 : i ≤ A.length := by omega
      have k4 : (i + 1) * 1 ≤ 140737488355328 := by omega
      have k5 : i + 1 ≤ 140737488355328 := by omega
      have k6 : A.take i = A := List.take_of_length_le (by omega)
      simp -implicitDefEqProofs only [↓ops_cons, ↓g_convert, Try.underlying3, Try.underlying5, Nat.reduceLT, ev_tab, upd_eq, ↓g_buildSlice, Try.underlying22, List.map_cons, List.map_nil, ↓g_append, ne_eq, Nat.reduceEqDiff, not_false_eq_true, upd_ne, apS22, ↓g_assign, ↓ops_nil, ↓w_region, ↓g_move, ↓g_binOp, a8, ev_const, of_int, b_add, e1, onS_some, c_int, e2, bs5_1, alK_some, ints_one, hY2, src_sl, at_end, at_ints, Nat.zero_add, List.length_cons, List.length_nil, Nat.le_refl, List.drop_zero, List.take_succ_cons, List.take_zero, if_true, ap_ints, k3, Nat.mul_one, k5, and_self, List.length_append, k6, true_and]
      refine ⟨i + 1, by omega, _, _, A ++ [(v : Int)], Y.length + 1, rfl, by omega, by simp [a1], ((((a2.trans v3).more hr _).kill a3 hr).more hr _), ?_, ?_, ?_, ?_, ?_, ?_⟩
      · have := (a2.trans v3).1
        omega
      · have := at_end (killReg (Y ++ [⟨ints .u8 [(v : Int)], true, true⟩]) q) ⟨ints .u8 (A ++ [(v : Int)]), true, true⟩
        rwa [kill_len, List.length_append, List.length_singleton] at this
      · simp -implicitDefEqProofs only [ne_eq, reduceCtorEq, not_false_eq_true, upd_ne, a5]
      · simp -implicitDefEqProofs only [ne_eq, Nat.reduceEqDiff, not_false_eq_true, upd_ne, a6]
      · simp -implicitDefEqProofs only [ne_eq, Nat.reduceEqDiff, not_false_eq_true, upd_ne, upd_eq]
      · simp -implicitDefEqProofs only [upd_eq] <;> rfl
    · have k1 : ¬ (i : Int) < n := by omega
      have hi : i = n := by omega
      have k6 : A.take i = A := List.take_of_length_le (by omega)
      have k3 : i ≤ A.length := by omega
      simp -implicitDefEqProofs only [↓w_seq, ↓w_region, ↓ops_cons, ↓g_move, ↓g_binOp, Nat.reduceLT, ev_tab, a8, ne_eq, Nat.reduceEqDiff, not_false_eq_true, upd_ne, a6, upd_eq, b_lss, k1, decide_false, ↓ops_nil, ↓w_cond, ↓w_skip, ↓w_block, a7, reduceCtorEq, a5, ↓w_exit, ↓g_convert, Try.underlying22, Try.underlying9, ↓g_assign, ↓w_ret, retP_1, res_tmp, onS_some, c_text, isU5, and_self, at_def, a4, at_ints, Nat.zero_add, k3, List.drop_zero, k6, if_true, Option.bind_some, bytesA_ints, Option.map_some, onB_false]
      exact ⟨_, by rw [son_size]; omega, rfl, a2⟩
  · refine ⟨_, _, [], H.length, rfl, by omega, rfl, Dr.start c _, Nat.le_refl _, at_end _ _, ?_, ?_, ?_, ?_⟩ <;> simp -implicitDefEqProofs only [ne_eq, reduceCtorEq, not_false_eq_true, upd_ne, par0, Nat.reduceEqDiff, par1, upd_eq, Int.cast_ofNat_Int] <;> rfl
def repD (n : Nat) (b : Int) : List Int := List.replicate n b
theorem longD (n : Nat) (b : Int) (hn : n ≤ 1000000000) : Fn Try.prog 83 [.sc (.int .i64 n), .sc (.int .u8 b)] (.sc (.string (strOfNums (repD n b)))) := by
  refine Fn.run 20 [.tmp 4] Try.func83 rfl rfl rfl rfl (by simp) (flats_cons (.sc _) (flats_cons (.sc _) flats_nil)) (.sc _) ?_
  have k0 : (0 : Int) ≤ n := by omega
  have k1 : (n : Int) ≤ 1000000000000 := by omega
  simp -implicitDefEqProofs only [↓w_seq, ↓w_region, ↓ops_cons, ↓g_assign, ↓ops_nil, ev_const, of_str, ↓g_move, ↓g_makeSlice, Try.underlying22, Nat.reduceLT, ev_tab, ne_eq, reduceCtorEq, not_false_eq_true, upd_ne, par0, upd_eq, k0, k1, mk5, Int.toNat_natCast, ↓w_block, of_int, alK_some, ints_one, List.length_nil, List.nil_append, true_and]
  refine w_loop (ι := Nat) (fun i s => ∃ T : Nat → AV, s = ⟨tab 20 T, [⟨ints .u8 (repD i b ++ repD (n - i) 0), true, true⟩]⟩ ∧ i ≤ n ∧ T 0 = .sc (.int .i64 n) ∧ T 1 = .sc (.int .u8 b) ∧ T 5 = .sl 0 0 n 1 ∧ T 6 = .sc (.int .i64 i)) (fun i => n - i) ?_ (i := 0) ?_
  · rintro i s ⟨T, rfl, a1, a2, a3, a4, a5⟩
    by_cases h : i < n
    · have k2 : (i : Int) < n := by omega
      have k3 : (0 : Int) ≤ i := by omega
      have e1 : IntKind.i64.wrap ((i : Int) + 1) = i + 1 := w64 (by omega) (by omega)
      have hs : (repD i b ++ repD (n - i) 0).set i b = repD (i + 1) b ++ repD (n - (i + 1)) 0 := by
        obtain ⟨m, hm⟩ : ∃ m, n - i = m + 1 := ⟨n - i - 1, by omega⟩
        rw [hm, show n - (i + 1) = m by omega, repD, repD, repD, repD, List.set_append_right _ _ (by simp), List.length_replicate, Nat.sub_self, List.replicate_succ, List.set_cons_zero, List.replicate_succ', List.append_assoc]
        rfl
      have hlen : (repD i b ++ repD (n - i) 0).length = n := by rw [List.length_append, repD, repD, List.length_replicate, List.length_replicate]; omega
      generalize hA : repD i b ++ repD (n - i) 0 = A at *
      simp -implicitDefEqProofs only [↓w_seq, ↓w_region, ↓ops_cons, ↓g_move, ↓g_binOp, Nat.reduceLT, ev_tab, a5, ne_eq, reduceCtorEq, not_false_eq_true, upd_ne, a2, Nat.reduceEqDiff, upd_eq, b_lss, k2, decide_true, ↓ops_nil, ↓w_cond, ↓w_skip, ↓w_block, ↓g_indexAddr, Try.underlying22, a4, a3, adr_sl, k3, cells5, tyOk5, and_self, Int.toNat_natCast, Nat.mul_one, Nat.zero_add, if_true, ↓g_store, ev_const, of_int, b_add, e1, ↓g_assign, onS_some, wr_def, List.getElem?_cons_zero, wr_ints, hlen, h, hs, List.set_cons_zero, ↓w_exit, ↓g_convert, Try.underlying9, ↓w_ret, ret_one, c_text, isU5, at_def, at_ints, Nat.le_refl, List.drop_zero, Option.bind_some, bytesA_ints, Option.map_some, onB_true]
      refine ⟨i + 1, by omega, _, rfl, by omega, ?_, ?_, ?_, ?_⟩ <;> simp -implicitDefEqProofs only [ne_eq, reduceCtorEq, not_false_eq_true, upd_ne, a2, Nat.reduceEqDiff, a3, a4, upd_eq] <;> rfl
    · have k2 : ¬ (i : Int) < n := by omega
      have hi : i = n := by omega
      subst hi
      have hA : repD i b ++ repD (i - i) 0 = repD i b := by rw [Nat.sub_self]; simp [repD]
      have hlen : (repD i b).length = i := by rw [repD, List.length_replicate]
      have htk : (repD i b).take i = repD i b := List.take_of_length_le (by omega)
      rw [hA]
      generalize repD i b = A at *
      simp -implicitDefEqProofs only [↓w_seq, ↓w_region, ↓ops_cons, ↓g_move, ↓g_binOp, Nat.reduceLT, ev_tab, a5, ne_eq, reduceCtorEq, not_false_eq_true, upd_ne, a2, Nat.reduceEqDiff, upd_eq, b_lss, k2, decide_false, ↓ops_nil, ↓w_cond, ↓w_skip, ↓w_block, ↓g_indexAddr, Try.underlying22, a4, a3, adr_sl, cells5, tyOk5, and_self, and_true, and_false, Nat.mul_one, Nat.zero_add, if_false, ↓g_store, ev_const, of_int, b_add, ↓g_assign, onS_some, ↓w_exit, ↓g_convert, Try.underlying9, ↓w_ret, ret_one, c_text, isU5, at_def, List.getElem?_cons_zero, at_ints, hlen, Nat.le_refl, List.drop_zero, htk, if_true, Option.bind_some, bytesA_ints, Option.map_some, onB_false]
  · refine ⟨_, st_end (G := []) (by simp [repD]), by omega, ?_, ?_, ?_, ?_⟩ <;> simp -implicitDefEqProofs only [ne_eq, reduceCtorEq, not_false_eq_true, upd_ne, par0, Nat.reduceEqDiff, par1, upd_eq, Int.cast_ofNat_Int] <;> rfl
end Go.Proofs.Ytknmbiebnpojjaa.Sim

