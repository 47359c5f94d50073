/- Slices of parts: what the laws do with them. -/
import Derived.Test.YtheeehbaholjmaaFPiece
import Derived.Test.YtheeehbaholjmaaFHap
namespace Go.Proofs.Ytheeehbaholjmaa.Sim
open Go
set_option maxRecDepth 100000
set_option maxHeartbeats 4000000
set_option linter.unusedSimpArgs false
set_option linter.unusedVariables false
structure Prt where
  i : Int
  t : Int
  f : Int
  z : ByteArray
def pcs (p : Prt) : List AV := [.sc (.int .i64 p.i), .sc (.int .i64 p.t), .sc (.int .i64 p.f), .sc (.string p.z)]
theorem pcsE : Enc pcs 4 := ⟨fun _ => rfl, fun _ => rfl, by decide⟩
theorem pcs_prt (p : Prt) : AV.agg (pcs p) = prt p.i p.t p.f p.z := rfl
/-- A slice of the whole of a region of parts, or none at all. -/
def IsPs (H : AHeap) (x : AV) (l : List Prt) : Prop := (x = .sc (.slice none 0 0) ∧ l = []) ∨ ∃ r own, x = .sl r 0 l.length 4 ∧ H[r]? = some ⟨rows pcs l, own, true⟩
theorem IsPs.nil (H : AHeap) : IsPs H (.sc (.slice none 0 0)) [] := .inl ⟨rfl, rfl⟩
theorem IsPs.at {H : AHeap} {r n : Nat} {own : Bool} {l : List Prt} (h : H[r]? = some ⟨rows pcs l, own, true⟩) (hn : l.length = n) : IsPs H (.sl r 0 n 4) l := .inr ⟨r, own, by rw [hn], h⟩
theorem IsPs.len {H : AHeap} {x : AV} {l : List Prt} (e : TypeId) (h : IsPs H x l) : lenV (some (.slice e)) x = some (.sc (.int .i64 l.length)) := by
  rcases h with ⟨rfl, rfl⟩ | ⟨r, own, rfl, _⟩ <;> rfl
theorem IsPs.get {H : AHeap} {x : AV} {l : List Prt} (h : IsPs H x l) {i : Nat} (hi : i < l.length) : ∃ r own, x = .sl r 0 l.length 4 ∧ H[r]? = some ⟨rows pcs l, own, true⟩ := by
  rcases h with ⟨rfl, rfl⟩ | h
  · simp at hi
  · exact h
theorem Ext.isPs {H Z : AHeap} (a : Ext H Z) {y : AV} {l : List Prt} (h : IsPs H y l) : IsPs Z y l := by
  rcases h with ⟨rfl, rfl⟩ | ⟨q, o, rfl, hq⟩
  · exact .nil _
  · exact .inr ⟨q, o, _root_.rfl, a.at hq⟩
theorem eqPart1 (p : Prt) : Fn Try.prog 33 [.agg (pcs p), .agg (pcs p)] (.sc (.bool true)) := by
  refine Fn.run 25 [.tmp 4] Try.func33 rfl rfl rfl rfl (by simp) (flats_cons (prt_flat _ _ _ _) (flats_cons (prt_flat _ _ _ _) flats_nil)) (.sc _) ?_
  unfold pcs
  simp -implicitDefEqProofs only [↓w_seq, ↓w_region, ↓ops_cons, ↓g_box, Nat.reduceLT, ev_tab, par0, cells_agg, ne_eq, Nat.reduceEqDiff, not_false_eq_true, upd_ne, par1, ↓g_assign, ↓ops_nil, ev_const, of_bool, ↓g_fieldAddrT, upd_eq, ↓g_load, ↓g_binOp, ↓w_cond, ↓w_ret, ret_one, ↓w_skip, alK_some, List.all_cons, one_int, one_str, List.all_nil, Bool.and_self, fadr27_0, Nat.zero_add, fadr27_1, fadr27_2, fadr27_3, onS_some, rd_def, tyOk9, agg9, cells9, at_end, rd_onec, List.getElem?_cons_succ, List.getElem?_cons_zero, tyOk3, agg3, cells3, true_and, List.length_nil, List.nil_append, List.cons_append, t_neq, beq_self_eq_true, Bool.not_true, onB_false, b_neq, decide_true, and_self]
theorem eqPartsS {H : AHeap} {x y : AV} {l : List Prt} (hx : IsPs H x l) (hy : IsPs H y l) (hl : l.length ≤ 1000000000) : Sound Try.prog 22 [x, y] H (.sc (.bool true)) H := by
  refine Sound.run 27 [.tmp 4] Try.func22 rfl rfl rfl rfl (by simp) ?_
  have lx := fun e => hx.len e
  have ly := fun e => hy.len e
  simp -implicitDefEqProofs only [↓w_seq, ↓w_region, ↓ops_cons, ↓g_assign, ↓ops_nil, ev_const, of_bool, ↓g_move, ↓g_len, Try.underlying39, Nat.reduceLT, ev_tab, ne_eq, reduceCtorEq, not_false_eq_true, upd_ne, par0, upd_eq, lx, Nat.reduceEqDiff, par1, ly, ↓g_binOp, ↓w_cond, ↓w_ret, ret_one, and_true, ↓w_skip, ↓w_block, of_int, onS_some, b_neq, decide_true, Bool.not_true, onB_false]
  refine w_loop (ι := Nat) (fun i s => ∃ T : Nat → AV, s = ⟨tab 27 T, H⟩ ∧ i ≤ l.length ∧ T 0 = x ∧ T 1 = y ∧ T 5 = .sc (.int .i64 i)) (fun i => l.length - i) ?_ (i := 0) ?_
  · rintro i s ⟨T, rfl, a1, a3, a4, a5⟩
    by_cases h : i < l.length
    · have k1 : (i : Int) < l.length := by omega
      have k2 : (0 : Int) ≤ i := by omega
      have e1 : IntKind.i64.wrap ((i : Int) + 1) = i + 1 := w64 (by omega) (by omega)
      simp -implicitDefEqProofs only [↓w_seq, ↓w_region, ↓ops_cons, ↓g_move, ↓g_len, Try.underlying39, Nat.reduceLT, ev_tab, a5, ne_eq, reduceCtorEq, not_false_eq_true, upd_ne, a3, upd_eq, lx, ↓g_binOp, Nat.reduceEqDiff, ↓ops_nil, ↓w_cond, ↓w_skip, ↓w_block, ↓w_exit, ↓g_assign, ↓w_ret, ev_const, of_bool, ret_one, and_self, if_true, onS_some, b_lss, k1, decide_true, onB_true]
      refine drawn [(3, 0), (7, 0)] follows (by kernel_rfl) (by kernel_rfl) ?_
      obtain ⟨r, o, rfl, hr⟩ := hx.get h
      obtain ⟨q, o2, rfl, hq⟩ := hy.get h
      have ha : l[i]? = some l[i] := List.getElem?_eq_getElem h
      generalize l[i] = p at *
      have rr := fun o => rd_row pcsE ha o
      simp -implicitDefEqProofs only [↓dops_cons, ↓g_move, ↓g_indexAddr, Try.underlying39, Nat.reduceLT, ev_tab, ne_eq, reduceCtorEq, not_false_eq_true, upd_ne, a3, Nat.reduceEqDiff, a5, upd_eq, adr_sl, k2, k1, cells27, tyOk27, and_self, Int.toNat_natCast, Nat.zero_add, if_true, ↓g_load, a4, onS_some, rd_def, agg27, hq, rr, hr]
      refine call1 (by simp -implicitDefEqProofs only [List.map_cons, Nat.reduceLT, ev_tab, ne_eq, Nat.reduceEqDiff, not_false_eq_true, upd_ne, upd_eq, List.map_nil] <;> rfl) (eqPart1 p) ?_
      simp -implicitDefEqProofs only [↓dops_cons, ↓g_unOp, Nat.reduceLT, ev_tab, upd_eq, u_not, Bool.not_true, Option.map_some, ↓dops_p, ↓w_cond, ↓w_seq, ↓w_region, ↓ops_cons, ↓g_assign, ↓ops_nil, ↓w_ret, ev_const, of_bool, ret_one, and_true, ↓w_skip, ↓g_move, ↓g_binOp, ne_eq, Nat.reduceEqDiff, not_false_eq_true, upd_ne, of_int, onS_some, onB_false]
      refine ⟨pairs_cons (same_H rfl) (pairs_cons (same_H rfl) (pairs_nil)), ?_⟩
      simp -implicitDefEqProofs only [a5, b_add, e1, onS_some]
      refine ⟨i + 1, by omega, _, rfl, by omega, ?_, ?_, ?_⟩ <;> simp -implicitDefEqProofs only [ne_eq, reduceCtorEq, not_false_eq_true, upd_ne, a3, Nat.reduceEqDiff, a4, upd_eq] <;> rfl
    · have k1 : ¬ (i : Int) < l.length := by omega
      simp -implicitDefEqProofs only [↓w_seq, ↓w_region, ↓ops_cons, ↓g_move, ↓g_len, Try.underlying39, Nat.reduceLT, ev_tab, a5, ne_eq, reduceCtorEq, not_false_eq_true, upd_ne, a3, upd_eq, lx, ↓g_binOp, Nat.reduceEqDiff, ↓ops_nil, ↓w_cond, ↓w_skip, ↓w_block, ↓w_exit, ↓g_assign, ↓w_ret, ev_const, of_bool, ret_one, and_self, if_true, onS_some, b_lss, k1, decide_false, onB_false]
  · refine ⟨_, rfl, by omega, ?_, ?_, ?_⟩ <;> simp -implicitDefEqProofs only [ne_eq, reduceCtorEq, not_false_eq_true, upd_ne, par0, Nat.reduceEqDiff, par1, upd_eq, Int.cast_ofNat_Int] <;> rfl
/-- A mark's text. -/
def digs (n : Nat) : List Int := if n = 0 then [] else digs (n / 10) ++ [((48 + n % 10 : Nat) : Int)]
termination_by n
decreasing_by omega
theorem digs_0 : digs 0 = [] := by rw [digs, if_pos rfl]
theorem digs_s {n : Nat} (h : 0 < n) : digs n = digs (n / 10) ++ [((48 + n % 10 : Nat) : Int)] := by rw [digs, if_neg (by omega)]
theorem digs_len (k : Nat) : ∀ n, n < 10 ^ k → (digs n).length ≤ k := by
  induction k with
  | zero =>
    intro n h
    have : n = 0 := by simpa using h
    rw [this, digs_0]
    simp
  | succ k ih =>
    intro n h
    by_cases h0 : 0 < n
    · have h1 : n / 10 < 10 ^ k := by
        rw [Nat.div_lt_iff_lt_mul (by decide)]
        rwa [Nat.pow_succ] at h
      have := ih _ h1
      rw [digs_s h0, List.length_append, List.length_singleton]
      omega
    · have : n = 0 := by omega
      rw [this, digs_0]
      simp
def mkT (n : Nat) : ByteArray := strOfNums (109 :: digs n)
theorem mark_m (l : List Int) : (⟨#[109]⟩ : ByteArray) ++ strOfNums l = strOfNums (109 :: l) := by
  have : (⟨#[109]⟩ : ByteArray) = strOfNums [109] := rfl
  rw [this, son_append]
  rfl
theorem markTextS (n : Nat) (h0 : 0 < n) (hn : n ≤ 1000000000000) : Fn Try.prog 55 [.sc (.int .i64 n)] (.sc (.string (mkT n))) := by
  refine Fn.run 20 [.tmp 2] Try.func55 rfl rfl rfl rfl (by simp) (flats_cons (.sc _) flats_nil) (.sc _) ?_
  have k0 : ¬ (n : Int) ≤ 0 := by omega
  have hd := digs_len 13 n (by omega)
  generalize hR : mkT n = R
  have hR2 : mkT n = R := hR
  unfold mkT at hR
  simp -implicitDefEqProofs only [↓w_seq, ↓w_region, ↓ops_cons, ↓g_assign, ↓ops_nil, ev_const, of_str, ↓g_move, ↓g_binOp, Nat.reduceLT, ev_tab, ne_eq, reduceCtorEq, not_false_eq_true, upd_ne, par0, upd_eq, of_int, b_leq, k0, decide_false, ↓w_cond, ↓w_ret, ret_one, ↓w_skip, ↓w_block, onS_some, onB_false]
  refine w_loop (ι := Nat) (fun c s => ∃ (T : Nat → AV) (G : AHeap) (A : List Int), s = ⟨tab 20 T, G⟩ ∧ c ≤ n ∧ digs c ++ A = digs n ∧ T 0 = .sc (.int .i64 c) ∧ T 3 = .sc (.string (strOfNums A))) (fun c => c) ?_ (i := n) ?_
  · rintro c s ⟨T, G, A, rfl, a0, a1, a2, a3⟩
    have hA : (digs c).length + A.length ≤ 13 := by
      rw [← List.length_append, a1]
      exact hd
    by_cases h : 0 < c
    · have k1 : (0 : Int) < c := by omega
      have e1 : ((c : Int)).tmod 10 = ((c % 10 : Nat) : Int) := by rw [Int.tmod_eq_emod_of_nonneg (by omega)]; omega
      have e2 : IntKind.i64.wrap (48 + ((c % 10 : Nat) : Int)) = ((48 + c % 10 : Nat) : Int) := by rw [w64 (by omega) (by omega)]; omega
      have e3 : IntKind.u8.wrap ((48 + c % 10 : Nat) : Int) = ((48 + c % 10 : Nat) : Int) := u8_id (by omega) (by omega)
      have e4 : IntKind.i64.wrap (((c : Int)).tdiv 10) = ((c / 10 : Nat) : Int) := by rw [Int.tdiv_eq_ediv_of_nonneg (by omega), w64 (by omega) (by omega)]; omega
      rw [digs_s h, List.append_assoc] at a1
      simp -implicitDefEqProofs only [↓w_seq, ↓w_region, ↓ops_cons, ↓g_move, ↓g_binOp, Nat.reduceLT, ev_tab, a2, upd_eq, ev_const, of_int, b_gtr, k1, decide_true, ↓ops_nil, ↓w_cond, ↓w_skip, ↓w_block, ne_eq, reduceCtorEq, not_false_eq_true, upd_ne, b_rem, Int.reduceEq, e1, if_false, ↓g_convert, Try.underlying3, Try.underlying5, ↓g_buildSlice, Try.underlying45, List.map_cons, List.map_nil, Try.underlying9, Nat.reduceEqDiff, a3, ↓g_assign, b_quo, e4, onS_some, b_add, e2, c_int, e3, bs5_1, alK_some, ints_one, c_text, isU5, and_self, at_def, at_end, at_ints, Nat.zero_add, List.length_cons, List.length_nil, Nat.le_refl, List.drop_zero, List.take_succ_cons, List.take_zero, if_true, Option.bind_some, bytesA_ints, Option.map_some, t_add, son_size, son_append, List.cons_append, List.nil_append, onS_ite, true_and, ↓w_exit, of_str, ↓w_ret, ret_one, onB_true]
      refine ⟨by omega, c / 10, by omega, _, _, _, rfl, by omega, a1, ?_, ?_⟩ <;> simp -implicitDefEqProofs only [upd_eq, ne_eq, reduceCtorEq, not_false_eq_true, upd_ne, Nat.reduceEqDiff, List.cons_append, List.nil_append] <;> rfl
    · have k1 : ¬ (0 : Int) < c := by omega
      have hc : c = 0 := by omega
      subst hc
      rw [digs_0, List.nil_append] at a1
      subst a1
      simp -implicitDefEqProofs only [↓w_seq, ↓w_region, ↓ops_cons, ↓g_move, ↓g_binOp, Nat.reduceLT, ev_tab, a2, Int.cast_ofNat_Int, upd_eq, ev_const, of_int, b_gtr, Int.reduceLT, decide_false, ↓ops_nil, ↓w_cond, ↓w_skip, ↓w_block, ne_eq, reduceCtorEq, not_false_eq_true, upd_ne, b_rem, Int.reduceEq, if_false, ↓g_convert, Try.underlying3, Try.underlying5, ↓g_buildSlice, Try.underlying45, List.map_cons, List.map_nil, Try.underlying9, Nat.reduceEqDiff, a3, ↓g_assign, b_quo, onS_some, b_add, c_int, bs5_1, alK_some, ints_one, c_text, isU5, and_self, at_def, at_end, at_ints, Nat.zero_add, List.length_cons, List.length_nil, Nat.le_refl, List.drop_zero, List.take_succ_cons, List.take_zero, if_true, Option.bind_some, bytesA_ints, Option.map_some, t_add, son_size, onS_ite, true_and, ↓w_exit, of_str, mark_m, ↓w_ret, ret_one, onB_false]
      exact ⟨by show 1 + (digs n).length ≤ _; omega, congrArg (fun z => AV.sc (.string z)) hR⟩
  · refine ⟨_, _, [], rfl, Nat.le_refl _, by simp, ?_, ?_⟩ <;> simp -implicitDefEqProofs only [ne_eq, reduceCtorEq, not_false_eq_true, upd_ne, par0, upd_eq] <;> rfl
def mkP (k : Nat) : Prt := ⟨(k : Int), ((k + 1 : Nat) : Int), ((k + 2 : Nat) : Int), mkT (k + 3)⟩
def mkPs (k : Nat) : Nat → List Prt
  | 0 => []
  | n + 1 => mkPs k n ++ [mkP (k + 4 * n)]
theorem mkPs_len (k : Nat) : ∀ n, (mkPs k n).length = n
  | 0 => rfl
  | n + 1 => by rw [mkPs, List.length_append, mkPs_len k n]; rfl
theorem mkPs_get (k : Nat) : ∀ n i, i < n → (mkPs k n)[i]? = some (mkP (k + 4 * i))
  | 0, i, h => by omega
  | n + 1, i, h => by
    rw [mkPs]
    by_cases hi : i < n
    · rw [List.getElem?_append_left (by rw [mkPs_len]; exact hi)]
      exact mkPs_get k n i hi
    · have : i = n := by omega
      subst this
      rw [List.getElem?_append_right (by rw [mkPs_len]; exact Nat.le_refl _), mkPs_len, Nat.sub_self]
      rfl
theorem markPartsS {H : AHeap} {r n : Nat} {l : List Prt} (hr : H[r]? = some ⟨rows pcs l, true, true⟩) (hn : l.length = n) (hl : n ≤ 1000000000) : Sound Try.prog 23 [.sl r 0 n 4, .sc (.int .i64 1)] H (.sc (.int .i64 ((1 + 4 * n : Nat) : Int))) (H.set r ⟨rows pcs (mkPs 1 n), true, true⟩) := by
  refine Sound.run 42 [.tmp 4] Try.func23 rfl rfl rfl rfl (by simp) ?_
  have hrl : r < H.length := at_lt hr
  simp -implicitDefEqProofs only [↓w_seq, ↓w_region, ↓ops_cons, ↓g_assign, ↓ops_nil, ev_const, of_int, ↓w_block]
  refine w_loop (ι := Nat) (fun i s => ∃ (T : Nat → AV) (u : List Prt), s = ⟨tab 42 T, H.set r ⟨rows pcs u, true, true⟩⟩ ∧ u.length = n ∧ i ≤ n ∧ u.take i = mkPs 1 i ∧ T 0 = .sl r 0 n 4 ∧ T 1 = .sc (.int .i64 ((1 + 4 * i : Nat) : Int)) ∧ T 5 = .sc (.int .i64 i)) (fun i => n - i) ?_ (i := 0) ?_
  · rintro i s ⟨T, u, rfl, b1, a1, b2, a3, a4, a5⟩
    by_cases h : i < n
    · have k1 : (i : Int) < n := by omega
      have k2 : (0 : Int) ≤ i := by omega
      have e1 : IntKind.i64.wrap ((i : Int) + 1) = i + 1 := w64 (by omega) (by omega)
      have e2 : IntKind.i64.wrap (((1 + 4 * i : Nat) : Int) + 1) = ((1 + 4 * i + 1 : Nat) : Int) := by rw [w64 (by omega) (by omega)]; omega
      have e3 : IntKind.i64.wrap (((1 + 4 * i + 1 : Nat) : Int) + 1) = ((1 + 4 * i + 2 : Nat) : Int) := by rw [w64 (by omega) (by omega)]; omega
      have e4 : IntKind.i64.wrap (((1 + 4 * i + 2 : Nat) : Int) + 1) = ((1 + 4 * i + 3 : Nat) : Int) := by rw [w64 (by omega) (by omega)]; omega
      have e5 : IntKind.i64.wrap (((1 + 4 * i + 3 : Nat) : Int) + 1) = ((1 + 4 * (i + 1) : Nat) : Int) := by rw [w64 (by omega) (by omega)]; omega
      obtain ⟨p, hp⟩ : ∃ p, u[i]? = some p := ⟨u[i]'(by omega), List.getElem?_eq_getElem (by omega)⟩
      have hiu : i < u.length := by omega
      have s0 := fun (G : AHeap) r => wr_cell (H := G) pcsE (j := 0) (b := ⟨((1 + 4 * i : Nat) : Int), p.t, p.f, p.z⟩) (y := .sc (.int .i64 ((1 + 4 * i : Nat) : Int))) hp (by decide) rfl ⟨rfl, rfl⟩ r
      have p1 : (u.set i ⟨((1 + 4 * i : Nat) : Int), p.t, p.f, p.z⟩)[i]? = some ⟨((1 + 4 * i : Nat) : Int), p.t, p.f, p.z⟩ := List.getElem?_set_self hiu
      have s1 := fun (G : AHeap) r => wr_cell (H := G) pcsE (j := 1) (b := ⟨((1 + 4 * i : Nat) : Int), ((1 + 4 * i + 1 : Nat) : Int), p.f, p.z⟩) (y := .sc (.int .i64 ((1 + 4 * i + 1 : Nat) : Int))) p1 (by decide) rfl ⟨rfl, rfl⟩ r
      have p2 : (u.set i ⟨((1 + 4 * i : Nat) : Int), ((1 + 4 * i + 1 : Nat) : Int), p.f, p.z⟩)[i]? = some ⟨((1 + 4 * i : Nat) : Int), ((1 + 4 * i + 1 : Nat) : Int), p.f, p.z⟩ := List.getElem?_set_self hiu
      have s2 := fun (G : AHeap) r => wr_cell (H := G) pcsE (j := 2) (b := ⟨((1 + 4 * i : Nat) : Int), ((1 + 4 * i + 1 : Nat) : Int), ((1 + 4 * i + 2 : Nat) : Int), p.z⟩) (y := .sc (.int .i64 ((1 + 4 * i + 2 : Nat) : Int))) p2 (by decide) rfl ⟨rfl, rfl⟩ r
      have p3 : (u.set i ⟨((1 + 4 * i : Nat) : Int), ((1 + 4 * i + 1 : Nat) : Int), ((1 + 4 * i + 2 : Nat) : Int), p.z⟩)[i]? = some ⟨((1 + 4 * i : Nat) : Int), ((1 + 4 * i + 1 : Nat) : Int), ((1 + 4 * i + 2 : Nat) : Int), p.z⟩ := List.getElem?_set_self hiu
      have s3 := fun (G : AHeap) r => wr_cell (H := G) pcsE (j := 3) (b := mkP (1 + 4 * i)) (y := .sc (.string (mkT (1 + 4 * i + 3)))) p3 (by decide) rfl ⟨rfl, rfl⟩ r
      rw [List.set_set] at s1 s2 s3
      have sset : ∀ g : Reg, (H.set r g)[r]? = some g := fun g => List.getElem?_set_self hrl
      simp -implicitDefEqProofs only [↓w_seq, ↓w_region, ↓ops_cons, ↓g_move, ↓g_len, Try.underlying39, Nat.reduceLT, ev_tab, a5, ne_eq, reduceCtorEq, not_false_eq_true, upd_ne, a3, upd_eq, len_sl, ↓g_binOp, Nat.reduceEqDiff, ↓ops_nil, ↓w_cond, ↓w_skip, ↓w_block, ↓g_indexAddr, a4, adr_sl, k2, k1, cells27, tyOk27, and_self, Int.toNat_natCast, Nat.zero_add, if_true, ↓g_fieldAddrT, ↓g_store, ev_const, of_int, b_add, e2, ↓g_assign, onS_some, fadr27_2, wr_def, tyOk3, cells3, fadr27_1, e3, e4, fadr27_0, sset, s0, List.set_set, s1, s2, ↓w_exit, ↓w_ret, ret_one, b_lss, decide_true, onB_true]
      refine call1 (by simp -implicitDefEqProofs only [List.map_cons, Nat.reduceLT, ev_tab, upd_eq, List.map_nil] <;> rfl) (markTextS (1 + 4 * i + 3) (by omega) (by omega)) ?_
      simp -implicitDefEqProofs only [↓ops_cons, ↓g_indexAddr, Try.underlying39, Nat.reduceLT, ev_tab, ne_eq, Nat.reduceEqDiff, not_false_eq_true, upd_ne, upd_eq, adr_sl, k2, k1, cells27, tyOk27, and_self, Int.toNat_natCast, Nat.zero_add, if_true, ↓g_fieldAddrT, ↓g_store, ↓ops_nil, ↓w_region, ↓g_move, ↓g_binOp, ev_const, of_int, b_add, e5, ↓g_assign, a5, e1, onS_some, fadr27_3, wr_def, tyOk9, cells9, sset, s3, List.set_set]
      refine ⟨i + 1, by omega, _, _, rfl, ?_, by omega, ?_, ?_, ?_, ?_⟩
      · rw [List.length_set, b1]
      · rw [List.take_add_one, List.take_set_of_le (by omega), b2, List.getElem?_set_self (by omega)]
        rfl
      · simp -implicitDefEqProofs only [ne_eq, reduceCtorEq, not_false_eq_true, upd_ne, a3]
      · simp -implicitDefEqProofs only [ne_eq, Nat.reduceEqDiff, not_false_eq_true, upd_ne, upd_eq]
      · simp -implicitDefEqProofs only [upd_eq] <;> rfl
    · have k1 : ¬ (i : Int) < n := by omega
      have e : i = n := by omega
      subst e
      have hu : u = mkPs 1 i := by
        rw [← b2, ← b1, List.take_length]
      rw [hu]
      simp -implicitDefEqProofs only [↓w_seq, ↓w_region, ↓ops_cons, ↓g_move, ↓g_len, Try.underlying39, Nat.reduceLT, ev_tab, a5, ne_eq, reduceCtorEq, not_false_eq_true, upd_ne, a3, upd_eq, len_sl, ↓g_binOp, Nat.reduceEqDiff, ↓ops_nil, ↓w_cond, ↓w_skip, ↓w_block, ↓g_indexAddr, a4, adr_sl, k1, cells27, tyOk27, and_self, and_true, and_false, Nat.zero_add, if_false, ↓g_fieldAddrT, ↓g_store, ev_const, of_int, b_add, ↓g_assign, onS_some, ↓w_exit, ↓w_ret, ret_one, if_true, b_lss, decide_false, onB_false]
  · have hH : H = H.set r ⟨rows pcs l, true, true⟩ := by
      have := (List.getElem?_eq_some_iff.1 hr).2
      rw [← this, List.set_getElem_self]
    refine ⟨_, l, congrArg (St.mk _) hH, hn, by omega, by simp [mkPs], ?_, ?_, ?_⟩ <;> simp -implicitDefEqProofs only [ne_eq, reduceCtorEq, not_false_eq_true, upd_ne, par0, Nat.reduceEqDiff, par1, Nat.reduceMul, Nat.reduceAdd, Int.cast_ofNat_Int, upd_eq] <;> rfl
theorem markPartsN (H : AHeap) : Sound Try.prog 23 [.sc (.slice none 0 0), .sc (.int .i64 1)] H (.sc (.int .i64 1)) H := by
  refine Sound.run 42 [.tmp 4] Try.func23 rfl rfl rfl rfl (by simp) ?_
  simp -implicitDefEqProofs only [↓w_seq, ↓w_region, ↓ops_cons, ↓g_assign, ↓ops_nil, ev_const, of_int, ↓w_block]
  refine w_loop (ι := Nat) (fun i s => ∃ T : Nat → AV, s = ⟨tab 42 T, H⟩ ∧ T 0 = .sc (.slice none 0 0) ∧ T 1 = .sc (.int .i64 1) ∧ T 5 = .sc (.int .i64 0)) (fun i => i) ?_ (i := 0) ?_
  · rintro i s ⟨T, rfl, a3, a4, a5⟩
    simp -implicitDefEqProofs only [↓w_seq, ↓w_region, ↓ops_cons, ↓g_move, ↓g_len, Try.underlying39, Nat.reduceLT, ev_tab, a5, ne_eq, reduceCtorEq, not_false_eq_true, upd_ne, a3, upd_eq, len_nil, ↓g_binOp, Nat.reduceEqDiff, ↓ops_nil, ↓w_cond, ↓w_skip, ↓w_block, ↓g_indexAddr, a4, ↓g_fieldAddrT, ↓g_store, ev_const, of_int, b_add, Int.reduceAdd, ↓g_assign, onS_some, ↓w_exit, ↓w_ret, ret_one, and_self, if_true, b_lss, Int.reduceLT, decide_false, onB_false]
  · refine ⟨_, rfl, ?_, ?_, ?_⟩ <;> simp -implicitDefEqProofs only [ne_eq, reduceCtorEq, not_false_eq_true, upd_ne, par0, Nat.reduceEqDiff, par1, upd_eq] <;> rfl
theorem neq_self (a : Int) : (a != a) = false := by simp
theorem heldPartsS {H : AHeap} {x : AV} {n : Nat} (hx : IsPs H x (mkPs 1 n)) (hl : n ≤ 1000000000) : Sound Try.prog 24 [x, .sc (.int .i64 1)] H (.sc (.int .i64 ((1 + 4 * n : Nat) : Int))) H := by
  refine Sound.run 50 [.tmp 4] Try.func24 rfl rfl rfl rfl (by simp) ?_
  have lx := fun e => hx.len e
  have hlen := mkPs_len 1 n
  simp only [hlen] at lx
  simp -implicitDefEqProofs only [↓w_seq, ↓w_region, Int.reduceNeg, ↓ops_cons, ↓g_assign, ↓ops_nil, ev_const, of_int, ↓w_block]
  refine w_loop (ι := Nat) (fun i s => ∃ T : Nat → AV, s = ⟨tab 50 T, H⟩ ∧ i ≤ n ∧ T 0 = x ∧ T 1 = .sc (.int .i64 ((1 + 4 * i : Nat) : Int)) ∧ T 5 = .sc (.int .i64 i)) (fun i => n - i) ?_ (i := 0) ?_
  · rintro i s ⟨T, rfl, a1, a3, a4, a5⟩
    by_cases h : i < n
    · have k1 : (i : Int) < n := by omega
      have k2 : (0 : Int) ≤ i := by omega
      have e1 : IntKind.i64.wrap ((i : Int) + 1) = i + 1 := w64 (by omega) (by omega)
      have e2 : IntKind.i64.wrap (((1 + 4 * i : Nat) : Int) + 1) = ((1 + 4 * i + 1 : Nat) : Int) := by rw [w64 (by omega) (by omega)]; omega
      have e3 : IntKind.i64.wrap (((1 + 4 * i + 1 : Nat) : Int) + 1) = ((1 + 4 * i + 2 : Nat) : Int) := by rw [w64 (by omega) (by omega)]; omega
      have e4 : IntKind.i64.wrap (((1 + 4 * i + 2 : Nat) : Int) + 1) = ((1 + 4 * i + 3 : Nat) : Int) := by rw [w64 (by omega) (by omega)]; omega
      have e5 : IntKind.i64.wrap (((1 + 4 * i + 3 : Nat) : Int) + 1) = ((1 + 4 * (i + 1) : Nat) : Int) := by rw [w64 (by omega) (by omega)]; omega
      obtain ⟨r, o, rfl, hr⟩ := hx.get (i := i) (by rw [hlen]; exact h)
      have hp := mkPs_get 1 n i h
      have c0 : rdT true false 1 (some ⟨rows pcs (mkPs 1 n), o, true⟩) (i * 4 + 0) = some (.sc (.int .i64 ((1 + 4 * i : Nat) : Int))) := rd_cell pcsE hp (by decide) o
      have c1 : rdT true false 1 (some ⟨rows pcs (mkPs 1 n), o, true⟩) (i * 4 + 1) = some (.sc (.int .i64 ((1 + 4 * i + 1 : Nat) : Int))) := rd_cell pcsE hp (by decide) o
      have c2 : rdT true false 1 (some ⟨rows pcs (mkPs 1 n), o, true⟩) (i * 4 + 2) = some (.sc (.int .i64 ((1 + 4 * i + 2 : Nat) : Int))) := rd_cell pcsE hp (by decide) o
      have c3 : rdT true false 1 (some ⟨rows pcs (mkPs 1 n), o, true⟩) (i * 4 + 3) = some (.sc (.string (mkT (1 + 4 * i + 3)))) := rd_cell pcsE hp (by decide) o
      simp -implicitDefEqProofs only [↓w_seq, ↓w_region, Int.reduceNeg, hlen, ↓ops_cons, ↓g_move, ↓g_len, Try.underlying39, Nat.reduceLT, ev_tab, a5, ne_eq, reduceCtorEq, not_false_eq_true, upd_ne, a3, upd_eq, len_sl, ↓g_binOp, Nat.reduceEqDiff, ↓ops_nil, ↓w_cond, ↓w_skip, ↓w_block, ↓g_indexAddr, adr_sl, k2, k1, cells27, tyOk27, and_self, Int.toNat_natCast, Nat.zero_add, if_true, ↓g_fieldAddrT, ↓g_load, a4, ↓g_assign, ↓w_ret, ev_const, of_int, ret_one, and_true, b_add, e2, onS_some, fadr27_2, rd_def, tyOk3, agg3, cells3, hr, c2, fadr27_1, c1, b_neq, decide_true, Bool.not_true, e3, e4, onB_false, fadr27_0, c0, ↓w_exit, b_lss, onB_true]
      refine drawn [(4, 0), (4, 7)] follows (by kernel_rfl) (by kernel_rfl) ?_
      simp -implicitDefEqProofs only [Int.reduceNeg, ↓dops_cons, ↓g_move, ↓g_indexAddr, Try.underlying39, Nat.reduceLT, ev_tab, ne_eq, reduceCtorEq, not_false_eq_true, upd_ne, a3, hlen, Nat.reduceEqDiff, a5, upd_eq, adr_sl, k2, k1, cells27, tyOk27, and_self, Int.toNat_natCast, Nat.zero_add, if_true, ↓g_fieldAddrT, ↓g_load, onS_some, fadr27_3, rd_def, tyOk9, agg9, cells9, hr, c3]
      refine call1 (by simp -implicitDefEqProofs only [List.map_cons, Nat.reduceLT, ev_tab, upd_eq, List.map_nil] <;> rfl) (markTextS (1 + 4 * i + 3) (by omega) (by omega)) ?_
      simp -implicitDefEqProofs only [↓dops_cons, ↓g_binOp, Nat.reduceLT, ev_tab, ne_eq, Nat.reduceEqDiff, not_false_eq_true, upd_ne, upd_eq, t_neq, beq_self_eq_true, Bool.not_true, ↓dops_p, ↓w_cond, ↓w_seq, ↓w_region, Int.reduceNeg, ↓ops_cons, ↓g_assign, ↓ops_nil, ↓w_ret, ev_const, of_int, ret_one, and_true, ↓w_skip, ↓g_move, b_add, onS_some, onB_false]
      refine ⟨pairs_cons (same_H rfl) (pairs_cons (same_H rfl) (pairs_nil)), ?_⟩
      simp -implicitDefEqProofs only [a5, b_add, e1, e5, onS_some]
      refine ⟨i + 1, by omega, _, rfl, by omega, ?_, ?_, ?_⟩
      · simp -implicitDefEqProofs only [ne_eq, reduceCtorEq, not_false_eq_true, upd_ne, a3, hlen]
      · simp -implicitDefEqProofs only [ne_eq, Nat.reduceEqDiff, not_false_eq_true, upd_ne, upd_eq]
      · simp -implicitDefEqProofs only [upd_eq] <;> rfl
    · have k1 : ¬ (i : Int) < n := by omega
      have e : i = n := by omega
      subst e
      simp -implicitDefEqProofs only [↓w_seq, ↓w_region, Int.reduceNeg, ↓ops_cons, ↓g_move, ↓g_len, Try.underlying39, Nat.reduceLT, ev_tab, a5, ne_eq, reduceCtorEq, not_false_eq_true, upd_ne, a3, upd_eq, lx, ↓g_binOp, Nat.reduceEqDiff, ↓ops_nil, ↓w_cond, ↓w_skip, ↓w_block, ↓g_indexAddr, ↓g_fieldAddrT, ↓g_load, a4, ↓g_assign, ↓w_ret, ev_const, of_int, ret_one, and_true, b_add, onS_some, ↓w_exit, and_self, if_true, b_lss, k1, decide_false, onB_false]
  · refine ⟨_, rfl, by omega, ?_, ?_, ?_⟩ <;> simp -implicitDefEqProofs only [ne_eq, reduceCtorEq, not_false_eq_true, upd_ne, par0, Nat.reduceEqDiff, par1, Nat.reduceMul, Nat.reduceAdd, Int.cast_ofNat_Int, upd_eq] <;> rfl
end Go.Proofs.Ytheeehbaholjmaa.Sim

