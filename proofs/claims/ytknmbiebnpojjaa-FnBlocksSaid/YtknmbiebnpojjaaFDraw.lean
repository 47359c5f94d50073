/- Draws: a cursor over a text, and what is drawn with it. -/
import Derived.Test.YtknmbiebnpojjaaFHap
namespace Go.Proofs.Ytknmbiebnpojjaa.Sim
open Go
set_option maxRecDepth 100000
set_option maxHeartbeats 4000000
set_option linter.unusedSimpArgs false
set_option linter.unusedVariables false
theorem g_guard_u {P : Program} {ops : Array Oper} {K : St → Prop} {n : Nat} {T : Nat → AV} {H : AHeap} {d : Tmp} {ty : TypeId} {pos : String} {af : Array Edge} {op : Op} {j : Nat} {want : Bool} (h : yieldedA ops (tab n T) j = none) : opG P ops ⟨some d, op, ty, pos, af, some (j, want)⟩ K ⟨tab n T, H⟩ = K ⟨tab n (upd T d und), H⟩ := by
  rw [g_guard]
  simp only [h]
  have : ((none : Option Bool) == some want) = false := rfl
  simp only [this, St.put, set_tab]
theorem bo_u : boolOf und = none := rfl
def lowB (x : Int) : Nat := (bits .and .i64 x 255).toNat
theorem lowB_b (x : Int) : 0 ≤ bits .and .i64 x 255 ∧ bits .and .i64 x 255 < 256 := by
  have h : ((BitVec.ofInt IntKind.i64.bits x &&& BitVec.ofInt IntKind.i64.bits 255).toNat : Nat) ≤ 255 := by
    rw [BitVec.toNat_and]
    exact Nat.and_le_right
  have e : ∀ n : Nat, n ≤ 255 → IntKind.i64.wrap (n : Int) = n := fun n h => w64 (by omega) (by omega)
  show 0 ≤ IntKind.i64.wrap (((BitVec.ofInt IntKind.i64.bits x &&& BitVec.ofInt IntKind.i64.bits 255).toNat : Nat) : Int) ∧ IntKind.i64.wrap (((BitVec.ofInt IntKind.i64.bits x &&& BitVec.ofInt IntKind.i64.bits 255).toNat : Nat) : Int) < 256
  rw [e _ h]
  omega
theorem lowB_lt (x : Int) : lowB x < 256 := by
  have := lowB_b x
  unfold lowB
  omega
theorem and255 (x : Int) : bits .and .i64 x 255 = (lowB x : Int) := by
  have := lowB_b x
  unfold lowB
  omega
/-- A cursor. -/
def cur (x : AV) (i : Nat) (h : Int) : Reg := ⟨[x, .sc (.int .i64 i), .sc (.int .i64 h)], true, true⟩
def Cur (H : AHeap) (r : Nat) (x : AV) (L : List Int) : Prop := (∃ i h, H[r]? = some (cur x i h)) ∧ IsL H x .u8 L
/-- All is as it was but the cursor. -/
def Dr (r : Nat) (x : AV) (H Z : AHeap) : Prop := H.length ≤ Z.length ∧ (∀ i, i < H.length → i ≠ r → Z[i]? = H[i]?) ∧ ∃ i h, Z[r]? = some (cur x i h)
theorem cur_ne {H : AHeap} {r q : Nat} {x : AV} {i : Nat} {h : Int} {k : IntKind} {l : List Int} {o v : Bool} (h1 : H[r]? = some (cur x i h)) (h2 : H[q]? = some ⟨ints k l, o, v⟩) (hx : (∃ a b c, x = .sl a b c 1) ∨ x = .sc (.slice none 0 0)) : q ≠ r := by
  rintro rfl
  rw [h1] at h2
  injection h2 with h2
  have h3 : [x, .sc (.int .i64 i), .sc (.int .i64 h)] = ints k l := congrArg Reg.cs h2
  cases l with
  | nil => cases h3
  | cons a l =>
    injection h3 with h3 _
    rcases hx with ⟨a, b, c, rfl⟩ | rfl <;> cases h3
theorem IsL.kind {H : AHeap} {x : AV} {k : IntKind} {l : List Int} (h : IsL H x k l) : (∃ a b c, x = .sl a b c 1) ∨ x = .sc (.slice none 0 0) := by
  rcases h with ⟨rfl, _⟩ | ⟨r, o, rfl, _⟩
  · exact .inr rfl
  · exact .inl ⟨_, _, _, rfl⟩
theorem Cur.dr {H Z : AHeap} {r : Nat} {x : AV} {L : List Int} (c : Cur H r x L) (d : Dr r x H Z) : Cur Z r x L := by
  obtain ⟨⟨i, h, c1⟩, c2⟩ := c
  obtain ⟨_, d2, d3⟩ := d
  refine ⟨d3, ?_⟩
  rcases id c2 with ⟨e1, e2⟩ | ⟨q, o, rfl, hq⟩
  · exact .inl ⟨e1, e2⟩
  · exact .inr ⟨q, o, rfl, (d2 q (at_lt hq) (cur_ne c1 hq c2.kind)).trans hq⟩
theorem Cur.app {H : AHeap} {r : Nat} {x : AV} {L : List Int} (c : Cur H r x L) (Y : AHeap) : Cur (H ++ Y) r x L := by
  obtain ⟨⟨i, h, c1⟩, c2⟩ := c
  refine ⟨⟨i, h, (at_more _ _ _ (at_lt c1)).trans c1⟩, ?_⟩
  rcases c2 with ⟨e1, e2⟩ | ⟨q, o, rfl, hq⟩
  · exact .inl ⟨e1, e2⟩
  · exact .inr ⟨q, o, rfl, (at_more _ _ _ (at_lt hq)).trans hq⟩
theorem Dr.trans {r : Nat} {x : AV} {H Z Y : AHeap} (a : Dr r x H Z) (b : Dr r x Z Y) : Dr r x H Y := by
  obtain ⟨a1, a2, _⟩ := a
  obtain ⟨b1, b2, b3⟩ := b
  exact ⟨by omega, fun i h k => (b2 i (by omega) k).trans (a2 i h k), b3⟩
theorem Dr.app {r : Nat} {x : AV} {H Y Z : AHeap} (a : Dr r x (H ++ Y) Z) : Dr r x H Z := by
  obtain ⟨a1, a2, a3⟩ := a
  rw [List.length_append] at a1
  exact ⟨by omega, fun i h k => (a2 i (by rw [List.length_append]; omega) k).trans (at_more _ _ _ h), a3⟩
theorem Dr.rfl {r : Nat} {x : AV} {H : AHeap} {L : List Int} (c : Cur H r x L) : Dr r x H H := ⟨Nat.le_refl _, fun _ _ _ => _root_.rfl, c.1⟩
theorem Dr.more {r : Nat} {x : AV} {H Z : AHeap} (a : Dr r x H Z) (hr : r < H.length) (Y : AHeap) : Dr r x H (Z ++ Y) := by
  obtain ⟨a1, a2, i, h, a3⟩ := a
  exact ⟨by rw [List.length_append]; omega, fun i h k => (at_more _ _ _ (by omega)).trans (a2 i h k), i, h, (at_more _ _ _ (by omega)).trans a3⟩
theorem Dr.set {H : AHeap} {r : Nat} {x : AV} {L : List Int} (c : Cur H r x L) (i : Nat) (h : Int) : Dr r x H (H.set r (cur x i h)) := by
  obtain ⟨⟨i0, h0, c1⟩, _⟩ := c
  have hr := at_lt c1
  refine ⟨by rw [List.length_set]; omega, fun j _ k => List.getElem?_set_ne (fun e => k e.symm), i, h, ?_⟩
  rw [List.getElem?_set_self hr]
theorem Dr.kill {r q : Nat} {x : AV} {H Z : AHeap} (a : Dr r x H Z) (hq : H.length ≤ q) (hr : r < H.length) : Dr r x H (killReg Z q) := by
  obtain ⟨a1, a2, i, h, a3⟩ := a
  exact ⟨by rw [kill_len]; exact a1, fun j k l => (kill_at _ _ _ (by omega)).trans (a2 j k l), i, h, (kill_at _ _ _ (by omega)).trans a3⟩
theorem Cur.lt {H : AHeap} {r : Nat} {x : AV} {L : List Int} (c : Cur H r x L) : r < H.length := by
  obtain ⟨⟨i, h, c1⟩, _⟩ := c
  exact at_lt c1
theorem nil_ptr (r off : Nat) : nilV (.ptr r off) = some (.ptr r off) := rfl
theorem drawByte {H : AHeap} {r : Nat} {x : AV} {L : List Int} (c : Cur H r x L) (hL : L.length ≤ 4000000) : ∃ (v : Nat) (Z : AHeap), v < 256 ∧ Sound Try.prog 75 [.ptr r 0] H (.sc (.int .i64 v)) Z ∧ Dr r x H Z := by
  suffices h : ∃ v Z, Sound Try.prog 75 [.ptr r 0] H v Z ∧ ∃ n : Nat, n < 256 ∧ v = .sc (.int .i64 n) ∧ Dr r x H Z by
    obtain ⟨v, Z, h1, n, h2, rfl, h3⟩ := h
    exact ⟨n, Z, h2, h1, h3⟩
  obtain ⟨⟨i, h, c1⟩, c2⟩ := id c
  have hr := at_lt c1
  have c1' : H[r]? = some ⟨[x, .sc (.int .i64 i), .sc (.int .i64 h)], true, true⟩ := c1
  have hs : ∀ g : Reg, (H.set r g)[r]? = some g := fun g => List.getElem?_set_self hr
  have lx := fun e => c2.len e
  have x1 : x.cells = [x] ∧ x.one = true := by
    rcases c2.kind with ⟨_, _, _, rfl⟩ | rfl <;> exact ⟨rfl, rfl⟩
  refine Sound.runP (args := [.ptr r 0]) 58 [.tmp 2] Try.func75 rfl rfl rfl rfl (by simp) (fun v Z => ∃ n : Nat, n < 256 ∧ v = .sc (.int .i64 n) ∧ Dr r x H Z) ?_
  simp -implicitDefEqProofs only [↓w_seq, ↓w_region, ↓ops_cons, ↓g_assign, ↓ops_nil, ev_const, of_int, ↓g_move, ↓g_nilCheck, Nat.reduceLT, ev_tab, ne_eq, reduceCtorEq, not_false_eq_true, upd_ne, par0, upd_eq, nil_ptr, ↓g_fieldAddrT, ↓g_load, ↓g_binOp, Nat.reduceEqDiff, ↓g_store, onS_some, fadr110_2, Nat.zero_add, wr_def, tyOk3, cells3, c1', wr_c, Nat.reduceAdd, List.length_cons, List.length_nil, Nat.le_refl, true_and, over_s, onS_ite, rd_def, agg3, rd_onec, List.getElem?_cons_succ, List.getElem?_cons_zero, b_mul, b_add, cells_int, List.all_cons, one_int, List.all_nil, Bool.and_self, and_self, over_0]
  refine drawn [(3, 0), (8, 0)] follows (by kernel_rfl) (by kernel_rfl) ?_
  simp -implicitDefEqProofs only [↓dops_cons, ↓g_move, ↓g_nilCheck, Nat.reduceLT, ev_tab, ne_eq, reduceCtorEq, not_false_eq_true, upd_ne, par0, upd_eq, nil_ptr, ↓g_fieldAddrT, ↓g_load, ↓g_binOp, ev_const, of_int, Nat.reduceEqDiff, ↓g_assign, ↓dops_p, ↓w_seq, onS_some, fadr110_2, Nat.zero_add, rd_def, tyOk3, agg3, cells3, hs, rd_onec, List.getElem?_cons_succ, List.getElem?_cons_zero, b_shr, Int.reduceLT, Int.reduceToNat, bits_i64, Nat.reduceLeDiff, Nat.min_eq_left, Int.reducePow, if_false, b_xor, b_and, and255]
  refine ⟨pairs_cons (same_H rfl) (pairs_cons (same_H rfl) (pairs_nil)), ?_⟩
  refine drawn [(3, 0), (7, 0)] follows (by kernel_rfl) (by kernel_rfl) ?_
  simp -implicitDefEqProofs only [↓dops_cons, ↓g_move, ↓g_nilCheck, Nat.reduceLT, ev_tab, ne_eq, reduceCtorEq, not_false_eq_true, upd_ne, par0, upd_eq, nil_ptr, ↓g_fieldAddrT, ↓g_load, ↓g_len, Try.underlying22, ↓g_binOp, Nat.reduceEqDiff, ↓dops_p, ↓w_cond, ↓w_seq, ↓w_skip, ↓w_region, ↓ops_cons, ↓g_assign, ↓ops_nil, ↓w_ret, retP_1, res_tmp, onS_some, fadr110_0, Nat.zero_add, rd_def, tyOk22, agg22, cells22, hs, rd_onec, List.getElem?_cons_zero, lx, fadr110_1, tyOk3, agg3, cells3, List.getElem?_cons_succ, b_lss, onB_dec]
  refine ⟨pairs_cons (same_H rfl) (pairs_cons (same_H rfl) (pairs_nil)), ?_⟩
  by_cases hi : i < L.length
  · have k1 : (i : Int) < L.length := by omega
    have k2 : (0 : Int) ≤ i := by omega
    obtain ⟨q, o, rfl, hq⟩ := c2.get hi
    have hne := cur_ne c1 hq (.inl ⟨_, _, _, rfl⟩)
    have hq2 : ∀ g : Reg, (H.set r g)[q]? = some ⟨ints .u8 L, o, true⟩ := fun g => (List.getElem?_set_ne (fun e => hne e.symm)).trans hq
    have e1 : IntKind.i64.wrap ((i : Int) + 1) = ((i + 1 : Nat) : Int) := by rw [w64 (by omega) (by omega)]; omega
    simp -implicitDefEqProofs only [k1, decide_true, if_true]
    refine drawn [(4, 0), (8, 0), (10, 0)] follows (by kernel_rfl) (by kernel_rfl) ?_
    simp -implicitDefEqProofs only [↓dops_cons, ↓g_move, ↓g_nilCheck, Nat.reduceLT, ev_tab, ne_eq, Nat.reduceEqDiff, not_false_eq_true, upd_ne, upd_eq, reduceCtorEq, par0, nil_ptr, ↓g_fieldAddrT, ↓g_load, ↓g_indexAddr, Try.underlying22, ↓g_convert, Try.underlying5, Try.underlying3, ↓g_binOp, ev_const, of_int, ↓g_assign, ↓dops_p, ↓w_region, ↓ops_cons, ↓g_store, ↓ops_nil, ↓w_seq, ↓w_ret, retP_1, res_tmp, onS_some, fadr110_1, Nat.zero_add, wr_def, tyOk3, cells3, rd_def, agg3, hs, rd_onec, List.getElem?_cons_succ, List.getElem?_cons_zero, fadr110_0, tyOk22, agg22, cells22, adr_sl, k2, k1, cells5, tyOk5, and_self, Int.toNat_natCast, Nat.mul_one, if_true, agg5, hq2, rd_ints, hi, c_int, b_add, wr_c, Nat.reduceAdd, List.length_cons, List.length_nil, Nat.reduceLeDiff, true_and, over_s, List.set_set, onS_ite, e1, cells_int, List.all_cons, one_int, List.all_nil, Bool.and_self, over_0, b_and, and255]
    refine ⟨pairs_cons (same_H rfl) (pairs_cons (same_H rfl) (pairs_cons (same_H rfl) (pairs_nil))), ?_⟩
    exact ⟨_, lowB_lt _, rfl, Dr.set c _ _⟩
  · have k1 : ¬ (i : Int) < L.length := by omega
    simp -implicitDefEqProofs only [k1, decide_false, if_false]
    exact ⟨_, lowB_lt _, rfl, Dr.set c _ _⟩
end Go.Proofs.Ytknmbiebnpojjaa.Sim

