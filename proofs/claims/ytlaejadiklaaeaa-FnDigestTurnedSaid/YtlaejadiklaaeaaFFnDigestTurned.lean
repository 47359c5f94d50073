/- A digest of a drawn text, also with one byte turned: the law returns true. -/
import Derived.Test.YtlaejadiklaaeaaFHex
import Derived.Test.YtlaejadiklaaeaaFLawDr
import Derived.Test.YtlaejadiklaaeaaFTurned
import Derived.Test.YtlaejadiklaaeaaFPad
import Derived.Test.YtlaejadiklaaeaaFFnExactCutDigest
namespace Go.Proofs.Ytlaejadiklaaeaa.Sim
open Go
set_option maxRecDepth 100000
set_option maxHeartbeats 40000000
set_option linter.unusedSimpArgs false
set_option linter.unusedVariables false
theorem hiL_byte (x : Int) : ∀ w, ∀ y ∈ hiL x w, 0 ≤ y ∧ y < 256 := by
  intro w
  induction w generalizing x with
  | zero => intro y hy; simp [hiL] at hy
  | succ w ih =>
    intro y hy
    simp only [hiL, List.mem_append, List.mem_singleton] at hy
    rcases hy with hy | rfl
    · exact ih _ y hy
    · omega
theorem padL_byte (z : ByteArray) : ∀ y ∈ padL z, 0 ≤ y ∧ y < 256 := by
  intro y hy
  simp only [padL, List.mem_append, List.mem_cons] at hy
  rcases hy with hy | rfl | hy | hy
  · exact nums_range z y hy
  · omega
  · rw [List.eq_of_mem_replicate hy]
    omega
  · exact hiL_byte _ _ y hy
theorem padT_inj {a b : ByteArray} (h : padT a = padT b) (hs : a.size = b.size) : a = b := by
  have h1 : padL a = padL b := by
    rw [← nums_son (padL_byte a), ← nums_son (padL_byte b)]
    exact congrArg nums h
  have h2 : (padL a).take a.size = (padL b).take a.size := by rw [h1]
  rw [padL, padL, List.take_left' (nums_len a), List.take_left' (by rw [nums_len, hs])] at h2
  exact nums_inj h2
theorem xor8_ne (x b : Nat) (hx : x < 256) (hb : b < 256) (h0 : 0 < b) : bits .xor .u8 (x : Int) (b : Int) ≠ (x : Int) ∧ 0 ≤ bits .xor .u8 (x : Int) (b : Int) ∧ bits .xor .u8 (x : Int) (b : Int) < 256 := by
  have hxb : x ^^^ b < 2 ^ 8 := Nat.xor_lt_two_pow hx hb
  have e : (BitVec.ofInt IntKind.u8.bits (x : Int) ^^^ BitVec.ofInt IntKind.u8.bits (b : Int)).toNat = x ^^^ b := by
    rw [BitVec.toNat_xor]
    have f : ∀ n : Nat, n < 2 ^ 8 → (BitVec.ofInt IntKind.u8.bits (n : Int)).toNat = n := fun n hn => by
      rw [BitVec.ofInt_natCast, BitVec.toNat_ofNat]
      exact Nat.mod_eq_of_lt hn
    rw [f x hx, f b hb]
  have e2 : bits .xor .u8 (x : Int) (b : Int) = ((x ^^^ b : Nat) : Int) := by
    show IntKind.u8.wrap ((BitVec.ofInt IntKind.u8.bits (x : Int) ^^^ BitVec.ofInt IntKind.u8.bits (b : Int)).toNat : Int) = _
    rw [e, u8_id (by omega) (by omega)]
  rw [e2]
  refine ⟨fun h => ?_, by omega, by omega⟩
  have h1 : x ^^^ b = x := by omega
  have h2 : x ^^^ (x ^^^ b) = x ^^^ x := by rw [h1]
  rw [← Nat.xor_assoc, Nat.xor_self, Nat.zero_xor] at h2
  omega
theorem trn_ne (z : ByteArray) (i b : Nat) (hi : i < z.size) (hb : b < 256) (h0 : 0 < b) : trn z i (b : Int) ≠ z ∧ (trn z i (b : Int)).size = z.size := by
  have hl : i < (nums z).length := by rw [nums_len]; exact hi
  have hm : (nums z).getD i 0 ∈ nums z := by
    rw [List.getD_eq_getElem?_getD, List.getElem?_eq_getElem hl]
    exact List.getElem_mem hl
  have hr := nums_range z _ hm
  obtain ⟨x, hx⟩ := Int.eq_ofNat_of_zero_le hr.1
  have hx2 : x < 256 := by omega
  obtain ⟨n1, n2, n3⟩ := xor8_ne x b hx2 hb h0
  refine ⟨fun h => ?_, by rw [trn, son_size, List.length_set, nums_len]⟩
  have hall : ∀ y ∈ (nums z).set i (bits .xor .u8 ((nums z).getD i 0) b), 0 ≤ y ∧ y < 256 := by
    intro y hy
    rcases List.mem_or_eq_of_mem_set hy with hy | rfl
    · exact nums_range z y hy
    · rw [hx]
      exact ⟨n2, n3⟩
  have h1 : (nums z).set i (bits .xor .u8 ((nums z).getD i 0) b) = nums z := by
    have := congrArg nums h
    rwa [trn, nums_son hall] at this
  have h2 : ((nums z).set i (bits .xor .u8 ((nums z).getD i 0) b)).getD i 0 = (nums z).getD i 0 := by rw [h1]
  rw [List.getD_eq_getElem?_getD, List.getElem?_set_self hl] at h2
  simp only [Option.getD_some, hx] at h2
  exact n1 h2
theorem neB {x z : ByteArray} (h : x ≠ z) : (x.toList == z.toList) = false := by
  rw [beq_eq_false_iff_ne]
  exact fun he => h (toL_inj.1 he)
theorem lawFnDigestTurned (H : AHeap) (x : AV) (L : List Int) (hL0 : L.length ≤ 9223372036854775807) (hx : IsL H x .u8 L) : ∃ H', Sound Try.prog 12 [x] H (.sc (.bool true)) H' := by
  have key : ∃ v H', Sound Try.prog 12 [x] H v H' ∧ v = .sc (.bool true) := by
    refine Sound.runP (args := [x]) 67 [.tmp 2] Try.func12 rfl rfl rfl rfl (by simp) (fun v Z => v = .sc (.bool true)) ?_
    have hb := bigS hx
    by_cases hL : L.length ≤ 1048576
    · rw [bigNo hL] at hb
      simp -implicitDefEqProofs only [↓w_seq, ↓w_region, ↓ops_cons, ↓g_assign, ↓ops_nil, ev_const, of_bool, ↓g_move, Nat.reduceLT, ev_tab, ne_eq, reduceCtorEq, not_false_eq_true, upd_ne, par0]
      refine call1S (by simp -implicitDefEqProofs only [List.map_cons, Nat.reduceLT, ev_tab, upd_eq, List.map_nil] <;> rfl) hb ?_
      obtain ⟨z0, Z1, z1, a1, e1⟩ := drawTextOf hx hL
      simp -implicitDefEqProofs only [↓ops_nil, ↓w_cond, Nat.reduceLT, ev_tab, upd_eq, ↓w_seq, ↓w_region, ↓ops_cons, ↓g_assign, ↓w_ret, ev_const, of_bool, retP_1, res_tmp, onS_some, ↓w_skip, ↓g_move, ne_eq, reduceCtorEq, not_false_eq_true, upd_ne, par0, onB_false]
      refine call1S (by simp -implicitDefEqProofs only [List.map_cons, Nat.reduceLT, ev_tab, upd_eq, List.map_nil] <;> rfl) a1 ?_
      obtain ⟨l, q, Z2, l1, l2, l3, l4, b1, b2⟩ := drawPlaces (e1.isL hx) hL
      have e2 := e1.trans b2
      have hA12 : (l.map fun a : Nat => (a : Int)).length = 12 := by rw [List.length_map, l1]
      obtain ⟨p0, p1, p2, hp0, hp1, hp2, g0, g1, g2⟩ : ∃ p0 p1 p2 : Nat, p0 < 10000 ∧ p1 < 10000 ∧ p2 < 10000 ∧ (l.map fun a : Nat => (a : Int)).getD 0 0 = p0 ∧ (l.map fun a : Nat => (a : Int)).getD 1 0 = p1 ∧ (l.map fun a : Nat => (a : Int)).getD 2 0 = p2 := by
        match l, l1, l2 with
        | a :: b :: c :: l, _, h => exact ⟨a, b, c, h a (by simp), h b (by simp), h c (by simp), rfl, rfl, rfl⟩
      generalize (l.map fun a : Nat => (a : Int)) = A at *
      have hsz : (z0 ++ (⟨#[120]⟩ : ByteArray)).size = z0.size + 1 := by rw [ByteArray.size_append]; rfl
      have hone : ((⟨#[120]⟩ : ByteArray)).size = 1 := rfl
      have kk : z0.size + 1 ≤ 9223372036854775807 := by omega
      simp -implicitDefEqProofs only [↓ops_cons, ↓g_binOp, Nat.reduceLT, ev_tab, upd_eq, ev_const, of_str, t_add, hone, kk, if_true, ↓g_assign, ↓ops_nil, ↓w_seq, ↓w_region, ↓g_move, ne_eq, reduceCtorEq, not_false_eq_true, upd_ne, par0, onS_some]
      refine call1S (by simp -implicitDefEqProofs only [List.map_cons, Nat.reduceLT, ev_tab, upd_eq, List.map_nil] <;> rfl) b1 ?_
      generalize z0 ++ (⟨#[120]⟩ : ByteArray) = z at *
      obtain ⟨Z3, c1, c2⟩ := turnedS z p0 p1 (by omega) (by omega) l4 hA12 g0 g1 hp0 hp1
      obtain ⟨t1, t2⟩ := trn_ne z (p0 % z.size) (1 + p1 % 255) (Nat.mod_lt _ (by omega)) (by omega) (by omega)
      generalize trn z (p0 % z.size) ((1 + p1 % 255 : Nat) : Int) = u at *
      simp -implicitDefEqProofs only [↓ops_cons, ↓g_assign, ↓ops_nil, ↓w_seq, ↓w_region, Nat.reduceLT, ev_tab, upd_eq, ↓g_move, ne_eq, Nat.reduceEqDiff, not_false_eq_true, upd_ne]
      refine call1S (by simp -implicitDefEqProofs only [List.map_cons, Nat.reduceLT, ev_tab, ne_eq, Nat.reduceEqDiff, not_false_eq_true, upd_ne, upd_eq, List.map_nil] <;> rfl) c1 ?_
      have l5 := c2.at l4
      have m1 : ((p2 : Int)).tmod 32 = ((p2 % 32 : Nat) : Int) := by rw [Int.tmod_eq_emod_of_nonneg (by omega)]; omega
      have m2 : IntKind.i64.wrap (1 + ((p2 % 32 : Nat) : Int)) = ((1 + p2 % 32 : Nat) : Int) := by rw [w64 (by omega) (by omega)]; omega
      have m3 : 1 + p2 % 32 ≤ 32 := by omega
      have m4 : 1 ≤ 1 + p2 % 32 := by omega
      have hc := cdI z ((1 + p2 % 32 : Nat) : Int) (by omega)
      have hc0 := cdI z 0 (by omega)
      have hc33 := cdI z 33 (by omega)
      rw [cutD, if_pos (by omega), Int.toNat_natCast] at hc
      rw [cutD, if_neg (by omega)] at hc0 hc33
      generalize 1 + p2 % 32 = w at *
      have k12 : (2 : Nat) < 12 := by decide
      simp -implicitDefEqProofs only [↓ops_cons, ↓g_assign, ↓ops_nil, ↓w_seq, ↓w_region, Nat.reduceLT, ev_tab, upd_eq, ↓g_move, ↓g_indexAddr, Try.underlying26, ne_eq, Nat.reduceEqDiff, not_false_eq_true, upd_ne, ev_const, of_int, adr_sl, Int.reduceLE, Int.cast_ofNat_Int, Int.reduceLT, cells3, tyOk3, and_self, Int.reduceToNat, Nat.mul_one, Nat.zero_add, if_true, ↓g_load, ↓g_binOp, onS_some, rd_def, agg3, l5, rd_ints, hA12, k12, g2, b_rem, Int.reduceEq, m1, if_false, b_add, m2]
      refine call1 (by simp -implicitDefEqProofs only [List.map_cons, Nat.reduceLT, ev_tab, upd_eq, List.map_nil] <;> rfl) (digI z (by omega)) ?_
      simp -implicitDefEqProofs only [↓ops_cons, ↓g_move, Nat.reduceLT, ev_tab, ne_eq, Nat.reduceEqDiff, not_false_eq_true, upd_ne, upd_eq]
      refine call1 (by simp -implicitDefEqProofs only [List.map_cons, Nat.reduceLT, ev_tab, upd_eq, List.map_nil] <;> rfl) (digS z (by omega)) ?_
      simp -implicitDefEqProofs only [↓ops_cons, ↓g_binOp, Nat.reduceLT, ev_tab, ne_eq, Nat.reduceEqDiff, not_false_eq_true, upd_ne, upd_eq, t_eql, beq_self_eq_true, ↓g_move, onS_some, yielded_tab, dstAt_s, dstAt_0, ybv_some, boolOf_b, ↓g_guard_t]
      refine call1 (by simp -implicitDefEqProofs only [List.map_cons, Nat.reduceLT, ev_tab, upd_eq, List.map_nil] <;> rfl) (digI u (by omega)) ?_
      simp -implicitDefEqProofs only [↓ops_cons, yielded_tab, dstAt_s, dstAt_0, Nat.reduceLT, ybv_some, ne_eq, Nat.reduceEqDiff, not_false_eq_true, upd_ne, upd_eq, boolOf_b, ↓g_guard_t, ↓g_move, ev_tab]
      refine call1 (by simp -implicitDefEqProofs only [List.map_cons, Nat.reduceLT, ev_tab, upd_eq, List.map_nil] <;> rfl) (digS u (by omega)) ?_
      simp -implicitDefEqProofs only [↓ops_cons, yielded_tab, dstAt_s, dstAt_0, Nat.reduceLT, ybv_some, ne_eq, Nat.reduceEqDiff, not_false_eq_true, upd_ne, upd_eq, boolOf_b, ↓g_guard_t, ↓g_binOp, ev_tab, t_eql, beq_self_eq_true, ↓g_pick, ev_const, of_bool, pick_b, if_true, ↓g_move, onS_some]
      refine call1 (by simp -implicitDefEqProofs only [List.map_cons, Nat.reduceLT, ev_tab, ne_eq, Nat.reduceEqDiff, not_false_eq_true, upd_ne, upd_eq, List.map_nil] <;> rfl) hc ?_
      simp -implicitDefEqProofs only [↓ops_cons, yielded_tab, dstAt_s, dstAt_0, Nat.reduceLT, ybv_some, ne_eq, Nat.reduceEqDiff, not_false_eq_true, upd_ne, upd_eq, boolOf_b, ↓g_guard_t, ↓g_move, ev_tab]
      refine call1 (by simp -implicitDefEqProofs only [List.map_cons, Nat.reduceLT, ev_tab, upd_eq, List.map_nil] <;> rfl) (digI z (by omega)) ?_
      have k0 : (0 : Int) ≤ (w : Int) := by omega
      have hds := dig_size z
      simp -implicitDefEqProofs only [↓ops_cons, yielded_tab, dstAt_s, dstAt_0, Nat.reduceLT, ybv_some, ne_eq, Nat.reduceEqDiff, not_false_eq_true, upd_ne, upd_eq, boolOf_b, ↓g_guard_t, ↓g_move, ev_tab, ↓g_slice, Try.underlying9, Option.map_none, Option.map_some, cut_str, bnd_none, hds, bnd_int, k0, Int.toNat_natCast, if_true, cutS_some, Nat.zero_le, m3, and_self, ↓g_binOp, ↓g_pick, ev_const, of_bool, pick_b, onS_some, t_eql, beq_self_eq_true]
      refine call1 (by simp -implicitDefEqProofs only [List.map_cons, Nat.reduceLT, ev_tab, upd_eq, ev_const, of_int, List.map_nil] <;> rfl) hc0 ?_
      have he : (ByteArray.empty.toList == ((⟨#[]⟩ : ByteArray)).toList) = true := by
        have h0 : ByteArray.empty = (⟨#[]⟩ : ByteArray) := rfl
        rw [h0]
        exact beq_self_eq_true _
      simp -implicitDefEqProofs only [↓ops_cons, yielded_tab, dstAt_s, dstAt_0, Nat.reduceLT, ybv_some, ne_eq, Nat.reduceEqDiff, not_false_eq_true, upd_ne, upd_eq, boolOf_b, ↓g_guard_t, ↓g_binOp, ev_tab, ev_const, of_str, t_eql, he, ↓g_pick, of_bool, pick_b, if_true, ↓g_move, onS_some]
      refine call1 (by simp -implicitDefEqProofs only [List.map_cons, Nat.reduceLT, ev_tab, upd_eq, ev_const, of_int, List.map_nil] <;> rfl) hc33 ?_
      simp -implicitDefEqProofs only [↓ops_cons, yielded_tab, dstAt_s, dstAt_0, Nat.reduceLT, ybv_some, ne_eq, Nat.reduceEqDiff, not_false_eq_true, upd_ne, upd_eq, boolOf_b, ↓g_guard_t, ↓g_binOp, ev_tab, ev_const, of_str, t_eql, he, ↓g_pick, of_bool, pick_b, if_true, ↓g_move, onS_some]
      refine call1 (by simp -implicitDefEqProofs only [List.map_cons, Nat.reduceLT, ev_tab, upd_eq, List.map_nil] <;> rfl) (hxI u (by omega)) ?_
      have hh : ((strOfNums (hexL (nums (dig u)))).size : Int) = 64 := by rw [son_size, hexL_len, nums_len, dig_size]; rfl
      simp -implicitDefEqProofs only [↓ops_cons, yielded_tab, dstAt_s, dstAt_0, Nat.reduceLT, ybv_some, ne_eq, Nat.reduceEqDiff, not_false_eq_true, upd_ne, upd_eq, boolOf_b, ↓g_guard_t, ↓g_len, Try.underlying9, ev_tab, len_str, hh, ↓g_binOp, ev_const, of_int, ↓g_pick, of_bool, pick_b, if_true, ↓g_move, onS_some, b_eql, decide_true]
      refine call1 (by simp -implicitDefEqProofs only [List.map_cons, Nat.reduceLT, ev_tab, upd_eq, List.map_nil] <;> rfl) (padI z (by omega)) ?_
      simp -implicitDefEqProofs only [↓ops_cons, yielded_tab, dstAt_s, dstAt_0, Nat.reduceLT, ybv_some, ne_eq, Nat.reduceEqDiff, not_false_eq_true, upd_ne, upd_eq, boolOf_b, ↓g_guard_t, ↓g_move, ev_tab]
      refine call1 (by simp -implicitDefEqProofs only [List.map_cons, Nat.reduceLT, ev_tab, upd_eq, List.map_nil] <;> rfl) (padI u (by omega)) ?_
      have hne : padT z ≠ padT u := fun h => t1 (padT_inj h (by omega)).symm
      simp -implicitDefEqProofs only [↓ops_cons, yielded_tab, dstAt_s, dstAt_0, Nat.reduceLT, ybv_some, ne_eq, Nat.reduceEqDiff, not_false_eq_true, upd_ne, upd_eq, boolOf_b, ↓g_guard_t, ↓g_binOp, ev_tab, t_neq, neB hne, Bool.not_false, ↓g_pick, ev_const, of_bool, pick_b, if_true, ↓g_assign, ↓ops_nil, ↓w_ret, retP_1, res_tmp, onS_some]
    · rw [bigYes hL] at hb
      simp -implicitDefEqProofs only [↓w_seq, ↓w_region, ↓ops_cons, ↓g_assign, ↓ops_nil, ev_const, of_bool, ↓g_move, Nat.reduceLT, ev_tab, ne_eq, reduceCtorEq, not_false_eq_true, upd_ne, par0]
      refine call1S (by simp -implicitDefEqProofs only [List.map_cons, Nat.reduceLT, ev_tab, upd_eq, List.map_nil] <;> rfl) hb ?_
      simp -implicitDefEqProofs only [↓ops_nil, ↓w_cond, Nat.reduceLT, ev_tab, upd_eq, ↓w_seq, ↓w_region, ↓ops_cons, ↓g_assign, ↓w_ret, ev_const, of_bool, retP_1, res_tmp, onS_some, ↓w_skip, ↓g_move, ne_eq, reduceCtorEq, not_false_eq_true, upd_ne, par0, onB_true]
  obtain ⟨v, H', h1, rfl⟩ := key
  exact ⟨H', h1⟩
end Go.Proofs.Ytlaejadiklaaeaa.Sim

