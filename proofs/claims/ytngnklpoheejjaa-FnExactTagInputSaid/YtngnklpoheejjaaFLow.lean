/- Numbers' bytes, the lowest first, there and back. -/
import Derived.Test.YtngnklpoheejjaaTy
import Derived.Test.YtngnklpoheejjaaChecked
namespace Go.Proofs.Ytngnklpoheejjaa.Sim
open Go
set_option maxRecDepth 100000
set_option maxHeartbeats 4000000
set_option linter.unusedSimpArgs false
set_option linter.unusedVariables false
/-- The bytes of a number, the lowest first. -/
def loL (x : Int) : Nat → List Int
  | 0 => []
  | w + 1 => loL x w ++ [x / 256 ^ w % 256]
theorem loL_len (x : Int) : ∀ w, (loL x w).length = w
  | 0 => rfl
  | w + 1 => by rw [loL, List.length_append, loL_len x w]; rfl
theorem loL_range (x : Int) (w : Nat) : ∀ y ∈ loL x w, 0 ≤ y ∧ y < 256 := by
  induction w with
  | zero => intro y hy; cases hy
  | succ w ih =>
    intro y hy
    simp only [loL, List.mem_append, List.mem_singleton] at hy
    rcases hy with hy | rfl
    · exact ih y hy
    · omega
theorem lo_set (x : Int) (w i : Nat) (h : i < w) : (loL x i ++ List.replicate (w - i) 0).set i (x / 256 ^ i % 256) = loL x (i + 1) ++ List.replicate (w - (i + 1)) 0 := by
  obtain ⟨m, hm⟩ : ∃ m, w - i = m + 1 := ⟨w - i - 1, by omega⟩
  rw [hm, show w - (i + 1) = m by omega, List.set_append_right _ _ (by rw [loL_len]; omega), loL_len, Nat.sub_self, List.replicate_succ, List.set_cons_zero, loL, List.append_assoc]
  rfl
theorem lowI (x : Int) (w : Nat) (h0 : 0 ≤ x) (h1 : x < 9223372036854775808) (hw : w ≤ 1000000) : Fn Try.prog 14 [.sc (.int .i64 x), .sc (.int .i64 w)] (.sc (.string (strOfNums (loL x w)))) := by
  refine Fn.run 25 [.tmp 4] Try.func14 rfl rfl rfl rfl (by simp) (flats_cons (.sc _) (flats_cons (.sc _) flats_nil)) (.sc _) ?_
  have k0 : ∀ j : Nat, (0 : Int) ≤ (j : Int) := fun j => by omega
  have k1 : (w : Int) ≤ 1000000000000 := by omega
  simp -implicitDefEqProofs only [↓w_seq, ↓w_region, ↓ops_cons, ↓g_assign, ↓ops_nil, ev_const, of_str, ↓g_move, ↓g_makeSlice, Try.underlying31, Nat.reduceLT, ev_tab, ne_eq, Nat.reduceEqDiff, not_false_eq_true, upd_ne, par1, upd_eq, k0, k1, mk5, Int.toNat_natCast, ↓g_len, ↓w_block, of_int, alK_some, ints_one, List.length_nil, len_sl, List.nil_append, onS_some, true_and]
  refine w_loop (ι := Nat) (fun i s => ∃ T : Nat → AV, s = ⟨tab 25 T, [⟨ints .u8 (loL x i ++ List.replicate (w - i) 0), true, true⟩]⟩ ∧ i ≤ w ∧ T 0 = .sc (.int .i64 (x / 256 ^ i)) ∧ T 5 = .sl 0 0 w 1 ∧ T 10 = .sc (.int .i64 w) ∧ T 11 = .sc (.int .i64 i)) (fun i => w - i) ?_ (i := 0) ?_
  · rintro i s ⟨T, rfl, a1, a2, a3, a4, a5⟩
    by_cases h : i < w
    · have k2 : (i : Int) < w := by omega
      have k3 : i < i + (w - i) := by omega
      have e1 : IntKind.i64.wrap ((i : Int) + 1) = i + 1 := w64 (by omega) (by omega)
      have hp : (0 : Int) < 256 ^ i := Int.pow_pos (by decide)
      have q0 : 0 ≤ x / 256 ^ i := Int.ediv_nonneg h0 (by omega)
      have q1 : x / 256 ^ i ≤ x := Int.ediv_le_self _ h0
      have e3 : bits .and .i64 (x / 256 ^ i) 255 = x / 256 ^ i % 256 := i64_and255 q0 (by omega)
      have e4 : IntKind.u8.wrap (x / 256 ^ i % 256) = x / 256 ^ i % 256 := u8_id (by omega) (by omega)
      have e5 : x / 256 ^ i / 256 = x / 256 ^ (i + 1) := by rw [Int.pow_succ, Int.ediv_ediv_of_nonneg (by omega)]
      simp -implicitDefEqProofs only [↓w_seq, ↓w_region, ↓ops_cons, ↓g_binOp, Nat.reduceLT, ev_tab, a5, a4, b_lss, k2, decide_true, ↓ops_nil, ↓w_cond, upd_eq, ↓w_skip, ↓w_block, ↓g_move, ↓g_assign, ne_eq, Nat.reduceEqDiff, not_false_eq_true, upd_ne, a3, reduceCtorEq, a2, ev_const, of_int, b_and, e3, ↓g_convert, Try.underlying3, Try.underlying5, ↓g_indexAddr, Try.underlying31, adr_sl, k0, cells5, tyOk5, and_self, Int.toNat_natCast, Nat.mul_one, Nat.zero_add, if_true, ↓g_store, b_shr, Int.reduceLT, Int.reduceToNat, bits_i64, Nat.reduceLeDiff, Nat.min_eq_left, Int.reducePow, e5, if_false, b_add, e1, onS_some, wr_def, c_int, List.getElem?_cons_zero, e4, wr_ints, List.length_append, loL_len, List.length_replicate, k3, lo_set x w i h, List.set_cons_zero, ↓w_exit, Try.underlying9, ↓w_ret, ret_one, c_text, isU5, at_def, at_ints, List.drop_zero, onB_true]
      refine ⟨i + 1, by omega, _, rfl, by omega, ?_, ?_, ?_, ?_⟩ <;> simp -implicitDefEqProofs only [ne_eq, reduceCtorEq, not_false_eq_true, upd_ne, upd_eq, Nat.reduceEqDiff, a3, a4] <;> rfl
    · have k2 : ¬ (i : Int) < w := by omega
      have hi : i = w := by omega
      subst hi
      have e : loL x i ++ List.replicate (i - i) 0 = loL x i := by simp
      have ht : (loL x i).take i = loL x i := List.take_of_length_le (by rw [loL_len]; omega)
      rw [e]
      simp -implicitDefEqProofs only [↓w_seq, ↓w_region, ↓ops_cons, ↓g_binOp, Nat.reduceLT, ev_tab, a5, a4, b_lss, k2, decide_false, ↓ops_nil, ↓w_cond, upd_eq, ↓w_skip, ↓w_block, ↓g_move, ↓g_assign, ne_eq, Nat.reduceEqDiff, not_false_eq_true, upd_ne, a3, reduceCtorEq, a2, ev_const, of_int, b_and, ↓g_convert, Try.underlying3, Try.underlying5, ↓g_indexAddr, Try.underlying31, adr_sl, cells5, tyOk5, and_self, and_true, and_false, Nat.mul_one, Nat.zero_add, if_false, ↓g_store, b_shr, Int.reduceLT, Int.reduceToNat, bits_i64, Nat.reduceLeDiff, Nat.min_eq_left, Int.reducePow, b_add, onS_some, c_int, ↓w_exit, Try.underlying9, ↓w_ret, ret_one, c_text, isU5, at_def, List.getElem?_cons_zero, at_ints, loL_len, Nat.le_refl, List.drop_zero, ht, if_true, Option.bind_some, bytesA_ints, Option.map_some, onB_false]
  · refine ⟨_, congrArg (St.mk _) (by simp [loL]), by omega, ?_, ?_, ?_, ?_⟩
    · simp -implicitDefEqProofs only [ne_eq, reduceCtorEq, not_false_eq_true, upd_ne, par0, Int.reducePow]
      simp
    · simp -implicitDefEqProofs only [ne_eq, Nat.reduceEqDiff, not_false_eq_true, upd_ne, upd_eq]
    · simp -implicitDefEqProofs only [ne_eq, Nat.reduceEqDiff, not_false_eq_true, upd_ne, upd_eq]
    · simp -implicitDefEqProofs only [upd_eq, Int.cast_ofNat_Int]
/-- The number of four bytes, the lowest first. -/
def le4 (z : ByteArray) (j : Nat) : Int := byteAt z j + byteAt z (j + 1) * 256 + byteAt z (j + 2) * 65536 + byteAt z (j + 3) * 16777216
theorem byte_range (z : ByteArray) (j : Nat) : 0 ≤ byteAt z j ∧ byteAt z j < 256 := by
  unfold byteAt
  have := ((z.data[j]?).getD 0).toNat_lt
  omega
theorem le4_range (z : ByteArray) (j : Nat) : 0 ≤ le4 z j ∧ le4 z j < 4294967296 := by
  have h0 := byte_range z j
  have h1 := byte_range z (j + 1)
  have h2 := byte_range z (j + 2)
  have h3 := byte_range z (j + 3)
  unfold le4
  omega
theorem or_add (a b : Int) (k : Nat) (ha : 0 ≤ a) (ha2 : a < 2 ^ k) (hb : 0 ≤ b) (hb2 : b < 256) (hk : k ≤ 24) : bits .or .i64 a (b * 2 ^ k) = a + b * 2 ^ k := by
  obtain ⟨m, rfl⟩ := Int.eq_ofNat_of_zero_le ha
  obtain ⟨n, rfl⟩ := Int.eq_ofNat_of_zero_le hb
  have hm : m < 2 ^ k := by exact_mod_cast ha2
  have hp : 2 ^ k ≤ 2 ^ 24 := Nat.pow_le_pow_right (by decide) hk
  have hn : n * 2 ^ k ≤ 255 * 2 ^ 24 := Nat.mul_le_mul (by omega) hp
  have e : ((n : Int) * 2 ^ k) = ((n * 2 ^ k : Nat) : Int) := by push_cast; rfl
  rw [e, (bits_nat .i64 63 (by decide) wraps_i64 m (n * 2 ^ k) (by omega) (by omega)).2]
  have := Nat.two_pow_add_eq_or_of_lt hm n
  rw [Nat.or_comm, Nat.mul_comm n, ← this]
  push_cast
  rw [Int.add_comm]
end Go.Proofs.Ytngnklpoheejjaa.Sim

