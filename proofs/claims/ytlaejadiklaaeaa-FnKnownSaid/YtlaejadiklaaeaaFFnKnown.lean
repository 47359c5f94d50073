/- What is known of the digest: the law returns true. -/
import Derived.Test.YtlaejadiklaaeaaFHex
import Derived.Test.YtlaejadiklaaeaaFLawDr
namespace Go.Proofs.Ytlaejadiklaaeaa.Sim
open Go
set_option maxRecDepth 100000
set_option maxHeartbeats 40000000
set_option linter.unusedSimpArgs false
set_option linter.unusedVariables false
theorem known0 : strOfNums (hexL (nums (dig (⟨#[]⟩ : ByteArray)))) = (⟨#[101, 51, 98, 48, 99, 52, 52, 50, 57, 56, 102, 99, 49, 99, 49, 52, 57, 97, 102, 98, 102, 52, 99, 56, 57, 57, 54, 102, 98, 57, 50, 52, 50, 55, 97, 101, 52, 49, 101, 52, 54, 52, 57, 98, 57, 51, 52, 99, 97, 52, 57, 53, 57, 57, 49, 98, 55, 56, 53, 50, 98, 56, 53, 53]⟩ : ByteArray) := by decide +kernel
theorem known1 : strOfNums (hexL (nums (dig (⟨#[97, 98, 99]⟩ : ByteArray)))) = (⟨#[98, 97, 55, 56, 49, 54, 98, 102, 56, 102, 48, 49, 99, 102, 101, 97, 52, 49, 52, 49, 52, 48, 100, 101, 53, 100, 97, 101, 50, 50, 50, 51, 98, 48, 48, 51, 54, 49, 97, 51, 57, 54, 49, 55, 55, 97, 57, 99, 98, 52, 49, 48, 102, 102, 54, 49, 102, 50, 48, 48, 49, 53, 97, 100]⟩ : ByteArray) := by decide +kernel
theorem known2 : strOfNums (hexL (nums (dig (⟨#[97, 98, 99, 100, 98, 99, 100, 101, 99, 100, 101, 102, 100, 101, 102, 103, 101, 102, 103, 104, 102, 103, 104, 105, 103, 104, 105, 106, 104, 105, 106, 107, 105, 106, 107, 108, 106, 107, 108, 109, 107, 108, 109, 110, 108, 109, 110, 111, 109, 110, 111, 112, 110, 111, 112, 113]⟩ : ByteArray)))) = (⟨#[50, 52, 56, 100, 54, 97, 54, 49, 100, 50, 48, 54, 51, 56, 98, 56, 101, 53, 99, 48, 50, 54, 57, 51, 48, 99, 51, 101, 54, 48, 51, 57, 97, 51, 51, 99, 101, 52, 53, 57, 54, 52, 102, 102, 50, 49, 54, 55, 102, 54, 101, 99, 101, 100, 100, 52, 49, 57, 100, 98, 48, 54, 99, 49]⟩ : ByteArray) := by decide +kernel
theorem lawFnKnown (H : AHeap) (x : AV) (L : List Int) (hL0 : L.length ≤ 9223372036854775807) (hx : IsL H x .u8 L) : ∃ H', Sound Try.prog 4 [x] H (.sc (.bool true)) H' := by
  have key : ∃ v H', Sound Try.prog 4 [x] H v H' ∧ v = .sc (.bool true) := by
    refine Sound.runP (args := [x]) 22 [.tmp 2] Try.func4 rfl rfl rfl rfl (by simp) (fun v Z => v = .sc (.bool true)) ?_
    have hb := bigS hx
    by_cases hL : L.length ≤ 1048576
    · rw [bigNo hL] at hb
      simp -implicitDefEqProofs only [↓w_seq, ↓w_region, ↓ops_cons, ↓g_assign, ↓ops_nil, ev_const, of_bool, ↓g_move, Nat.reduceLT, ev_tab, ne_eq, reduceCtorEq, not_false_eq_true, upd_ne, par0]
      refine call1S (by simp -implicitDefEqProofs only [List.map_cons, Nat.reduceLT, ev_tab, upd_eq, List.map_nil] <;> rfl) hb ?_
      obtain ⟨l, q, Z2, l1, l2, l3, l4, b1, b2⟩ := drawPlaces hx hL
      obtain ⟨p, p1, p2⟩ : ∃ p : Nat, p < 10000 ∧ (l.map fun a : Nat => (a : Int)).getD 0 0 = p := by
        match l, l1, l2 with
        | a :: l, _, h => exact ⟨a, h a (by simp), rfl⟩
      have l6 : 0 < (l.map fun a : Nat => (a : Int)).length := by rw [List.length_map]; omega
      generalize (l.map fun a : Nat => (a : Int)) = A at *
      have t1 : ((p : Int)).tmod 3 = ((p % 3 : Nat) : Int) := by rw [Int.tmod_eq_emod_of_nonneg (by omega)]; omega
      have t2 : p % 3 < 3 := by omega
      generalize p % 3 = c at *
      simp -implicitDefEqProofs only [↓ops_nil, ↓w_cond, Nat.reduceLT, ev_tab, upd_eq, ↓w_seq, ↓w_region, ↓ops_cons, ↓g_assign, ↓w_ret, ev_const, of_bool, retP_1, res_tmp, onS_some, ↓w_skip, ↓g_move, ne_eq, reduceCtorEq, not_false_eq_true, upd_ne, par0, onB_false]
      refine call1S (by simp -implicitDefEqProofs only [List.map_cons, Nat.reduceLT, ev_tab, upd_eq, List.map_nil] <;> rfl) b1 ?_
      have h0 := hxI (⟨#[]⟩ : ByteArray) (by decide)
      have h1 := hxI (⟨#[97, 98, 99]⟩ : ByteArray) (by decide)
      have h2 := hxI (⟨#[97, 98, 99, 100, 98, 99, 100, 101, 99, 100, 101, 102, 100, 101, 102, 103, 101, 102, 103, 104, 102, 103, 104, 105, 103, 104, 105, 106, 104, 105, 106, 107, 105, 106, 107, 108, 106, 107, 108, 109, 107, 108, 109, 110, 108, 109, 110, 111, 109, 110, 111, 112, 110, 111, 112, 113]⟩ : ByteArray) (by decide)
      rw [known0] at h0
      rw [known1] at h1
      rw [known2] at h2
      by_cases e0 : (c : Int) = 0
      · simp -implicitDefEqProofs only [↓ops_cons, ↓g_assign, ↓ops_nil, ↓w_seq, ↓w_region, Nat.reduceLT, ev_tab, upd_eq, ↓g_move, ↓g_indexAddr, Try.underlying26, ev_const, of_int, adr_sl, Int.reduceLE, Int.cast_ofNat_Int, Int.reduceLT, cells3, tyOk3, and_self, Int.toNat_zero, Nat.mul_one, Nat.zero_add, if_true, ↓g_load, ↓g_binOp, ↓w_block, ↓w_cond, ne_eq, Nat.reduceEqDiff, not_false_eq_true, upd_ne, ↓w_skip, onS_some, rd_def, agg3, l4, rd_ints, l6, p2, b_rem, Int.reduceEq, t1, e0, if_false, b_eql, decide_true, decide_false, onB_false, onB_true]
        refine call1 (by simp -implicitDefEqProofs only [List.map_cons, ev_const, of_str, List.map_nil] <;> rfl) h0 ?_
        simp -implicitDefEqProofs only [↓ops_cons, ↓g_binOp, Nat.reduceLT, ev_tab, upd_eq, ev_const, of_str, t_eql, beq_self_eq_true, ↓g_assign, ↓ops_nil, ↓w_ret, retP_1, res_tmp, onS_some]
      · by_cases e1 : (c : Int) = 1
        · simp -implicitDefEqProofs only [↓ops_cons, ↓g_assign, ↓ops_nil, ↓w_seq, ↓w_region, Nat.reduceLT, ev_tab, upd_eq, ↓g_move, ↓g_indexAddr, Try.underlying26, ev_const, of_int, adr_sl, Int.reduceLE, Int.cast_ofNat_Int, Int.reduceLT, cells3, tyOk3, and_self, Int.toNat_zero, Nat.mul_one, Nat.zero_add, if_true, ↓g_load, ↓g_binOp, ↓w_block, ↓w_cond, ne_eq, Nat.reduceEqDiff, not_false_eq_true, upd_ne, ↓w_skip, onS_some, rd_def, agg3, l4, rd_ints, l6, p2, b_rem, Int.reduceEq, t1, e1, if_false, b_eql, decide_false, decide_true, onB_true, onB_false]
          refine call1 (by simp -implicitDefEqProofs only [List.map_cons, ev_const, of_str, List.map_nil] <;> rfl) h1 ?_
          simp -implicitDefEqProofs only [↓ops_cons, ↓g_binOp, Nat.reduceLT, ev_tab, upd_eq, ev_const, of_str, t_eql, beq_self_eq_true, ↓g_assign, ↓ops_nil, ↓w_ret, retP_1, res_tmp, onS_some]
        · simp -implicitDefEqProofs only [↓ops_cons, ↓g_assign, ↓ops_nil, ↓w_seq, ↓w_region, Nat.reduceLT, ev_tab, upd_eq, ↓g_move, ↓g_indexAddr, Try.underlying26, ev_const, of_int, adr_sl, Int.reduceLE, Int.cast_ofNat_Int, Int.reduceLT, cells3, tyOk3, and_self, Int.toNat_zero, Nat.mul_one, Nat.zero_add, if_true, ↓g_load, ↓g_binOp, ↓w_block, ↓w_cond, ne_eq, Nat.reduceEqDiff, not_false_eq_true, upd_ne, ↓w_skip, onS_some, rd_def, agg3, l4, rd_ints, l6, p2, b_rem, Int.reduceEq, t1, if_false, b_eql, e0, decide_false, e1, onB_false]
          refine call1 (by simp -implicitDefEqProofs only [List.map_cons, ev_const, of_str, List.map_nil] <;> rfl) h2 ?_
          simp -implicitDefEqProofs only [↓ops_cons, ↓g_binOp, Nat.reduceLT, ev_tab, upd_eq, ev_const, of_str, t_eql, beq_self_eq_true, ↓g_assign, ↓ops_nil, ↓w_ret, retP_1, res_tmp, onS_some]
    · rw [bigYes hL] at hb
      simp -implicitDefEqProofs only [↓w_seq, ↓w_region, ↓ops_cons, ↓g_assign, ↓ops_nil, ev_const, of_bool, ↓g_move, Nat.reduceLT, ev_tab, ne_eq, reduceCtorEq, not_false_eq_true, upd_ne, par0]
      refine call1S (by simp -implicitDefEqProofs only [List.map_cons, Nat.reduceLT, ev_tab, upd_eq, List.map_nil] <;> rfl) hb ?_
      simp -implicitDefEqProofs only [↓ops_nil, ↓w_cond, Nat.reduceLT, ev_tab, upd_eq, ↓w_seq, ↓w_region, ↓ops_cons, ↓g_assign, ↓w_ret, ev_const, of_bool, retP_1, res_tmp, onS_some, ↓w_skip, ↓g_move, ne_eq, reduceCtorEq, not_false_eq_true, upd_ne, par0, onB_true]
  obtain ⟨v, H', h1, rfl⟩ := key
  exact ⟨H', h1⟩
end Go.Proofs.Ytlaejadiklaaeaa.Sim

