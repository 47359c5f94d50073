/- A text with one byte turned. -/
import Derived.Test.YtlaejadiklaaeaaFHap
namespace Go.Proofs.Ytlaejadiklaaeaa.Sim
open Go
set_option maxRecDepth 100000
set_option maxHeartbeats 4000000
set_option linter.unusedSimpArgs false
set_option linter.unusedVariables false
def trn (z : ByteArray) (i : Nat) (b : Int) : ByteArray := strOfNums ((nums z).set i (bits .xor .u8 ((nums z).getD i 0) b))
theorem turnedS {H : AHeap} {q : Nat} {A : List Int} {o : Bool} (z : ByteArray) (a b : Nat) (hz : 0 < z.size) (hz2 : z.size ≤ 1000000) (hq : H[q]? = some ⟨ints .i64 A, o, true⟩) (hA : A.length = 12) (h0 : A.getD 0 0 = a) (h1 : A.getD 1 0 = b) (ha : a < 10000) (hb : b < 10000) :
    ∃ Z : AHeap, Sound Try.prog 34 [.sc (.string z), .sl q 0 12 1] H (.sc (.string (trn z (a % z.size) ((1 + b % 255 : Nat) : Int)))) Z ∧ Ext H Z := by
  suffices h : ∃ v Z, Sound Try.prog 34 [.sc (.string z), .sl q 0 12 1] H v Z ∧ v = .sc (.string (trn z (a % z.size) ((1 + b % 255 : Nat) : Int))) ∧ Ext H Z by
    obtain ⟨v, Z, h1, rfl, h2⟩ := h
    exact ⟨Z, h1, h2⟩
  refine Sound.runP (args := [.sc (.string z), .sl q 0 12 1]) 34 [.tmp 4] Try.func34 rfl rfl rfl rfl (by simp) (fun v Z => v = .sc (.string (trn z (a % z.size) ((1 + b % 255 : Nat) : Int))) ∧ Ext H Z) ?_
  have hq2 : ∀ g : Reg, (H ++ [g])[q]? = some ⟨ints .i64 A, o, true⟩ := fun g => (at_more _ _ _ (at_lt hq)).trans hq
  have k0 : ¬ (z.size : Int) = 0 := by omega
  have k1 : ((a : Int)).tmod z.size = ((a % z.size : Nat) : Int) := by rw [Int.tmod_eq_emod_of_nonneg (by omega)]; omega
  have k2 : ((b : Int)).tmod 255 = ((b % 255 : Nat) : Int) := by rw [Int.tmod_eq_emod_of_nonneg (by omega)]; omega
  have k3 : a % z.size < z.size := Nat.mod_lt _ hz
  unfold trn
  generalize a % z.size = i at *
  have k4 : (i : Int) < z.size := by omega
  have k5 : (0 : Int) ≤ i := by omega
  have k6 : IntKind.i64.wrap (1 + ((b % 255 : Nat) : Int)) = ((1 + b % 255 : Nat) : Int) := by rw [w64 (by omega) (by omega)]; omega
  have k7 : IntKind.u8.wrap ((1 + b % 255 : Nat) : Int) = ((1 + b % 255 : Nat) : Int) := u8_id (by omega) (by omega)
  have k8 : i < (nums z).length := by rw [nums_len]; exact k3
  have k9 : (nums z).length = z.size := nums_len z
  have htk : ∀ v, ((nums z).set i v).take z.size = (nums z).set i v := fun v => List.take_of_length_le (by rw [List.length_set, nums_len]; exact Nat.le_refl _)
  generalize 1 + b % 255 = e at *
  simp -implicitDefEqProofs only [↓w_seq, ↓w_region, ↓ops_cons, ↓g_assign, ↓ops_nil, ev_const, of_str, ↓g_move, ↓g_convert, Try.underlying9, Try.underlying24, Nat.reduceLT, ev_tab, ne_eq, reduceCtorEq, not_false_eq_true, upd_ne, par0, upd_eq, c_bytes, isU5, cells5, and_self, bytes_ints, true_and]
  refine drawn [(3, 0), (10, 0), (15, 0), (18, 0)] follows (by kernel_rfl) (by kernel_rfl) ?_
  simp -implicitDefEqProofs only [↓dops_cons, ↓g_move, ↓g_indexAddr, Try.underlying26, Nat.reduceLT, ev_tab, upd_eq, ne_eq, Nat.reduceEqDiff, not_false_eq_true, upd_ne, par1, ev_const, of_int, adr_sl, Int.reduceLE, Int.cast_ofNat_Int, Int.reduceLT, cells3, tyOk3, and_self, Int.toNat_zero, Nat.mul_one, Nat.zero_add, if_true, ↓g_load, ↓g_len, Try.underlying24, len_sl, ↓g_binOp, Int.reduceToNat, ↓g_convert, Try.underlying3, Try.underlying5, ↓g_store, ↓dops_p, ↓w_seq, ↓w_region, ↓ops_cons, Try.underlying9, ↓g_assign, ↓ops_nil, ↓w_ret, retP_1, res_tmp, onS_some, c_text, isU5, at_def, rd_def, agg3, hq2, rd_ints, hA, h1, b_rem, Int.reduceEq, k2, if_false, b_add, k6, c_int, k7, h0, k0, k1, k5, k4, cells5, tyOk5, Int.toNat_natCast, agg5, at_end, k9, k3, b_xor, wr_def, wr_ints]
  refine ⟨pairs_cons (same_H rfl) (pairs_cons (same_H rfl) (pairs_cons (same_H rfl) (pairs_cons (same_H rfl) (pairs_nil)))), ?_⟩
  simp -implicitDefEqProofs only [hset_0, List.set_cons_zero, hap_0, List.getElem?_cons_zero, at_ints, Nat.zero_add, List.length_set, k9, Nat.le_refl, List.drop_zero, htk, if_true, Option.bind_some, bytesA_ints, Option.map_some, onS_some, true_and]
  exact Ext.more _ _
end Go.Proofs.Ytlaejadiklaaeaa.Sim

