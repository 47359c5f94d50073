/- A mark with a key: the key's block, and two digests. -/
import Derived.Test.YtlaejadiklaaeaaFDigI
import Derived.Test.YtlaejadiklaaeaaFDigS
import Derived.Test.YtlaejadiklaaeaaFMask
import Derived.Test.YtlaejadiklaaeaaFLong
namespace Go.Proofs.Ytlaejadiklaaeaa.Sim
open Go
set_option maxRecDepth 100000
set_option maxHeartbeats 4000000
set_option linter.unusedSimpArgs false
set_option linter.unusedVariables false
def keyK (z : ByteArray) : ByteArray := if 64 < z.size then dig z else z
def keyT (z : ByteArray) : ByteArray := strOfNums (nums (keyK z) ++ List.replicate (64 - (keyK z).size) 0)
theorem keyK_size (z : ByteArray) : (keyK z).size ≤ 64 := by
  unfold keyK
  split
  · rw [dig_size]; omega
  · omega
theorem keyT_size (z : ByteArray) : (keyT z).size = 64 := by
  have := keyK_size z
  rw [keyT, son_size, List.length_append, nums_len, List.length_replicate]
  omega
theorem app_son (z : ByteArray) (l : List Int) : z ++ strOfNums l = strOfNums (nums z ++ l) := by rw [← son_append, son_nums]
theorem mask_size (z : ByteArray) (x : Int) : (maskT z x).size = z.size := by rw [maskT, son_size, maskL_len, nums_len]
theorem keyI (z : ByteArray) (hz : z.size ≤ 1000000000) : Fn Try.prog 25 [.sc (.string z)] (.sc (.string (keyT z))) := by
  refine Fn.run 14 [.tmp 2] Try.func25 rfl rfl rfl rfl (by simp) (flats_cons (.sc _) flats_nil) (.sc _) ?_
  have hk := keyK_size z
  have e1 : IntKind.i64.wrap (64 - ((keyK z).size : Int)) = ((64 - (keyK z).size : Nat) : Int) := by rw [w64 (by omega) (by omega)]; omega
  simp -implicitDefEqProofs only [↓w_seq, ↓w_region, ↓ops_cons, ↓g_assign, ↓ops_nil, ev_const, of_str, ↓g_move, ↓g_len, Try.underlying9, Nat.reduceLT, ev_tab, ne_eq, reduceCtorEq, not_false_eq_true, upd_ne, par0, upd_eq, len_str, ↓g_binOp, of_int, ↓w_cond, ↓w_skip, onS_some, b_sub, b_gtr, onB_dec]
  by_cases h : (64 : Int) < z.size
  · rw [if_pos h]
    refine call1 (by simp -implicitDefEqProofs only [List.map_cons, Nat.reduceLT, ev_tab, upd_eq, List.map_nil] <;> rfl) (digI z hz) ?_
    have hd : dig z = keyK z := by rw [keyK, if_pos (by omega)]
    simp -implicitDefEqProofs only [↓ops_cons, ↓g_assign, ↓ops_nil, ↓w_seq, ↓w_region, hd, Nat.reduceLT, ev_tab, upd_eq, ↓g_move, ↓g_len, Try.underlying9, ne_eq, reduceCtorEq, not_false_eq_true, upd_ne, len_str, ↓g_binOp, ev_const, of_int, onS_some, b_sub, e1]
    refine call1 (by simp -implicitDefEqProofs only [List.map_cons, ev_const, of_str, Nat.reduceLT, ev_tab, upd_eq, List.map_nil] <;> rfl) (repeatC ⟨#[0]⟩ 0 rfl (64 - (keyK z).size) (by omega)) ?_
    simp -implicitDefEqProofs only [↓ops_cons, ↓g_binOp, Nat.reduceLT, ev_tab, ne_eq, Nat.reduceEqDiff, not_false_eq_true, upd_ne, upd_eq, t_add, son_size, List.length_replicate, ↓g_assign, ↓ops_nil, ↓w_ret, ret_one, onS_ite]
    refine ⟨by omega, ?_⟩
    rw [app_son, keyT]
    rfl
  · rw [if_neg h]
    have hd : z = keyK z := by rw [keyK, if_neg (by omega)]
    have e2 : IntKind.i64.wrap (64 - (z.size : Int)) = ((64 - z.size : Nat) : Int) := by rw [w64 (by omega) (by omega)]; omega
    simp -implicitDefEqProofs only [e2]
    refine call1 (by simp -implicitDefEqProofs only [List.map_cons, ev_const, of_str, Nat.reduceLT, ev_tab, upd_eq, List.map_nil] <;> rfl) (repeatC ⟨#[0]⟩ 0 rfl (64 - z.size) (by omega)) ?_
    simp -implicitDefEqProofs only [↓ops_cons, ↓g_binOp, Nat.reduceLT, ev_tab, ne_eq, Nat.reduceEqDiff, not_false_eq_true, upd_ne, upd_eq, t_add, son_size, List.length_replicate, ↓g_assign, ↓ops_nil, ↓w_ret, ret_one, onS_ite]
    refine ⟨by omega, ?_⟩
    rw [app_son, keyT, ← hd]
    rfl
theorem keyS (z : ByteArray) (hz : z.size ≤ 1000000000) : Fn Try.prog 24 [.sc (.string z)] (.sc (.string (keyT z))) := by
  refine Fn.run 14 [.tmp 2] Try.func24 rfl rfl rfl rfl (by simp) (flats_cons (.sc _) flats_nil) (.sc _) ?_
  have hk := keyK_size z
  have e1 : IntKind.i64.wrap (64 - ((keyK z).size : Int)) = ((64 - (keyK z).size : Nat) : Int) := by rw [w64 (by omega) (by omega)]; omega
  simp -implicitDefEqProofs only [↓w_seq, ↓w_region, ↓ops_cons, ↓g_assign, ↓ops_nil, ev_const, of_str, ↓g_move, ↓g_len, Try.underlying9, Nat.reduceLT, ev_tab, ne_eq, reduceCtorEq, not_false_eq_true, upd_ne, par0, upd_eq, len_str, ↓g_binOp, of_int, ↓w_cond, ↓w_skip, onS_some, b_sub, b_gtr, onB_dec]
  by_cases h : (64 : Int) < z.size
  · rw [if_pos h]
    refine call1 (by simp -implicitDefEqProofs only [List.map_cons, Nat.reduceLT, ev_tab, upd_eq, List.map_nil] <;> rfl) (digS z hz) ?_
    have hd : dig z = keyK z := by rw [keyK, if_pos (by omega)]
    simp -implicitDefEqProofs only [↓ops_cons, ↓g_assign, ↓ops_nil, ↓w_seq, ↓w_region, hd, Nat.reduceLT, ev_tab, upd_eq, ↓g_move, ↓g_len, Try.underlying9, ne_eq, reduceCtorEq, not_false_eq_true, upd_ne, len_str, ↓g_binOp, ev_const, of_int, onS_some, b_sub, e1]
    refine call1 (by simp -implicitDefEqProofs only [List.map_cons, Nat.reduceLT, ev_tab, upd_eq, ev_const, of_int, List.map_nil] <;> rfl) (longS (64 - (keyK z).size) 0 (by omega)) ?_
    simp -implicitDefEqProofs only [↓ops_cons, ↓g_binOp, Nat.reduceLT, ev_tab, ne_eq, Nat.reduceEqDiff, not_false_eq_true, upd_ne, upd_eq, t_add, son_size, List.length_replicate, ↓g_assign, ↓ops_nil, ↓w_ret, ret_one, onS_ite]
    refine ⟨by omega, ?_⟩
    rw [app_son, keyT]
  · rw [if_neg h]
    have hd : z = keyK z := by rw [keyK, if_neg (by omega)]
    have e2 : IntKind.i64.wrap (64 - (z.size : Int)) = ((64 - z.size : Nat) : Int) := by rw [w64 (by omega) (by omega)]; omega
    simp -implicitDefEqProofs only [e2]
    refine call1 (by simp -implicitDefEqProofs only [List.map_cons, Nat.reduceLT, ev_tab, upd_eq, ev_const, of_int, List.map_nil] <;> rfl) (longS (64 - z.size) 0 (by omega)) ?_
    simp -implicitDefEqProofs only [↓ops_cons, ↓g_binOp, Nat.reduceLT, ev_tab, ne_eq, Nat.reduceEqDiff, not_false_eq_true, upd_ne, upd_eq, t_add, son_size, List.length_replicate, ↓g_assign, ↓ops_nil, ↓w_ret, ret_one, onS_ite]
    refine ⟨by omega, ?_⟩
    rw [app_son, keyT, ← hd]
def hmac (k t : ByteArray) : ByteArray := dig (maskT (keyT k) 92 ++ dig (maskT (keyT k) 54 ++ t))
theorem hmac_size (k t : ByteArray) : (hmac k t).size = 32 := dig_size _
theorem hmacI (k t : ByteArray) (hk : k.size ≤ 900000000) (ht : t.size ≤ 900000000) : Fn Try.prog 28 [.sc (.string k), .sc (.string t)] (.sc (.string (hmac k t))) := by
  refine Fn.run 17 [.tmp 4] Try.func28 rfl rfl rfl rfl (by simp) (flats_cons (.sc _) (flats_cons (.sc _) flats_nil)) (.sc _) ?_
  have h1 := keyT_size k
  have h2 : (maskT (keyT k) 54).size = 64 := by rw [mask_size, h1]
  have h3 : (maskT (keyT k) 92).size = 64 := by rw [mask_size, h1]
  simp -implicitDefEqProofs only [↓w_seq, ↓w_region, ↓ops_cons, ↓g_assign, ↓ops_nil, ev_const, of_str, ↓g_move, Nat.reduceLT, ev_tab, ne_eq, reduceCtorEq, not_false_eq_true, upd_ne, par0]
  refine call1 (by simp -implicitDefEqProofs only [List.map_cons, Nat.reduceLT, ev_tab, upd_eq, List.map_nil] <;> rfl) (keyI k (by omega)) ?_
  simp -implicitDefEqProofs only [↓ops_cons, ↓g_assign, ↓ops_nil, ↓w_seq, ↓w_region, Nat.reduceLT, ev_tab, upd_eq, ↓g_move]
  refine call1 (by simp -implicitDefEqProofs only [List.map_cons, Nat.reduceLT, ev_tab, upd_eq, ev_const, of_int, List.map_nil] <;> rfl) (maskI _ 92 (by omega)) ?_
  simp -implicitDefEqProofs only [↓ops_cons, ↓g_move, Nat.reduceLT, ev_tab, ne_eq, Nat.reduceEqDiff, not_false_eq_true, upd_ne, upd_eq]
  refine call1 (by simp -implicitDefEqProofs only [List.map_cons, Nat.reduceLT, ev_tab, upd_eq, ev_const, of_int, List.map_nil] <;> rfl) (maskI _ 54 (by omega)) ?_
  simp -implicitDefEqProofs only [↓ops_cons, ↓g_move, ↓g_binOp, Nat.reduceLT, ev_tab, ne_eq, Nat.reduceEqDiff, not_false_eq_true, upd_ne, par1, upd_eq, t_add, h2, onS_ite]
  refine ⟨by omega, ?_⟩
  refine call1 (by simp -implicitDefEqProofs only [List.map_cons, Nat.reduceLT, ev_tab, upd_eq, List.map_nil] <;> rfl) (digI _ (by rw [ByteArray.size_append]; omega)) ?_
  simp -implicitDefEqProofs only [↓ops_cons, ↓g_binOp, Nat.reduceLT, ev_tab, ne_eq, Nat.reduceEqDiff, not_false_eq_true, upd_ne, upd_eq, t_add, h3, dig_size, Nat.reduceAdd, Nat.reduceLeDiff, if_true, onS_some]
  refine call1 (by simp -implicitDefEqProofs only [List.map_cons, Nat.reduceLT, ev_tab, upd_eq, List.map_nil] <;> rfl) (digI _ (by rw [ByteArray.size_append, dig_size]; omega)) ?_
  simp -implicitDefEqProofs only [↓ops_cons, ↓g_assign, ↓ops_nil, ↓w_ret, Nat.reduceLT, ev_tab, upd_eq, ret_one]
  rfl
theorem hmacS (k t : ByteArray) (hk : k.size ≤ 900000000) (ht : t.size ≤ 900000000) : Fn Try.prog 27 [.sc (.string k), .sc (.string t)] (.sc (.string (hmac k t))) := by
  refine Fn.run 17 [.tmp 4] Try.func27 rfl rfl rfl rfl (by simp) (flats_cons (.sc _) (flats_cons (.sc _) flats_nil)) (.sc _) ?_
  have h1 := keyT_size k
  have h2 : (maskT (keyT k) 54).size = 64 := by rw [mask_size, h1]
  have h3 : (maskT (keyT k) 92).size = 64 := by rw [mask_size, h1]
  simp -implicitDefEqProofs only [↓w_seq, ↓w_region, ↓ops_cons, ↓g_assign, ↓ops_nil, ev_const, of_str, ↓g_move, Nat.reduceLT, ev_tab, ne_eq, reduceCtorEq, not_false_eq_true, upd_ne, par0]
  refine call1 (by simp -implicitDefEqProofs only [List.map_cons, Nat.reduceLT, ev_tab, upd_eq, List.map_nil] <;> rfl) (keyS k (by omega)) ?_
  simp -implicitDefEqProofs only [↓ops_cons, ↓g_assign, ↓ops_nil, ↓w_seq, ↓w_region, Nat.reduceLT, ev_tab, upd_eq, ↓g_move]
  refine call1 (by simp -implicitDefEqProofs only [List.map_cons, Nat.reduceLT, ev_tab, upd_eq, ev_const, of_int, List.map_nil] <;> rfl) (maskS _ 92 (by omega)) ?_
  simp -implicitDefEqProofs only [↓ops_cons, ↓g_move, Nat.reduceLT, ev_tab, ne_eq, Nat.reduceEqDiff, not_false_eq_true, upd_ne, upd_eq]
  refine call1 (by simp -implicitDefEqProofs only [List.map_cons, Nat.reduceLT, ev_tab, upd_eq, ev_const, of_int, List.map_nil] <;> rfl) (maskS _ 54 (by omega)) ?_
  simp -implicitDefEqProofs only [↓ops_cons, ↓g_move, ↓g_binOp, Nat.reduceLT, ev_tab, ne_eq, Nat.reduceEqDiff, not_false_eq_true, upd_ne, par1, upd_eq, t_add, h2, onS_ite]
  refine ⟨by omega, ?_⟩
  refine call1 (by simp -implicitDefEqProofs only [List.map_cons, Nat.reduceLT, ev_tab, upd_eq, List.map_nil] <;> rfl) (digS _ (by rw [ByteArray.size_append]; omega)) ?_
  simp -implicitDefEqProofs only [↓ops_cons, ↓g_binOp, Nat.reduceLT, ev_tab, ne_eq, Nat.reduceEqDiff, not_false_eq_true, upd_ne, upd_eq, t_add, h3, dig_size, Nat.reduceAdd, Nat.reduceLeDiff, if_true, onS_some]
  refine call1 (by simp -implicitDefEqProofs only [List.map_cons, Nat.reduceLT, ev_tab, upd_eq, List.map_nil] <;> rfl) (digS _ (by rw [ByteArray.size_append, dig_size]; omega)) ?_
  simp -implicitDefEqProofs only [↓ops_cons, ↓g_assign, ↓ops_nil, ↓w_ret, Nat.reduceLT, ev_tab, upd_eq, ret_one]
  rfl
theorem extI (k t : ByteArray) (hk : k.size ≤ 900000000) (ht : t.size ≤ 900000000) : Fn Try.prog 30 [.sc (.string k), .sc (.string t)] (.sc (.string (hmac k t))) := by
  refine Fn.run 8 [.tmp 4] Try.func30 rfl rfl rfl rfl (by simp) (flats_cons (.sc _) (flats_cons (.sc _) flats_nil)) (.sc _) ?_
  simp -implicitDefEqProofs only [↓w_seq, ↓w_region, ↓ops_cons, ↓g_assign, ↓ops_nil, ev_const, of_str, ↓g_move, Nat.reduceLT, ev_tab, ne_eq, reduceCtorEq, not_false_eq_true, upd_ne, par0, Nat.reduceEqDiff, par1]
  refine call1 (by simp -implicitDefEqProofs only [List.map_cons, Nat.reduceLT, ev_tab, ne_eq, Nat.reduceEqDiff, not_false_eq_true, upd_ne, upd_eq, List.map_nil] <;> rfl) (hmacI k t hk ht) ?_
  simp -implicitDefEqProofs only [↓ops_cons, ↓g_assign, ↓ops_nil, ↓w_ret, Nat.reduceLT, ev_tab, upd_eq, ret_one]
theorem extS (k t : ByteArray) (hk : k.size ≤ 900000000) (ht : t.size ≤ 900000000) : Fn Try.prog 29 [.sc (.string k), .sc (.string t)] (.sc (.string (hmac k t))) := by
  refine Fn.run 8 [.tmp 4] Try.func29 rfl rfl rfl rfl (by simp) (flats_cons (.sc _) (flats_cons (.sc _) flats_nil)) (.sc _) ?_
  simp -implicitDefEqProofs only [↓w_seq, ↓w_region, ↓ops_cons, ↓g_assign, ↓ops_nil, ev_const, of_str, ↓g_move, Nat.reduceLT, ev_tab, ne_eq, reduceCtorEq, not_false_eq_true, upd_ne, par0, Nat.reduceEqDiff, par1]
  refine call1 (by simp -implicitDefEqProofs only [List.map_cons, Nat.reduceLT, ev_tab, ne_eq, Nat.reduceEqDiff, not_false_eq_true, upd_ne, upd_eq, List.map_nil] <;> rfl) (hmacS k t hk ht) ?_
  simp -implicitDefEqProofs only [↓ops_cons, ↓g_assign, ↓ops_nil, ↓w_ret, Nat.reduceLT, ev_tab, upd_eq, ret_one]
end Go.Proofs.Ytlaejadiklaaeaa.Sim

