/- A key made longer by a label; a secret out of a secret. -/
import Derived.Test.YtjpgddjhfaoplaaFExpand
import Derived.Test.YtjpgddjhfaoplaaFLabel
namespace Go.Proofs.Ytjpgddjhfaoplaa.Sim
open Go
set_option maxRecDepth 100000
set_option maxHeartbeats 4000000
set_option linter.unusedSimpArgs false
set_option linter.unusedVariables false
/-- What is said of a label. -/
def lblB (a b : ByteArray) : ByteArray := strOfNums []
def lblT (a b : ByteArray) (n : Int) : ByteArray := strOfNums (hiL n 2) ++ strOfNums (hiL (6 + a.size : Nat) 1) ++ (lbl6 ++ a) ++ strOfNums (hiL (b.size : Nat) 1) ++ b
theorem lblT_size (a b : ByteArray) (n : Int) : (lblT a b n).size = 10 + a.size + b.size := by
  have h6 : (lbl6 ++ a).size = 6 + a.size := lbl6_size a
  rw [lblT, ByteArray.size_append, ByteArray.size_append, ByteArray.size_append, ByteArray.size_append, son_size, son_size, son_size, hiL_len, hiL_len, hiL_len, h6]
  omega
def xlbV (k a b : ByteArray) (n : Int) : AV := if (0 ≤ n ∧ n ≤ 65535) ∧ a.size ≤ 249 ∧ b.size ≤ 255 then expV k (lblT a b n) n else .tup [.sc (.string ByteArray.empty), .sc (.bool false)]
theorem xlbV_flat (k a b : ByteArray) (n : Int) : Flat (xlbV k a b n) := by
  unfold xlbV
  split
  · exact expV_flat _ _ _
  · exact .tup (flats_cons (.sc _) (flats_cons (.sc _) flats_nil))
theorem xlbV_pair (k a b : ByteArray) (n : Int) : ∃ (z : ByteArray) (c : Bool), xlbV k a b n = .tup [.sc (.string z), .sc (.bool c)] := by
  unfold xlbV
  split
  · exact expV_pair _ _ _
  · exact ⟨_, _, rfl⟩
theorem xlbI (k a b : ByteArray) (n : Int) (hk : k.size ≤ 800000000) : Fn Try.prog 18 [.sc (.string k), .sc (.string a), .sc (.string b), .sc (.int .i64 n)] (xlbV k a b n) := by
  refine Fn.run 27 [.tmp 8, .tmp 9] Try.func18 rfl rfl rfl rfl (by simp) (flats_cons (.sc _) (flats_cons (.sc _) (flats_cons (.sc _) (flats_cons (.sc _) flats_nil)))) (xlbV_flat _ _ _ _) ?_
  have hL := labelI a b n
  unfold labelV at hL
  unfold xlbV
  simp -implicitDefEqProofs only [↓w_seq, ↓w_region, ↓ops_cons, ↓g_assign, ↓ops_nil, ev_const, of_str, of_bool, ↓g_move, Nat.reduceLT, ev_tab, ne_eq, Nat.reduceEqDiff, not_false_eq_true, upd_ne, par1, par2, par3]
  by_cases h : (0 ≤ n ∧ n ≤ 65535) ∧ a.size ≤ 249 ∧ b.size ≤ 255
  · rw [if_pos h] at hL
    rw [if_pos h]
    refine call1 (by simp -implicitDefEqProofs only [List.map_cons, Nat.reduceLT, ev_tab, ne_eq, Nat.reduceEqDiff, not_false_eq_true, upd_ne, upd_eq, List.map_nil] <;> rfl) hL ?_
    simp -implicitDefEqProofs only [↓ops_cons, ↓g_move, ↓g_extract, Nat.reduceLT, ev_tab, upd_eq, ext_0, ne_eq, Nat.reduceEqDiff, not_false_eq_true, upd_ne, ext_1, ↓g_assign, ↓ops_nil, ↓w_seq, ↓w_region, ↓g_unOp, ↓w_cond, ↓w_ret, ev_const, of_str, of_bool, ret_two, ↓w_skip, reduceCtorEq, par0, par3, onS_some, u_not, Bool.not_true, Option.map_some, onB_false]
    have hs := lblT_size a b n
    rw [← lblT]
    have hE := expI k (lblT a b n) n hk (by omega)
    obtain ⟨z, c, hz⟩ := expV_pair k (lblT a b n) n
    rw [hz] at hE ⊢
    refine call1 (by simp -implicitDefEqProofs only [List.map_cons, Nat.reduceLT, ev_tab, ne_eq, Nat.reduceEqDiff, not_false_eq_true, upd_ne, upd_eq, List.map_nil] <;> rfl) hE ?_
    simp -implicitDefEqProofs only [↓ops_cons, ↓g_extract, Nat.reduceLT, ev_tab, upd_eq, ext_0, ne_eq, Nat.reduceEqDiff, not_false_eq_true, upd_ne, ext_1, ↓g_assign, ↓ops_nil, ↓w_ret, ret_two, onS_some]
  · rw [if_neg h] at hL
    rw [if_neg h]
    refine call1 (by simp -implicitDefEqProofs only [List.map_cons, Nat.reduceLT, ev_tab, ne_eq, Nat.reduceEqDiff, not_false_eq_true, upd_ne, upd_eq, List.map_nil] <;> rfl) hL ?_
    simp -implicitDefEqProofs only [↓ops_cons, ↓g_move, ↓g_extract, Nat.reduceLT, ev_tab, upd_eq, ext_0, ne_eq, Nat.reduceEqDiff, not_false_eq_true, upd_ne, ext_1, ↓g_assign, ↓ops_nil, ↓w_seq, ↓w_region, ↓g_unOp, ↓w_cond, ↓w_ret, ev_const, of_str, of_bool, ret_two, ↓w_skip, reduceCtorEq, par0, par3, onS_some, u_not, Bool.not_false, Option.map_some, onB_true]
    try rfl
theorem xlbS (k a b : ByteArray) (n : Int) (hk : k.size ≤ 800000000) : Fn Try.prog 17 [.sc (.string k), .sc (.string a), .sc (.string b), .sc (.int .i64 n)] (xlbV k a b n) := by
  refine Fn.run 27 [.tmp 8, .tmp 9] Try.func17 rfl rfl rfl rfl (by simp) (flats_cons (.sc _) (flats_cons (.sc _) (flats_cons (.sc _) (flats_cons (.sc _) flats_nil)))) (xlbV_flat _ _ _ _) ?_
  have hL := labelS a b n
  unfold labelV at hL
  unfold xlbV
  simp -implicitDefEqProofs only [↓w_seq, ↓w_region, ↓ops_cons, ↓g_assign, ↓ops_nil, ev_const, of_str, of_bool, ↓g_move, Nat.reduceLT, ev_tab, ne_eq, Nat.reduceEqDiff, not_false_eq_true, upd_ne, par1, par2, par3]
  by_cases h : (0 ≤ n ∧ n ≤ 65535) ∧ a.size ≤ 249 ∧ b.size ≤ 255
  · rw [if_pos h] at hL
    rw [if_pos h]
    refine call1 (by simp -implicitDefEqProofs only [List.map_cons, Nat.reduceLT, ev_tab, ne_eq, Nat.reduceEqDiff, not_false_eq_true, upd_ne, upd_eq, List.map_nil] <;> rfl) hL ?_
    simp -implicitDefEqProofs only [↓ops_cons, ↓g_move, ↓g_extract, Nat.reduceLT, ev_tab, upd_eq, ext_0, ne_eq, Nat.reduceEqDiff, not_false_eq_true, upd_ne, ext_1, ↓g_assign, ↓ops_nil, ↓w_seq, ↓w_region, ↓g_unOp, ↓w_cond, ↓w_ret, ev_const, of_str, of_bool, ret_two, ↓w_skip, reduceCtorEq, par0, par3, onS_some, u_not, Bool.not_true, Option.map_some, onB_false]
    have hs := lblT_size a b n
    rw [← lblT]
    have hE := expS k (lblT a b n) n hk (by omega)
    obtain ⟨z, c, hz⟩ := expV_pair k (lblT a b n) n
    rw [hz] at hE ⊢
    refine call1 (by simp -implicitDefEqProofs only [List.map_cons, Nat.reduceLT, ev_tab, ne_eq, Nat.reduceEqDiff, not_false_eq_true, upd_ne, upd_eq, List.map_nil] <;> rfl) hE ?_
    simp -implicitDefEqProofs only [↓ops_cons, ↓g_extract, Nat.reduceLT, ev_tab, upd_eq, ext_0, ne_eq, Nat.reduceEqDiff, not_false_eq_true, upd_ne, ext_1, ↓g_assign, ↓ops_nil, ↓w_ret, ret_two, onS_some]
  · rw [if_neg h] at hL
    rw [if_neg h]
    refine call1 (by simp -implicitDefEqProofs only [List.map_cons, Nat.reduceLT, ev_tab, ne_eq, Nat.reduceEqDiff, not_false_eq_true, upd_ne, upd_eq, List.map_nil] <;> rfl) hL ?_
    simp -implicitDefEqProofs only [↓ops_cons, ↓g_move, ↓g_extract, Nat.reduceLT, ev_tab, upd_eq, ext_0, ne_eq, Nat.reduceEqDiff, not_false_eq_true, upd_ne, ext_1, ↓g_assign, ↓ops_nil, ↓w_seq, ↓w_region, ↓g_unOp, ↓w_cond, ↓w_ret, ev_const, of_str, of_bool, ret_two, ↓w_skip, reduceCtorEq, par0, par3, onS_some, u_not, Bool.not_false, Option.map_some, onB_true]
    try rfl
theorem derI (k a t : ByteArray) (hk : k.size ≤ 800000000) (ht : t.size ≤ 800000000) : Fn Try.prog 20 [.sc (.string k), .sc (.string a), .sc (.string t)] (xlbV k a (dig t) 32) := by
  refine Fn.run 15 [.tmp 6, .tmp 7] Try.func20 rfl rfl rfl rfl (by simp) (flats_cons (.sc _) (flats_cons (.sc _) (flats_cons (.sc _) flats_nil))) (xlbV_flat _ _ _ _) ?_
  have hE := xlbI k a (dig t) 32 hk
  obtain ⟨z, c, hz⟩ := xlbV_pair k a (dig t) 32
  rw [hz] at hE ⊢
  simp -implicitDefEqProofs only [↓w_seq, ↓w_region, ↓ops_cons, ↓g_assign, ↓ops_nil, ev_const, of_str, of_bool, ↓g_move, Nat.reduceLT, ev_tab, ne_eq, reduceCtorEq, not_false_eq_true, upd_ne, par0, Nat.reduceEqDiff, par1, par2]
  refine call1 (by simp -implicitDefEqProofs only [List.map_cons, Nat.reduceLT, ev_tab, upd_eq, List.map_nil] <;> rfl) (digI t (by omega)) ?_
  simp -implicitDefEqProofs only [↓ops_cons]
  refine call1 (by simp -implicitDefEqProofs only [List.map_cons, Nat.reduceLT, ev_tab, ne_eq, Nat.reduceEqDiff, not_false_eq_true, upd_ne, upd_eq, ev_const, of_int, List.map_nil] <;> rfl) hE ?_
  simp -implicitDefEqProofs only [↓ops_cons, ↓g_extract, Nat.reduceLT, ev_tab, upd_eq, ext_0, ne_eq, Nat.reduceEqDiff, not_false_eq_true, upd_ne, ext_1, ↓g_assign, ↓ops_nil, ↓w_ret, ret_two, onS_some]
theorem derS (k a t : ByteArray) (hk : k.size ≤ 800000000) (ht : t.size ≤ 800000000) : Fn Try.prog 19 [.sc (.string k), .sc (.string a), .sc (.string t)] (xlbV k a (dig t) 32) := by
  refine Fn.run 15 [.tmp 6, .tmp 7] Try.func19 rfl rfl rfl rfl (by simp) (flats_cons (.sc _) (flats_cons (.sc _) (flats_cons (.sc _) flats_nil))) (xlbV_flat _ _ _ _) ?_
  have hE := xlbS k a (dig t) 32 hk
  obtain ⟨z, c, hz⟩ := xlbV_pair k a (dig t) 32
  rw [hz] at hE ⊢
  simp -implicitDefEqProofs only [↓w_seq, ↓w_region, ↓ops_cons, ↓g_assign, ↓ops_nil, ev_const, of_str, of_bool, ↓g_move, Nat.reduceLT, ev_tab, ne_eq, reduceCtorEq, not_false_eq_true, upd_ne, par0, Nat.reduceEqDiff, par1, par2]
  refine call1 (by simp -implicitDefEqProofs only [List.map_cons, Nat.reduceLT, ev_tab, upd_eq, List.map_nil] <;> rfl) (digS t (by omega)) ?_
  simp -implicitDefEqProofs only [↓ops_cons]
  refine call1 (by simp -implicitDefEqProofs only [List.map_cons, Nat.reduceLT, ev_tab, ne_eq, Nat.reduceEqDiff, not_false_eq_true, upd_ne, upd_eq, ev_const, of_int, List.map_nil] <;> rfl) hE ?_
  simp -implicitDefEqProofs only [↓ops_cons, ↓g_extract, Nat.reduceLT, ev_tab, upd_eq, ext_0, ne_eq, Nat.reduceEqDiff, not_false_eq_true, upd_ne, ext_1, ↓g_assign, ↓ops_nil, ↓w_ret, ret_two, onS_some]
end Go.Proofs.Ytjpgddjhfaoplaa.Sim

