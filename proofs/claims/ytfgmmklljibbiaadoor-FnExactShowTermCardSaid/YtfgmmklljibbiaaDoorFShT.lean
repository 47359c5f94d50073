/- What is shown of a term, both sides. -/
import Derived.Test.YtfgmmklljibbiaaDoorFTermI
import Derived.Test.YtfgmmklljibbiaaDoorFSizeS
namespace Go.Proofs.YtfgmmklljibbiaaDoor.Sim
open Go
set_option maxRecDepth 100000
set_option maxHeartbeats 40000000
set_option linter.unusedSimpArgs false
set_option linter.unusedVariables false
def ShowIs (l : List (Rw kNode)) (k : Int) (t : ByteArray) : Prop := ∃ v, SizeIs l k v ∧ (((1 ≤ v ∧ v ≤ 2000) ∧ t = (txs l).getD k.toNat ByteArray.empty) ∨ (¬ (1 ≤ v ∧ v ≤ 2000) ∧ t = ByteArray.empty))
theorem size_is (l : List (Rw kNode)) (k : Int) : ∃ v, SizeIs l k v := by
  by_cases h : 0 ≤ k ∧ k ≤ (l.length : Int) - 1
  · by_cases h2 : allTo l (k.toNat + 1)
    · exact ⟨_, .inr ⟨h, .inl ⟨h2, rfl⟩⟩⟩
    · exact ⟨_, .inr ⟨h, .inr ⟨h2, rfl⟩⟩⟩
  · exact ⟨_, .inl ⟨h, rfl⟩⟩
theorem show_is (l : List (Rw kNode)) (k : Int) : ∃ t, ShowIs l k t := by
  obtain ⟨v, hv⟩ := size_is l k
  by_cases h : 1 ≤ v ∧ v ≤ 2000
  · exact ⟨_, v, hv, .inl ⟨h, rfl⟩⟩
  · exact ⟨_, v, hv, .inr ⟨h, rfl⟩⟩
theorem showTS {H : AHeap} {x : AV} {l : List (Rw kNode)} (hx : IsR H x l) (hl : l.length ≤ 1048576) (k : Int) (t : ByteArray) (ht : ShowIs l k t) : ∃ Z, Sound Tryd.prog 11 [.agg [x], .sc (.int .i64 k)] H (.sc (.string t)) Z ∧ Ext H Z := by
  suffices h : ∃ w Z, Sound Tryd.prog 11 [.agg [x], .sc (.int .i64 k)] H w Z ∧ w = .sc (.string t) ∧ Ext H Z by
    obtain ⟨w, Z, h1, rfl, h2⟩ := h
    exact ⟨Z, h1, h2⟩
  refine Sound.runP (args := [.agg [x], .sc (.int .i64 k)]) 13 [.tmp 4] Tryd.func11 rfl rfl rfl rfl (by simp) (fun w Z => w = .sc (.string t) ∧ Ext H Z) ?_
  have o := hx.one
  obtain ⟨v, hv, hs⟩ := ht
  obtain ⟨A, hA⟩ : ∃ A : Reg, A = ⟨[x], true, true⟩ := ⟨_, rfl⟩
  have e0 := Ext.more H [A]
  have b0 : (H ++ [A])[H.length]? = some ⟨[x], true, true⟩ := by rw [← hA]; exact hap_0 H [A]
  obtain ⟨Z, z1, z2⟩ := sizeS (e0.isR hx) hl k v hv
  have b1 := z2.at b0
  have E := e0.trans z2
  have cw := inS v 1 2000
  simp -implicitDefEqProofs only [↓w_seq, ↓w_region, ↓ops_cons, ↓g_box, Nat.reduceLT, ev_tab, par0, cells_agg, ↓g_assign, ↓ops_nil, ev_const, of_str, ↓g_load, ne_eq, Nat.reduceEqDiff, not_false_eq_true, upd_ne, upd_eq, ↓g_move, par1, alK_some, List.all_cons, o, List.all_nil, Bool.and_self, rd_def, tyOk43, agg43, cells43, hap_0, List.getElem?_cons_zero, rd_aggc, Nat.zero_add, List.length_cons, List.length_nil, Nat.le_refl, List.drop_zero, List.take_succ_cons, List.take_zero, if_true, onS_some, true_and]
  rw [← hA]
  refine call1S (by simp -implicitDefEqProofs only [List.map_cons, Nat.reduceLT, ev_tab, ne_eq, Nat.reduceEqDiff, not_false_eq_true, upd_ne, upd_eq, List.map_nil] <;> rfl) z1 ?_
  try simp -implicitDefEqProofs only [↓ops_cons]
  refine call1 (by simp -implicitDefEqProofs only [List.map_cons, Nat.reduceLT, ev_tab, upd_eq, ev_const, of_int, List.map_nil] <;> rfl) cw ?_
  rcases hs with ⟨h, rfl⟩ | ⟨h, rfl⟩
  · rw [decide_eq_true h]
    rcases hv with hv | ⟨hk, hv⟩
    · omega
    rcases hv with ⟨al, hv⟩ | hv
    · obtain ⟨n, rfl⟩ : ∃ n : Nat, k = n := ⟨k.toNat, by omega⟩
      simp only [Int.toNat_natCast] at *
      obtain ⟨Y, y1, y2⟩ := termS hl (n + 1) (by omega) al n (by omega) (by omega) (E.isR hx)
      simp -implicitDefEqProofs only [↓ops_cons, ↓g_unOp, Nat.reduceLT, ev_tab, upd_eq, u_not, Bool.not_true, Option.map_some, ↓ops_nil, ↓w_cond, ↓w_seq, ↓w_region, ↓g_assign, ↓w_ret, ev_const, of_str, retP_1, res_tmp, onS_some, ↓w_skip, ↓g_load, ne_eq, Nat.reduceEqDiff, not_false_eq_true, upd_ne, rd_def, tyOk43, agg43, cells43, b1, rd_aggc, Nat.zero_add, List.length_cons, List.length_nil, Nat.le_refl, List.drop_zero, List.take_succ_cons, List.take_zero, if_true, ↓g_move, par1, onB_false]
      refine call1S (by simp -implicitDefEqProofs only [List.map_cons, Nat.reduceLT, ev_tab, ne_eq, Nat.reduceEqDiff, not_false_eq_true, upd_ne, upd_eq, List.map_nil] <;> rfl) y1 ?_
      simp -implicitDefEqProofs only [↓ops_cons, ↓g_assign, ↓ops_nil, ↓w_ret, Nat.reduceLT, ev_tab, upd_eq, retP_1, res_tmp, onS_some, true_and]
      exact E.trans y2
    · omega
  · rw [decide_eq_false h]
    simp -implicitDefEqProofs only [↓ops_cons, ↓g_unOp, Nat.reduceLT, ev_tab, upd_eq, u_not, Bool.not_false, Option.map_some, ↓ops_nil, ↓w_cond, ↓w_seq, ↓w_region, ↓g_assign, ↓w_ret, ev_const, of_str, retP_1, res_tmp, onS_some, ↓w_skip, ↓g_load, ne_eq, Nat.reduceEqDiff, not_false_eq_true, upd_ne, rd_def, tyOk43, agg43, cells43, ↓g_move, par1, onB_true]
    exact ⟨rfl, E⟩
theorem showTI {H : AHeap} {x : AV} {l : List (Rw kNode)} (hx : IsR H x l) (hl : l.length ≤ 1048576) (k : Int) (t : ByteArray) (ht : ShowIs l k t) : ∃ Z, Sound Tryd.prog 13 [.agg [x], .sc (.int .i64 k)] H (.sc (.string t)) Z ∧ Ext H Z := by
  suffices h : ∃ w Z, Sound Tryd.prog 13 [.agg [x], .sc (.int .i64 k)] H w Z ∧ w = .sc (.string t) ∧ Ext H Z by
    obtain ⟨w, Z, h1, rfl, h2⟩ := h
    exact ⟨Z, h1, h2⟩
  refine Sound.runP (args := [.agg [x], .sc (.int .i64 k)]) 14 [.tmp 4] Tryd.func13 rfl rfl rfl rfl (by simp) (fun w Z => w = .sc (.string t) ∧ Ext H Z) ?_
  have o := hx.one
  obtain ⟨v, hv, hs⟩ := ht
  obtain ⟨A, hA⟩ : ∃ A : Reg, A = ⟨[x], true, true⟩ := ⟨_, rfl⟩
  have e0 := Ext.more H [A]
  have b0 : (H ++ [A])[H.length]? = some ⟨[x], true, true⟩ := by rw [← hA]; exact hap_0 H [A]
  obtain ⟨Z, z1, z2⟩ := sizeI (e0.isR hx) hl k v hv
  have b1 := z2.at b0
  have E := e0.trans z2
  have cw := inI v 1 2000
  simp -implicitDefEqProofs only [↓w_seq, ↓w_region, ↓ops_cons, ↓g_box, Nat.reduceLT, ev_tab, par0, cells_agg, ↓g_assign, ↓ops_nil, ev_const, of_str, ↓g_load, ne_eq, Nat.reduceEqDiff, not_false_eq_true, upd_ne, upd_eq, ↓g_move, par1, alK_some, List.all_cons, o, List.all_nil, Bool.and_self, rd_def, tyOk43, agg43, cells43, hap_0, List.getElem?_cons_zero, rd_aggc, Nat.zero_add, List.length_cons, List.length_nil, Nat.le_refl, List.drop_zero, List.take_succ_cons, List.take_zero, if_true, onS_some, true_and]
  rw [← hA]
  refine call1S (by simp -implicitDefEqProofs only [List.map_cons, Nat.reduceLT, ev_tab, ne_eq, Nat.reduceEqDiff, not_false_eq_true, upd_ne, upd_eq, List.map_nil] <;> rfl) z1 ?_
  try simp -implicitDefEqProofs only [↓ops_cons]
  refine call1 (by simp -implicitDefEqProofs only [List.map_cons, Nat.reduceLT, ev_tab, upd_eq, ev_const, of_int, List.map_nil] <;> rfl) cw ?_
  rcases hs with ⟨h, rfl⟩ | ⟨h, rfl⟩
  · rw [decide_eq_true h]
    rcases hv with hv | ⟨hk, hv⟩
    · omega
    rcases hv with ⟨al, hv⟩ | hv
    · obtain ⟨n, rfl⟩ : ∃ n : Nat, k = n := ⟨k.toNat, by omega⟩
      simp only [Int.toNat_natCast] at *
      obtain ⟨r0, ow, hxe, hr⟩ := (E.isR hx).get (i := n) (by omega)
      have hxe : x = .sl r0 0 l.length 4 := hxe
      subst hxe
      obtain ⟨q, Y, y1, y2, y3, y4, y5⟩ := bytesI hl (n + 1) (by omega) al n (by omega) (by omega) (H := Z) (y := .sc (.slice none 0 0)) (b := []) (c := 0) ⟨rfl, .inl ⟨rfl, rfl⟩⟩ (by omega) hr (fun r o nn kk e => by cases e)
      have EY : Ext H Y := E.trans ⟨y4, fun i hi => y5 i hi (fun r o nn kk e => by cases e)⟩
      have sz := txs_size l (n + 1) (by omega) al n (by omega) (by omega)
      generalize (txs l).getD n ByteArray.empty = T at *
      rw [List.nil_append] at y3
      rw [Nat.zero_add] at y1
      simp -implicitDefEqProofs only [↓ops_cons, ↓g_unOp, Nat.reduceLT, ev_tab, upd_eq, u_not, Bool.not_true, Option.map_some, ↓ops_nil, ↓w_cond, ↓w_seq, ↓w_region, ↓g_assign, ↓w_ret, ev_const, of_str, retP_1, res_tmp, onS_some, ↓w_skip, ↓g_load, ne_eq, Nat.reduceEqDiff, not_false_eq_true, upd_ne, rd_def, tyOk43, agg43, cells43, b1, rd_aggc, Nat.zero_add, List.length_cons, List.length_nil, Nat.le_refl, List.drop_zero, List.take_succ_cons, List.take_zero, if_true, ↓g_move, par1, onB_false]
      refine call1S (by simp -implicitDefEqProofs only [List.map_cons, ev_const, Nat.reduceLT, ev_tab, ne_eq, Nat.reduceEqDiff, not_false_eq_true, upd_ne, upd_eq, List.map_nil] <;> rfl) y1 ?_
      have ts : (nums T).take T.size = nums T := List.take_of_length_le (by rw [nums_len]; omega)
      simp -implicitDefEqProofs only [↓ops_cons, ↓g_convert, Tryd.underlying87, Tryd.underlying9, Nat.reduceLT, ev_tab, upd_eq, ↓g_assign, ↓ops_nil, ↓w_ret, retP_1, res_tmp, onS_some, c_text, isU5, and_self, at_def, y3, at_ints, Nat.zero_add, nums_len, Nat.le_refl, List.drop_zero, ts, if_true, Option.bind_some, bytesA_ints, Option.map_some, son_nums, true_and]
      exact EY
    · omega
  · rw [decide_eq_false h]
    simp -implicitDefEqProofs only [↓ops_cons, ↓g_unOp, Nat.reduceLT, ev_tab, upd_eq, u_not, Bool.not_false, Option.map_some, ↓ops_nil, ↓w_cond, ↓w_seq, ↓w_region, ↓g_assign, ↓w_ret, ev_const, of_str, retP_1, res_tmp, onS_some, ↓w_skip, ↓g_load, ne_eq, Nat.reduceEqDiff, not_false_eq_true, upd_ne, rd_def, tyOk43, agg43, cells43, ↓g_move, par1, onB_true]
    exact ⟨rfl, E⟩
end Go.Proofs.YtfgmmklljibbiaaDoor.Sim

