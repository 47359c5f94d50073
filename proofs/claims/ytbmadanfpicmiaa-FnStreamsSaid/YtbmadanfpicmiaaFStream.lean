/- A stream of ChaCha20. -/
import Derived.Test.YtbmadanfpicmiaaFChaBlkS
import Derived.Test.YtbmadanfpicmiaaFChaBlkI
import Derived.Test.YtbmadanfpicmiaaFChaStart
namespace Go.Proofs.Ytbmadanfpicmiaa.Sim
open Go
set_option maxRecDepth 100000
set_option maxHeartbeats 4000000
set_option linter.unusedSimpArgs false
set_option linter.unusedVariables false
theorem move_one {P : Program} {f : FuncId} {v : Value} {Z H : AHeap} {r n : Nat} {g : Reg} (hs : Sound P f [.sl 0 0 n 1] [g] (.sc v) Z) (hz : Z[0]? = some g) (hH : H[r]? = some g) (hf : FlatReg g) : Sound P f [.sl r 0 n 1] H (.sc v) H := by
  refine Sound.move0 [r] hs rfl (by simp) ?_ (.cons (.sl rfl) .nil) (.flat (.sc _))
  intro i x hx
  match i, hx with
  | 0, hx =>
    simp at hx
    subst hx
    exact ⟨_, rfl, hz, hH, hf⟩
  | n + 1, hx => simp at hx
theorem blkAtI {H : AHeap} {r : Nat} {own : Bool} {l : List Int} (hl : l.length = 16) (hw : Wd l) (hH : H[r]? = some ⟨ints .i64 l, own, true⟩) : Sound Try.prog 19 [.sl r 0 16 1] H (.sc (.string (chaBlk l))) H := by
  obtain ⟨v, Z, h1, rfl, h2⟩ := chaBlkI0 own l hl hw
  exact move_one h1 h2 hH (FlatReg.ints _ _ _ _)
theorem blkAtS {H : AHeap} {r : Nat} {own : Bool} {l : List Int} (hl : l.length = 16) (hw : Wd l) (hH : H[r]? = some ⟨ints .i64 l, own, true⟩) : Sound Try.prog 26 [.sl r 0 16 1] H (.sc (.string (chaBlk l))) H := by
  obtain ⟨v, Z, h1, rfl, h2⟩ := chaBlkS0 own l hl hw
  exact move_one h1 h2 hH (FlatReg.ints _ _ _ _)
theorem numL_wd (z : ByteArray) (m : Nat) : ∀ x ∈ numL z m, 0 ≤ x ∧ x < 4294967296 := by
  intro x hx
  obtain ⟨j, _, rfl⟩ := List.mem_map.1 hx
  exact le4_range _ _
theorem wd_of {l : List Int} (h : ∀ x ∈ l, 0 ≤ x ∧ x < 4294967296) : Wd l := by
  intro i
  rw [List.getD_eq_getElem?_getD]
  by_cases hi : i < l.length
  · rw [List.getElem?_eq_getElem hi]
    exact h _ (List.getElem_mem hi)
  · rw [List.getElem?_eq_none (by omega)]
    simp
theorem chaL_wd (k n : ByteArray) (c : Int) (h0 : 0 ≤ c) (h1 : c ≤ 4294967295) : Wd (chaL k n c) := by
  apply wd_of
  intro x hx
  simp only [chaL, List.mem_append, List.mem_cons] at hx
  rcases hx with hx | rfl | hx
  · exact numL_wd _ _ x hx
  · omega
  · exact numL_wd _ _ x hx
theorem chaL_12 (k n : ByteArray) (c : Int) : (chaL k n c).getD 12 0 = c := by
  rw [chaL, List.getD_eq_getElem?_getD, List.getElem?_append_right (by rw [numL_len]; omega), numL_len]
  rfl
theorem chaL_set (k n : ByteArray) (c d : Int) : (chaL k n c).set 12 d = chaL k n d := by
  rw [chaL, List.set_append_right _ _ (by rw [numL_len]; omega), numL_len]
  rfl
instance (k n : ByteArray) (c : Int) : Decidable (chaB k n c) := by
  unfold chaB
  infer_instance
def cnt (c : Int) (i : Nat) : Int := (c + i) % 4294967296
theorem cnt_0 {c : Int} (h0 : 0 ≤ c) (h1 : c ≤ 4294967295) : cnt c 0 = c := by unfold cnt; omega
theorem cnt_s (c : Int) (i : Nat) : (cnt c i + 1) % 4294967296 = cnt c (i + 1) := by unfold cnt; omega
theorem cnt_b (c : Int) (i : Nat) : 0 ≤ cnt c i ∧ cnt c i ≤ 4294967295 := by unfold cnt; omega
def strmL (k n : ByteArray) (c : Int) : Nat → List Int
  | 0 => []
  | i + 1 => strmL k n c i ++ blkL (chaL k n (cnt c i))
theorem blkL_len (l : List Int) : (blkL l).length = 64 := by rw [blkL, sumL_len]
theorem strmL_len (k n : ByteArray) (c : Int) : ∀ i, (strmL k n c i).length = 64 * i
  | 0 => rfl
  | i + 1 => by rw [strmL, List.length_append, strmL_len k n c i, blkL_len]; omega
def strmT (k n : ByteArray) (c m : Int) : ByteArray := strOfNums ((strmL k n c ((m.toNat + 63) / 64)).take m.toNat)
def strmV (k n : ByteArray) (c m : Int) : AV := if chaB k n c ∧ 0 ≤ m ∧ m ≤ 10000 then .tup [.sc (.string (strmT k n c m)), .sc (.bool true)] else .tup [.sc (.string ByteArray.empty), .sc (.bool false)]
theorem strmV_flat (k n : ByteArray) (c m : Int) : Flat (strmV k n c m) := by
  unfold strmV
  split <;> exact .tup (flats_cons (.sc _) (flats_cons (.sc _) flats_nil))
theorem sumL_range (x l : List Int) : ∀ i, ∀ y ∈ sumL x l i, 0 ≤ y ∧ y < 256
  | 0, y, hy => by cases hy
  | i + 1, y, hy => by
    simp only [sumL, List.mem_append] at hy
    rcases hy with hy | hy
    · exact sumL_range x l i y hy
    · exact loL_range _ _ y hy
theorem nums_blk (l : List Int) : nums (chaBlk l) = blkL l := nums_son (sumL_range _ _ _)
theorem strmL_range (k n : ByteArray) (c : Int) : ∀ i, ∀ y ∈ strmL k n c i, 0 ≤ y ∧ y < 256
  | 0, y, hy => by cases hy
  | i + 1, y, hy => by
    simp only [strmL, List.mem_append] at hy
    rcases hy with hy | hy
    · exact strmL_range k n c i y hy
    · exact sumL_range _ _ _ y hy
theorem son_take (l : List Int) (m : Nat) (h : ∀ y ∈ l, 0 ≤ y ∧ y < 256) : (strOfNums l).extract 0 m = strOfNums (l.take m) := by
  apply nums_inj
  rw [nums_extract, nums_son h, nums_son (fun y hy => h y (List.mem_of_mem_take hy))]
  rfl
theorem strmI (k n : ByteArray) (c m : Int) : Fn Try.prog 14 [.sc (.string k), .sc (.string n), .sc (.int .i64 c), .sc (.int .i64 m)] (strmV k n c m) := by
  refine Fn.run 52 [.tmp 8, .tmp 9] Try.func14 rfl rfl rfl rfl (by simp) (flats_cons (.sc _) (flats_cons (.sc _) (flats_cons (.sc _) (flats_cons (.sc _) flats_nil)))) (strmV_flat _ _ _ _) ?_
  unfold strmV
  by_cases h : chaB k n c
  · have hc := h.2.2
    simp -implicitDefEqProofs only [↓w_seq, ↓w_region, ↓ops_cons, ↓g_assign, ↓ops_nil, ev_const, of_str, of_bool, ↓g_move, Nat.reduceLT, ev_tab, ne_eq, reduceCtorEq, not_false_eq_true, upd_ne, par0, Nat.reduceEqDiff, par1, par2]
    refine call1S (by simp -implicitDefEqProofs only [List.map_cons, Nat.reduceLT, ev_tab, ne_eq, Nat.reduceEqDiff, not_false_eq_true, upd_ne, upd_eq, List.map_nil] <;> rfl) (chaI_ok k n c h _) ?_
    simp -implicitDefEqProofs only [↓ops_cons, ↓g_move, ↓g_extract, List.length_nil, Nat.reduceLT, ev_tab, upd_eq, ext_0, ne_eq, Nat.reduceEqDiff, not_false_eq_true, upd_ne, ext_1, ↓g_assign, ↓ops_nil, ↓w_seq, ↓w_region, List.nil_append, ↓g_unOp, onS_some, u_not, Bool.not_true, Option.map_some, yielded_tab, dstAt_s, dstAt_0, ybv_some, boolOf_b, ↓g_guard_t, par3]
    refine call1 (by simp -implicitDefEqProofs only [List.map_cons, Nat.reduceLT, ev_tab, upd_eq, ev_const, of_int, List.map_nil] <;> rfl) (inI m 0 10000) ?_
    by_cases hm : 0 ≤ m ∧ m ≤ 10000
    · rw [decide_eq_true (p := 0 ≤ m ∧ m ≤ 10000) hm, if_pos ⟨h, hm⟩]
      simp -implicitDefEqProofs only [↓ops_cons, yielded_tab, dstAt_s, dstAt_0, Nat.reduceLT, ybv_some, ne_eq, Nat.reduceEqDiff, not_false_eq_true, upd_ne, upd_eq, boolOf_b, ↓g_guard_t, ↓g_unOp, ev_tab, u_not, Bool.not_true, Option.map_some, ↓g_pick, ev_const, of_bool, pick_b, reduceCtorEq, if_false, ↓ops_nil, ↓w_cond, ↓w_seq, ↓w_region, ↓g_assign, ↓w_ret, of_str, ret_two, ↓w_skip, ↓g_buildSlice, Try.underlying22, List.map_nil, bs5_0, ↓w_block, alK_some, ints_one, List.length_cons, List.length_nil, Nat.zero_add, List.cons_append, List.nil_append, true_and, onS_some, onB_false]
      refine w_loop (ι := Nat) (fun i s => ∃ (T : Nat → AV) (G : AHeap), s = ⟨tab 52 T, G ++ [⟨ints .u8 (strmL k n c i), true, true⟩]⟩ ∧ i ≤ (m.toNat + 63) / 64 ∧ T 0 = .sc (.string k) ∧ T 1 = .sc (.string n) ∧ T 2 = .sc (.int .i64 (cnt c i)) ∧ T 3 = .sc (.int .i64 m) ∧ T 12 = .sl G.length 0 (64 * i) 1) (fun i => (m.toNat + 63) / 64 - i) ?_ (i := 0) ?_
      · rintro i s ⟨T, G, rfl, a1, a2, a3, a4, a5, a6⟩
        have hsl := strmL_len k n c i
        have hcb := cnt_b c i
        by_cases hi : 64 * i < m.toNat
        · have k1 : ((64 * i : Nat) : Int) < m := by omega
          have hB : chaB k n (cnt c i) := ⟨h.1, h.2.1, hcb⟩
          have hw := chaL_wd k n (cnt c i) hcb.1 hcb.2
          have e1 : IntKind.i64.wrap (cnt c i + 1) = cnt c i + 1 := w64 (by omega) (by omega)
          simp -implicitDefEqProofs only [↓w_seq, ↓w_region, ↓ops_cons, ↓g_move, ↓g_len, Try.underlying22, Nat.reduceLT, ev_tab, a6, upd_eq, len_sl, ↓g_binOp, ne_eq, Nat.reduceEqDiff, not_false_eq_true, upd_ne, a5, ↓ops_nil, ↓w_cond, ↓w_skip, ↓w_block, reduceCtorEq, a2, a3, a4, ↓w_exit, ↓g_slice, Option.map_none, Option.map_some, cut_sl, bnd_none, bnd_int, ↓g_convert, Try.underlying9, ↓g_assign, ↓w_ret, ev_const, of_bool, ret_two, if_true, onS_some, b_lss, k1, decide_true, onB_true]
          refine call1S (by simp -implicitDefEqProofs only [List.map_cons, Nat.reduceLT, ev_tab, ne_eq, Nat.reduceEqDiff, not_false_eq_true, upd_ne, upd_eq, List.map_nil] <;> rfl) (chaI_ok k n (cnt c i) hB _) ?_
          simp -implicitDefEqProofs only [↓ops_cons, ↓g_move, ↓g_extract, List.length_append, List.length_cons, List.length_nil, Nat.zero_add, Nat.reduceLT, ev_tab, upd_eq, ext_0, ne_eq, Nat.reduceEqDiff, not_false_eq_true, upd_ne, ext_1, ↓g_assign, ↓ops_nil, ↓w_seq, ↓w_region, a6, onS_some]
          refine call1S (by simp -implicitDefEqProofs only [List.map_cons, Nat.reduceLT, ev_tab, upd_eq, List.map_nil] <;> rfl) (blkAtI (own := true) (chaL_len _ _ _) hw (at_b _ _ _)) ?_
          simp -implicitDefEqProofs only [↓ops_cons, ↓g_append, Try.underlying22, Try.underlying9, Nat.reduceLT, ev_tab, ne_eq, Nat.reduceEqDiff, not_false_eq_true, upd_ne, upd_eq, apStr22, at_a, src_str, nums_blk, ap_ints, hsl, Nat.le_refl, blkL_len, Nat.mul_one, Nat.reduceLeDiff, and_self, true_and, List.length_append, List.length_cons, List.length_nil, Nat.zero_add, ↓g_assign, ↓ops_nil, ↓w_region, ↓g_move, ↓g_binOp, a4, ev_const, of_int, b_add, e1, onS_some, b_and, i64_maskA, cnt_s, onS_ite]
          refine ⟨by omega, i + 1, by omega, _, _, st_end ?_, by omega, ?_, ?_, ?_, ?_, ?_⟩
          · rw [List.take_of_length_le (by omega)]
            rfl
          · simp -implicitDefEqProofs only [ne_eq, reduceCtorEq, not_false_eq_true, upd_ne, a2]
          · simp -implicitDefEqProofs only [ne_eq, Nat.reduceEqDiff, not_false_eq_true, upd_ne, a3]
          · simp -implicitDefEqProofs only [upd_eq]
          · simp -implicitDefEqProofs only [ne_eq, Nat.reduceEqDiff, not_false_eq_true, upd_ne, a5]
          · simp -implicitDefEqProofs only [ne_eq, Nat.reduceEqDiff, not_false_eq_true, upd_ne, upd_eq, kill_len, List.length_append, List.length_cons, List.length_nil, Nat.zero_add]
            try simp only [kill_len, List.length_append, List.length_cons, List.length_nil]
            try rfl
        · have k1 : ¬ ((64 * i : Nat) : Int) < m := by omega
          have hi2 : i = (m.toNat + 63) / 64 := by omega
          have k2 : 0 ≤ m := hm.1
          have k3 : m.toNat ≤ 64 * i := by omega
          simp -implicitDefEqProofs only [↓w_seq, ↓w_region, ↓ops_cons, ↓g_move, ↓g_len, Try.underlying22, Nat.reduceLT, ev_tab, a6, upd_eq, len_sl, ↓g_binOp, ne_eq, Nat.reduceEqDiff, not_false_eq_true, upd_ne, a5, ↓ops_nil, ↓w_cond, ↓w_skip, ↓w_block, reduceCtorEq, a2, a3, a4, ↓w_exit, ↓g_slice, Option.map_none, Option.map_some, cut_sl, bnd_none, bnd_int, k2, if_true, cutL_some, Nat.zero_le, k3, cells5, tyOk5, and_self, Nat.mul_one, Nat.zero_add, Nat.sub_zero, ↓g_convert, Try.underlying9, ↓g_assign, ↓w_ret, ev_const, of_bool, ret_two, onS_some, c_text, isU5, at_def, at_end, at_ints, hsl, List.drop_zero, Option.bind_some, bytesA_ints, b_lss, k1, decide_false, onB_false]
          rw [strmT, ← hi2]
      · refine ⟨_, [⟨ints .i64 (chaL k n c), true, true⟩], rfl, by omega, ?_, ?_, ?_, ?_, ?_⟩ <;> simp -implicitDefEqProofs only [ne_eq, reduceCtorEq, not_false_eq_true, upd_ne, par0, Nat.reduceEqDiff, par1, par2, cnt_0 hc.1 hc.2, par3, upd_eq, List.length_cons, List.length_nil, Nat.zero_add, Nat.reduceMul] <;> rfl
    · rw [decide_eq_false (p := 0 ≤ m ∧ m ≤ 10000) hm, if_neg (fun x => hm x.2)]
      simp -implicitDefEqProofs only [↓ops_cons, yielded_tab, dstAt_s, dstAt_0, Nat.reduceLT, ybv_some, ne_eq, Nat.reduceEqDiff, not_false_eq_true, upd_ne, upd_eq, boolOf_b, ↓g_guard_t, ↓g_unOp, ev_tab, u_not, Bool.not_false, Option.map_some, ↓g_pick, ev_const, of_bool, pick_b, reduceCtorEq, if_false, ↓ops_nil, ↓w_cond, ↓w_seq, ↓w_region, ↓g_assign, ↓w_ret, of_str, ret_two, ↓w_skip, ↓g_buildSlice, Try.underlying22, List.map_nil, bs5_0, ↓w_block, alK_some, ints_one, List.length_cons, List.length_nil, Nat.zero_add, List.cons_append, List.nil_append, true_and, onS_some, onB_true]
      try rfl
  · rw [if_neg (fun x => h x.1)]
    simp -implicitDefEqProofs only [↓w_seq, ↓w_region, ↓ops_cons, ↓g_assign, ↓ops_nil, ev_const, of_str, of_bool, ↓g_move, Nat.reduceLT, ev_tab, ne_eq, reduceCtorEq, not_false_eq_true, upd_ne, par0, Nat.reduceEqDiff, par1, par2]
    refine call1 (by simp -implicitDefEqProofs only [List.map_cons, Nat.reduceLT, ev_tab, ne_eq, Nat.reduceEqDiff, not_false_eq_true, upd_ne, upd_eq, List.map_nil] <;> rfl) (chaI_no k n c h) ?_
    simp -implicitDefEqProofs only [↓ops_cons, ↓g_move, ↓g_extract, Nat.reduceLT, ev_tab, upd_eq, ext_0, ne_eq, Nat.reduceEqDiff, not_false_eq_true, upd_ne, ext_1, ↓g_assign, ↓ops_nil, ↓w_seq, ↓w_region, ↓g_unOp, onS_some, u_not, Bool.not_false, Option.map_some, yielded_tab, dstAt_s, dstAt_0, ybv_some, boolOf_b, ↓g_guard_f, ↓g_pick, ev_const, of_bool, pick_b, if_true, ↓w_cond, ↓w_ret, of_str, ret_two, ↓w_skip, ↓g_buildSlice, Try.underlying22, List.map_nil, bs5_0, ↓w_block, alK_some, ints_one, List.length_nil, List.nil_append, true_and, onB_true]
    try rfl
theorem strmS (k n : ByteArray) (c m : Int) : Fn Try.prog 28 [.sc (.string k), .sc (.string n), .sc (.int .i64 c), .sc (.int .i64 m)] (strmV k n c m) := by
  refine Fn.run 45 [.tmp 8, .tmp 9] Try.func28 rfl rfl rfl rfl (by simp) (flats_cons (.sc _) (flats_cons (.sc _) (flats_cons (.sc _) (flats_cons (.sc _) flats_nil)))) (strmV_flat _ _ _ _) ?_
  unfold strmV
  by_cases h : chaB k n c
  · have hc := h.2.2
    simp -implicitDefEqProofs only [↓w_seq, ↓w_region, ↓ops_cons, ↓g_assign, ↓ops_nil, ev_const, of_str, of_bool, ↓g_move, Nat.reduceLT, ev_tab, ne_eq, reduceCtorEq, not_false_eq_true, upd_ne, par0, Nat.reduceEqDiff, par1, par2]
    refine call1S (by simp -implicitDefEqProofs only [List.map_cons, Nat.reduceLT, ev_tab, ne_eq, Nat.reduceEqDiff, not_false_eq_true, upd_ne, upd_eq, List.map_nil] <;> rfl) (chaS_ok k n c h _) ?_
    simp -implicitDefEqProofs only [↓ops_cons, ↓g_move, ↓g_extract, List.length_nil, Nat.reduceLT, ev_tab, upd_eq, ext_0, ne_eq, Nat.reduceEqDiff, not_false_eq_true, upd_ne, ext_1, ↓g_assign, ↓ops_nil, ↓w_seq, ↓w_region, List.nil_append, ↓g_unOp, onS_some, u_not, Bool.not_true, Option.map_some, yielded_tab, dstAt_s, dstAt_0, ybv_some, boolOf_b, ↓g_guard_t, par3]
    refine call1 (by simp -implicitDefEqProofs only [List.map_cons, Nat.reduceLT, ev_tab, upd_eq, ev_const, of_int, List.map_nil] <;> rfl) (inS m 0 10000) ?_
    by_cases hm : 0 ≤ m ∧ m ≤ 10000
    · rw [decide_eq_true (p := 0 ≤ m ∧ m ≤ 10000) hm, if_pos ⟨h, hm⟩]
      simp -implicitDefEqProofs only [↓ops_cons, yielded_tab, dstAt_s, dstAt_0, Nat.reduceLT, ybv_some, ne_eq, Nat.reduceEqDiff, not_false_eq_true, upd_ne, upd_eq, boolOf_b, ↓g_guard_t, ↓g_unOp, ev_tab, u_not, Bool.not_true, Option.map_some, ↓g_pick, ev_const, of_bool, pick_b, reduceCtorEq, if_false, ↓ops_nil, ↓w_cond, ↓w_seq, ↓w_region, ↓g_assign, ↓w_ret, of_str, ret_two, ↓w_skip, ↓w_block, onS_some, onB_false]
      refine w_loop (ι := Nat) (fun i s => ∃ (T : Nat → AV), s = ⟨tab 45 T, [⟨ints .i64 (chaL k n (cnt c i)), true, true⟩]⟩ ∧ i ≤ (m.toNat + 63) / 64 ∧ T 3 = .sc (.int .i64 m) ∧ T 10 = .sl 0 0 16 1 ∧ T 12 = .sc (.string (strOfNums (strmL k n c i)))) (fun i => (m.toNat + 63) / 64 - i) ?_ (i := 0) ?_
      · rintro i s ⟨T, rfl, a1, a2, a3, a4⟩
        have hsl := strmL_len k n c i
        have hcb := cnt_b c i
        by_cases hi : 64 * i < m.toNat
        · have k1 : ((64 * i : Nat) : Int) < m := by omega
          have hw := chaL_wd k n (cnt c i) hcb.1 hcb.2
          have e1 : IntKind.i64.wrap (cnt c i + 1) = cnt c i + 1 := w64 (by omega) (by omega)
          simp -implicitDefEqProofs only [↓w_seq, ↓w_region, ↓ops_cons, ↓g_move, ↓g_len, Try.underlying9, Nat.reduceLT, ev_tab, a4, upd_eq, len_str, son_size, hsl, ↓g_binOp, ne_eq, Nat.reduceEqDiff, not_false_eq_true, upd_ne, a2, ↓ops_nil, ↓w_cond, ↓w_skip, ↓w_block, a3, ↓w_exit, ↓g_slice, Option.map_none, Option.map_some, cut_str, bnd_none, bnd_int, ↓g_assign, ↓w_ret, ev_const, of_bool, ret_two, if_true, onS_some, b_lss, k1, decide_true, onB_true]
          refine call1S (by simp -implicitDefEqProofs only [List.map_cons, Nat.reduceLT, ev_tab, upd_eq, List.map_nil] <;> rfl) (blkAtS (own := true) (chaL_len _ _ _) hw rfl) ?_
          have hcb2 : ∀ l, chaBlk l = strOfNums (blkL l) := fun _ => rfl
          simp -implicitDefEqProofs only [↓ops_cons, ↓g_binOp, Nat.reduceLT, ev_tab, ne_eq, Nat.reduceEqDiff, not_false_eq_true, upd_ne, upd_eq, t_add, son_size, hsl, chaBlk_size, Nat.reduceLeDiff, ↓g_assign, ↓ops_nil, ↓w_region, ↓g_move, ↓g_indexAddr, Try.underlying26, a3, ev_const, of_int, adr_sl, Int.reduceLE, Int.cast_ofNat_Int, Int.reduceLT, cells3, tyOk3, and_self, Int.reduceToNat, Nat.mul_one, Nat.zero_add, if_true, ↓g_load, onS_some, rd_def, agg3, List.getElem?_cons_zero, rd_ints, chaL_len, chaL_12, b_add, e1, onS_ite]
          refine ⟨by omega, ?_⟩
          refine call1 (by simp -implicitDefEqProofs only [List.map_cons, Nat.reduceLT, ev_tab, upd_eq, List.map_nil] <;> rfl) (cutAll _) ?_
          simp -implicitDefEqProofs only [↓ops_cons, ↓g_indexAddr, Try.underlying26, cnt_s, Nat.reduceLT, ev_tab, ne_eq, Nat.reduceEqDiff, not_false_eq_true, upd_ne, upd_eq, ev_const, of_int, adr_sl, Int.reduceLE, Int.cast_ofNat_Int, Int.reduceLT, cells3, tyOk3, and_self, Int.reduceToNat, Nat.mul_one, Nat.zero_add, if_true, ↓g_store, ↓ops_nil, onS_some, wr_def, List.getElem?_cons_zero, wr_ints, chaL_len, chaL_set, List.set_cons_zero]
          refine ⟨i + 1, by omega, _, rfl, by omega, ?_, ?_, ?_⟩
          · simp -implicitDefEqProofs only [ne_eq, Nat.reduceEqDiff, not_false_eq_true, upd_ne, a2]
          · simp -implicitDefEqProofs only [ne_eq, Nat.reduceEqDiff, not_false_eq_true, upd_ne, a3]
          · simp -implicitDefEqProofs only [hcb2, son_append, ne_eq, Nat.reduceEqDiff, not_false_eq_true, upd_ne, upd_eq]
            rfl
        · have k1 : ¬ ((64 * i : Nat) : Int) < m := by omega
          have hi2 : i = (m.toNat + 63) / 64 := by omega
          have k2 : 0 ≤ m := hm.1
          have k3 : m.toNat ≤ 64 * i := by omega
          simp -implicitDefEqProofs only [↓w_seq, ↓w_region, ↓ops_cons, ↓g_move, ↓g_len, Try.underlying9, Nat.reduceLT, ev_tab, a4, upd_eq, len_str, son_size, hsl, ↓g_binOp, ne_eq, Nat.reduceEqDiff, not_false_eq_true, upd_ne, a2, ↓ops_nil, ↓w_cond, ↓w_skip, ↓w_block, a3, ↓w_exit, ↓g_slice, Option.map_none, Option.map_some, cut_str, bnd_none, bnd_int, k2, if_true, cutS_some, Nat.zero_le, k3, and_self, ↓g_assign, ↓w_ret, ev_const, of_bool, ret_two, onS_some, b_lss, k1, decide_false, onB_false]
          rw [son_take _ _ (strmL_range _ _ _ _), strmT, ← hi2]
      · refine ⟨_, congrArg (St.mk _) (by rw [cnt_0 hc.1 hc.2]), by omega, ?_, ?_, ?_⟩ <;> simp -implicitDefEqProofs only [ne_eq, Nat.reduceEqDiff, not_false_eq_true, upd_ne, par3, upd_eq] <;> rfl
    · rw [decide_eq_false (p := 0 ≤ m ∧ m ≤ 10000) hm, if_neg (fun x => hm x.2)]
      simp -implicitDefEqProofs only [↓ops_cons, yielded_tab, dstAt_s, dstAt_0, Nat.reduceLT, ybv_some, ne_eq, Nat.reduceEqDiff, not_false_eq_true, upd_ne, upd_eq, boolOf_b, ↓g_guard_t, ↓g_unOp, ev_tab, u_not, Bool.not_false, Option.map_some, ↓g_pick, ev_const, of_bool, pick_b, reduceCtorEq, if_false, ↓ops_nil, ↓w_cond, ↓w_seq, ↓w_region, ↓g_assign, ↓w_ret, of_str, ret_two, ↓w_skip, ↓w_block, onS_some, onB_true]
      try rfl
  · rw [if_neg (fun x => h x.1)]
    simp -implicitDefEqProofs only [↓w_seq, ↓w_region, ↓ops_cons, ↓g_assign, ↓ops_nil, ev_const, of_str, of_bool, ↓g_move, Nat.reduceLT, ev_tab, ne_eq, reduceCtorEq, not_false_eq_true, upd_ne, par0, Nat.reduceEqDiff, par1, par2]
    refine call1S (by simp -implicitDefEqProofs only [List.map_cons, Nat.reduceLT, ev_tab, ne_eq, Nat.reduceEqDiff, not_false_eq_true, upd_ne, upd_eq, List.map_nil] <;> rfl) (chaS_no k n c h _) ?_
    simp -implicitDefEqProofs only [↓ops_cons, ↓g_move, ↓g_extract, List.length_nil, Nat.reduceLT, ev_tab, upd_eq, ext_0, ne_eq, Nat.reduceEqDiff, not_false_eq_true, upd_ne, ext_1, ↓g_assign, ↓ops_nil, ↓w_seq, ↓w_region, List.nil_append, ↓g_unOp, onS_some, u_not, Bool.not_false, Option.map_some, yielded_tab, dstAt_s, dstAt_0, ybv_some, boolOf_b, ↓g_guard_f, ↓g_pick, ev_const, of_bool, pick_b, if_true, ↓w_cond, ↓w_ret, of_str, ret_two, ↓w_skip, ↓w_block, onB_true]
    try rfl
end Go.Proofs.Ytbmadanfpicmiaa.Sim

