/- Each byte exclusive-or one. -/
import Derived.Test.YtlaejadiklaaeaaTy
import Derived.Test.YtlaejadiklaaeaaChecked
namespace Go.Proofs.Ytlaejadiklaaeaa.Sim
open Go
set_option maxRecDepth 100000
set_option maxHeartbeats 4000000
set_option linter.unusedSimpArgs false
set_option linter.unusedVariables false
def maskL (l : List Int) (x : Int) : List Int := l.map fun y => bits .xor .u8 y x
def maskT (z : ByteArray) (x : Int) : ByteArray := strOfNums (maskL (nums z) x)
theorem maskL_len (l : List Int) (x : Int) : (maskL l x).length = l.length := by simp [maskL]
def mixI (A B : List Int) (i : Nat) : List Int := B.take i ++ A.drop i
theorem mixI_len (A B : List Int) (i : Nat) (h : A.length = B.length) : (mixI A B i).length = B.length := by
  simp only [mixI, List.length_append, List.length_take, List.length_drop]
  omega
theorem mixI_get (A B : List Int) (i : Nat) (h : A.length = B.length) (hi : i < B.length) : (mixI A B i).getD i 0 = A.getD i 0 := by
  simp only [mixI, List.getD_eq_getElem?_getD]
  rw [List.getElem?_append_right (by rw [List.length_take]; omega), List.length_take, Nat.min_eq_left (by omega), Nat.sub_self, List.getElem?_drop, Nat.add_zero]
theorem mixI_set (A B : List Int) (i : Nat) (h : A.length = B.length) (hi : i < B.length) : (mixI A B i).set i (B.getD i 0) = mixI A B (i + 1) := by
  have hA : i < A.length := by omega
  simp only [mixI, List.getD_eq_getElem?_getD]
  rw [List.set_append_right _ _ (by rw [List.length_take]; omega), List.length_take, Nat.min_eq_left (by omega), Nat.sub_self, List.drop_eq_getElem_cons hA, List.set_cons_zero, List.take_add_one (l := B) (i := i), List.getElem?_eq_getElem hi]
  simp only [Option.getD_some, Option.toList_some, List.append_assoc, List.singleton_append]
theorem maskL_get (l : List Int) (x : Int) (i : Nat) (h : i < l.length) : (maskL l x).getD i 0 = bits .xor .u8 (l.getD i 0) x := by
  simp [maskL, h]
theorem mixI_0 (A B : List Int) : mixI A B 0 = A := by simp [mixI]
theorem mixI_all (A B : List Int) (h : A.length = B.length) : mixI A B B.length = B := by simp [mixI, h]
theorem maskI (z : ByteArray) (x : Int) (hz : z.size ≤ 1000000000) : Fn Try.prog 57 [.sc (.string z), .sc (.int .u8 x)] (.sc (.string (maskT z x))) := by
  refine Fn.run 24 [.tmp 4] Try.func57 rfl rfl rfl rfl (by simp) (flats_cons (.sc _) (flats_cons (.sc _) flats_nil)) (.sc _) ?_
  simp -implicitDefEqProofs only [↓w_seq, ↓w_region, ↓ops_cons, ↓g_assign, ↓ops_nil, ev_const, of_str, ↓g_move, ↓g_convert, Try.underlying9, Try.underlying24, Nat.reduceLT, ev_tab, ne_eq, reduceCtorEq, not_false_eq_true, upd_ne, par0, upd_eq, ↓g_len, ↓w_block, of_int, c_bytes, isU5, cells5, and_self, List.length_nil, len_sl, bytes_ints, List.nil_append, onS_some, true_and]
  have hAB : (nums z).length = (maskL (nums z) x).length := (maskL_len _ _).symm
  have hBl : (maskL (nums z) x).length = z.size := by rw [maskL_len, nums_len]
  refine w_loop (ι := Nat) (fun i s => ∃ T : Nat → AV, s = ⟨tab 24 T, [⟨ints .u8 (mixI (nums z) (maskL (nums z) x) i), true, true⟩]⟩ ∧ i ≤ z.size ∧ T 1 = .sc (.int .u8 x) ∧ T 5 = .sl 0 0 z.size 1 ∧ T 10 = .sc (.int .i64 z.size) ∧ T 11 = .sc (.int .i64 i)) (fun i => z.size - i) ?_ (i := 0) ?_
  · rintro i s ⟨T, rfl, a1, a2, a3, a4, a5⟩
    have hml : (mixI (nums z) (maskL (nums z) x) i).length = z.size := by rw [mixI_len _ _ _ hAB, hBl]
    by_cases h : i < z.size
    · have k1 : (i : Int) < z.size := by omega
      have k0 : (0 : Int) ≤ i := by omega
      have e1 : IntKind.i64.wrap ((i : Int) + 1) = i + 1 := w64 (by omega) (by omega)
      have hs := mixI_set (nums z) (maskL (nums z) x) i hAB (by omega)
      rw [maskL_get _ _ _ (by rw [nums_len]; exact h)] at hs
      have hg := mixI_get (nums z) (maskL (nums z) x) i hAB (by omega)
      simp -implicitDefEqProofs only [↓w_seq, ↓w_region, ↓ops_cons, ↓g_binOp, Nat.reduceLT, ev_tab, a5, a4, b_lss, k1, decide_true, ↓ops_nil, ↓w_cond, upd_eq, ↓w_skip, ↓w_block, ↓g_move, ↓g_assign, ne_eq, Nat.reduceEqDiff, not_false_eq_true, upd_ne, ↓g_indexAddr, Try.underlying24, a3, adr_sl, k0, cells5, tyOk5, and_self, Int.toNat_natCast, Nat.mul_one, Nat.zero_add, if_true, ↓g_load, a2, ↓g_store, ev_const, of_int, b_add, e1, onS_some, wr_def, List.getElem?_cons_zero, rd_def, agg5, rd_ints, hml, h, hg, b_xor, wr_ints, hs, List.set_cons_zero, ↓w_exit, ↓g_convert, Try.underlying9, ↓w_ret, ret_one, c_text, isU5, at_def, at_ints, Nat.le_refl, List.drop_zero, Option.bind_some, bytesA_ints, Option.map_some, onB_true]
      refine ⟨i + 1, by omega, _, rfl, by omega, ?_, ?_, ?_, ?_⟩ <;> simp -implicitDefEqProofs only [ne_eq, Nat.reduceEqDiff, not_false_eq_true, upd_ne, a2, a3, a4, upd_eq] <;> rfl
    · have k1 : ¬ (i : Int) < z.size := by omega
      have hi : i = z.size := by omega
      subst hi
      have hall : mixI (nums z) (maskL (nums z) x) z.size = maskL (nums z) x := by
        have := mixI_all _ _ hAB
        rwa [hBl] at this
      rw [hall] at hml ⊢
      have ht : (maskL (nums z) x).take z.size = maskL (nums z) x := List.take_of_length_le (by omega)
      simp -implicitDefEqProofs only [↓w_seq, ↓w_region, ↓ops_cons, ↓g_binOp, Nat.reduceLT, ev_tab, a5, a4, b_lss, k1, decide_false, ↓ops_nil, ↓w_cond, upd_eq, ↓w_skip, ↓w_block, ↓g_move, ↓g_assign, ne_eq, Nat.reduceEqDiff, not_false_eq_true, upd_ne, ↓g_indexAddr, Try.underlying24, a3, adr_sl, cells5, tyOk5, and_self, and_true, and_false, Nat.mul_one, Nat.zero_add, if_false, ↓g_load, a2, ↓g_store, ev_const, of_int, b_add, onS_some, ↓w_exit, ↓g_convert, Try.underlying9, ↓w_ret, ret_one, c_text, isU5, at_def, List.getElem?_cons_zero, at_ints, hml, Nat.le_refl, List.drop_zero, ht, if_true, Option.bind_some, bytesA_ints, Option.map_some, onB_false]
      rfl
  · refine ⟨_, congrArg (St.mk _) (by rw [mixI_0]), by omega, ?_, ?_, ?_, ?_⟩ <;> simp -implicitDefEqProofs only [ne_eq, Nat.reduceEqDiff, not_false_eq_true, upd_ne, par1, upd_eq, Int.cast_ofNat_Int] <;> rfl
theorem maskS (z : ByteArray) (x : Int) (hz : z.size ≤ 1000000000) : Fn Try.prog 56 [.sc (.string z), .sc (.int .u8 x)] (.sc (.string (maskT z x))) := by
  refine Fn.run 26 [.tmp 4] Try.func56 rfl rfl rfl rfl (by simp) (flats_cons (.sc _) (flats_cons (.sc _) flats_nil)) (.sc _) ?_
  simp -implicitDefEqProofs only [↓w_seq, ↓w_region, ↓ops_cons, ↓g_assign, ↓ops_nil, ev_const, of_str, ↓g_move, ↓g_convert, Try.underlying9, Try.underlying24, Nat.reduceLT, ev_tab, ne_eq, reduceCtorEq, not_false_eq_true, upd_ne, par0, upd_eq, ↓w_block, of_int, c_bytes, isU5, cells5, and_self, List.length_nil, bytes_ints, List.nil_append, true_and]
  have hAB : (nums z).length = (maskL (nums z) x).length := (maskL_len _ _).symm
  have hBl : (maskL (nums z) x).length = z.size := by rw [maskL_len, nums_len]
  refine w_loop (ι := Nat) (fun i s => ∃ T : Nat → AV, s = ⟨tab 26 T, [⟨ints .u8 (mixI (nums z) (maskL (nums z) x) i), true, true⟩]⟩ ∧ i ≤ z.size ∧ T 1 = .sc (.int .u8 x) ∧ T 5 = .sl 0 0 z.size 1 ∧ T 6 = .sc (.int .i64 i)) (fun i => z.size - i) ?_ (i := 0) ?_
  · rintro i s ⟨T, rfl, a1, a2, a3, a5⟩
    have hml : (mixI (nums z) (maskL (nums z) x) i).length = z.size := by rw [mixI_len _ _ _ hAB, hBl]
    by_cases h : i < z.size
    · have k1 : (i : Int) < z.size := by omega
      have k0 : (0 : Int) ≤ i := by omega
      have e1 : IntKind.i64.wrap ((i : Int) + 1) = i + 1 := w64 (by omega) (by omega)
      have hs := mixI_set (nums z) (maskL (nums z) x) i hAB (by omega)
      rw [maskL_get _ _ _ (by rw [nums_len]; exact h)] at hs
      have hg := mixI_get (nums z) (maskL (nums z) x) i hAB (by omega)
      simp -implicitDefEqProofs only [↓w_seq, ↓w_region, ↓ops_cons, ↓g_move, ↓g_len, Try.underlying24, Nat.reduceLT, ev_tab, a5, ne_eq, Nat.reduceEqDiff, not_false_eq_true, upd_ne, a3, upd_eq, len_sl, ↓g_binOp, ↓ops_nil, ↓w_cond, ↓w_skip, ↓w_block, ↓g_indexAddr, adr_sl, k1, cells5, tyOk5, and_self, and_true, Nat.mul_one, Nat.zero_add, ↓g_load, a2, ↓g_store, ev_const, of_int, b_add, ↓g_assign, onS_some, onS_ite, wr_def, List.getElem?_cons_zero, rd_def, agg5, rd_ints, b_xor, wr_ints, List.set_cons_zero, ↓w_exit, ↓g_convert, Try.underlying9, ↓w_ret, ret_one, c_text, isU5, at_def, at_ints, List.drop_zero, if_true, b_lss, decide_true, onB_true]
      try refine drawn [] follows (by kernel_rfl) (by kernel_rfl) ?_
      simp -implicitDefEqProofs only [k0, Int.toNat_natCast, hml, h, hg, e1, hs, true_and]
      refine ⟨i + 1, by omega, _, rfl, by omega, ?_, ?_, ?_⟩ <;> simp -implicitDefEqProofs only [ne_eq, Nat.reduceEqDiff, not_false_eq_true, upd_ne, a2, a3, upd_eq] <;> rfl
    · have k1 : ¬ (i : Int) < z.size := by omega
      have hi : i = z.size := by omega
      subst hi
      have hall : mixI (nums z) (maskL (nums z) x) z.size = maskL (nums z) x := by
        have := mixI_all _ _ hAB
        rwa [hBl] at this
      rw [hall] at hml ⊢
      have ht : (maskL (nums z) x).take z.size = maskL (nums z) x := List.take_of_length_le (by omega)
      simp -implicitDefEqProofs only [↓w_seq, ↓w_region, ↓ops_cons, ↓g_move, ↓g_len, Try.underlying24, Nat.reduceLT, ev_tab, a5, ne_eq, Nat.reduceEqDiff, not_false_eq_true, upd_ne, a3, upd_eq, len_sl, ↓g_binOp, ↓ops_nil, ↓w_cond, ↓w_skip, ↓w_block, ↓g_indexAddr, adr_sl, k1, cells5, tyOk5, and_self, and_true, and_false, Nat.mul_one, Nat.zero_add, if_false, ↓g_load, a2, ↓g_store, ev_const, of_int, b_add, ↓g_assign, onS_some, ↓w_exit, ↓g_convert, Try.underlying9, ↓w_ret, ret_one, c_text, isU5, at_def, List.getElem?_cons_zero, at_ints, hml, Nat.le_refl, List.drop_zero, ht, if_true, Option.bind_some, bytesA_ints, Option.map_some, b_lss, decide_false, onB_false]
      rfl
  · refine ⟨_, congrArg (St.mk _) (by rw [mixI_0]), by omega, ?_, ?_, ?_⟩ <;> simp -implicitDefEqProofs only [ne_eq, Nat.reduceEqDiff, not_false_eq_true, upd_ne, par1, upd_eq, Int.cast_ofNat_Int] <;> rfl
end Go.Proofs.Ytlaejadiklaaeaa.Sim

