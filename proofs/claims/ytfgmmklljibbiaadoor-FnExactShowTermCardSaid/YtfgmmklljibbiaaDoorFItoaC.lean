/- Decimal numerals: what the library and the reference write. -/
import Derived.Test.YtfgmmklljibbiaaDoorFHap
import Derived.Test.YtfgmmklljibbiaaDoorFIn
import Derived.Test.YtfgmmklljibbiaaDoorShelf
namespace Go.Proofs.YtfgmmklljibbiaaDoor.Sim
open Go
set_option maxRecDepth 100000
set_option maxHeartbeats 4000000
set_option linter.unusedSimpArgs false
set_option linter.unusedVariables false
def dgs (n : Nat) : List Int := if n = 0 then [] else dgs (n / 10) ++ [((48 + n % 10 : Nat) : Int)]
termination_by n
decreasing_by omega
theorem dgs_0 : dgs 0 = [] := by rw [dgs, if_pos rfl]
theorem dgs_s {n : Nat} (h : 0 < n) : dgs n = dgs (n / 10) ++ [((48 + n % 10 : Nat) : Int)] := by rw [dgs, if_neg (by omega)]
def decL (n : Nat) : List Int := if n = 0 then [48] else dgs n
def decT (n : Nat) : ByteArray := strOfNums (decL n)
theorem dgs_len (k : Nat) : ∀ n, n < 10 ^ k → (dgs n).length ≤ k := by
  induction k with
  | zero =>
    intro n h
    have : n = 0 := by simpa using h
    subst this
    rw [dgs_0]; simp
  | succ k ih =>
    intro n h
    by_cases h0 : n = 0
    · subst h0; rw [dgs_0]; simp
    · rw [dgs_s (by omega), List.length_append]
      have := ih (n / 10) (by rw [Nat.pow_succ] at h; omega)
      simp; omega
theorem decT_size (n : Nat) (h : n ≤ 9223372036854775807) : (decT n).size ≤ 20 := by
  rw [decT, son_size, decL]
  split
  · simp
  · exact dgs_len 20 n (by omega)
theorem dec_digits (n : Nat) : nums ⟨(Lib.decDigits n).toArray⟩ = decL n := by
  have hm : ∀ l : List UInt8, nums ⟨l.toArray⟩ = l.map fun b => ((b.toNat : Nat) : Int) := fun l => by simp [nums]
  rw [hm]
  induction n using Nat.strongRecOn with
  | _ n ih =>
    have hb : ∀ d, d < 10 → (((UInt8.ofNat (48 + d)).toNat : Nat) : Int) = ((48 + d : Nat) : Int) := fun d hd => by
      rw [UInt8.toNat_ofNat_of_lt' (by show 48 + d < 256; omega)]
    rw [Lib.decDigits]
    split
    · rename_i h
      by_cases h0 : n = 0
      · subst h0; rfl
      · rw [decL, if_neg h0, dgs_s (by omega), show n / 10 = 0 by omega, dgs_0, show n % 10 = n by omega]
        simp [hb n h]
        try omega
    · rename_i h
      rw [List.map_append, ih (n / 10) (by omega), decL, if_neg (by omega), decL, if_neg (by omega), dgs_s (n := n) (by omega)]
      simp [hb (n % 10) (by omega)]
      try omega
theorem rel_moreI {M N base : Nat} {ρ : Ren} {h : Nat → Option Reg} {w w' : World} (hR : Rel M ρ base h w) (hos : w'.os = w.os) (ht : w'.tape = w.tape) (ho : w'.output = w.output) (hs : w.heap.size ≤ w'.heap.size) (hf : ∀ b, b < w.heap.size → w'.heap[b]? = w.heap[b]?) : Rel M ρ base h w' ∧ Grow M N ρ h w ρ h w' :=
  ⟨⟨⟨Nat.le_trans hR.bs.1 hs, hR.bs.2.keep fun b hb => hf b (Nat.lt_of_lt_of_le hb hR.bs.1)⟩, fun r l h => Nat.lt_of_lt_of_le (hR.lt r l h) hs, hR.dom, hR.top, fun r g l h1 h2 h3 => (hR.reg r g l h1 h2 h3).mono (fun _ _ h => h) (hf _ (hR.lt r l h3)), hR.inj⟩, ⟨hos, ht, ho, hs, fun b hb _ => hf b hb, fun _ _ h => h, fun _ _ _ _ k => ⟨k, rfl⟩, fun _ _ a b => (by rw [a] at b; cases b), fun _ _ _ a b c => (by rw [a] at b; injection b with b; subst b; exact ⟨c, rfl⟩), fun _ g k => ⟨g, k⟩, fun _ _ => rfl⟩⟩
theorem tab_is {base : Nat} {w : World} (h : Gl base w) : Lib.TabIs Tryd.prog w "internal/strconv.uint64pow10" .u64 Lib.pow10Tab := by
  obtain ⟨_, e, fz, h2⟩ := h _ (List.mem_cons_self ..)
  have hg : Tryd.prog.globalNamed "internal/strconv.uint64pow10" = some 0 := by kernel_rfl
  unfold Lib.TabIs World.var?
  rw [hg]
  simp only [Option.bind_some, h2]
  rfl
theorem itoaC (n : Nat) (hn : n ≤ 9223372036854775807) : Fn Tryd.prog 86 [.sc (.int .i64 n)] (.sc (.string (decT n))) := by
  intro H
  refine ⟨⟨_, _, Tryd.func86, rfl, rfl⟩, Nat.le_refl _, ?_⟩
  intro M ρ base w cargs hM hR hA
  have he : cargs = #[.int .i64 n] := by
    have : cargs.toList = [.int .i64 n] := LR.scs_eq (vs := [.int .i64 n]) hA
    rw [← this]
  subst he
  refine (Tryd.strconv_Itoa n (by omega) (by omega) w (tab_is hR.bs.2)).mono ?_
  rintro e w' ⟨rfl, k, os, rfl⟩
  obtain ⟨R2, G2⟩ := rel_moreI (N := H.length) (w' := Sort.grow (w.drewN k) os) hR rfl rfl rfl (by simp [Sort.grow, World.drewN]) (fun b hb => by simp [Sort.grow, World.drewN, Array.getElem?_append, hb])
  refine ⟨_, ρ, rfl, ?_, R2, G2⟩
  have : (⟨(Lib.itoa n).toArray⟩ : ByteArray) = decT n := by
    rw [Lib.itoa, if_neg (by omega), Int.toNat_natCast]
    rw [decT, ← dec_digits, son_nums]
  rw [this]
  exact .sc _
theorem figS (d : Nat) (h : d < 10) : Fn Tryd.prog 72 [.sc (.int .i64 d)] (.sc (.int .u8 ((48 + d : Nat) : Int))) := by
  refine Fn.run 12 [.tmp 2] Tryd.func72 rfl rfl rfl rfl (by simp) (flats_cons (.sc _) flats_nil) (.sc _) ?_
  have k1 : (d : Int) < 10 := by omega
  have e1 : IntKind.i64.wrap (48 + (d : Int)) = ((48 + d : Nat) : Int) := by rw [w64 (by omega) (by omega)]; omega
  have e2 : IntKind.u8.wrap ((48 + d : Nat) : Int) = ((48 + d : Nat) : Int) := by
    rw [IntKind.wrap_u8]; omega
  simp -implicitDefEqProofs only [↓w_seq, ↓w_region, ↓ops_cons, ↓g_assign, ↓ops_nil, ev_const, of_int, ↓g_move, ↓g_binOp, Nat.reduceLT, ev_tab, ne_eq, reduceCtorEq, not_false_eq_true, upd_ne, par0, upd_eq, b_lss, k1, decide_true, ↓w_cond, b_add, e1, ↓g_convert, Tryd.underlying3, Tryd.underlying5, ↓w_ret, ret_one, onS_some, c_int, e2, ↓w_skip, b_sub, onB_true]
theorem decS (n : Nat) (hn : n ≤ 9223372036854775807) : Fn Tryd.prog 41 [.sc (.int .i64 n)] (.sc (.string (decT n))) := by
  refine Fn.run 30 [.tmp 2] Tryd.func41 rfl rfl rfl rfl (by simp) (flats_cons (.sc _) flats_nil) (.sc _) ?_
  by_cases h0 : n = 0
  · subst h0
    have hz : decT 0 = (⟨#[48]⟩ : ByteArray) := by decide +kernel
    rw [hz]
    simp -implicitDefEqProofs only [↓w_seq, ↓w_region, Int.cast_ofNat_Int, ↓ops_cons, ↓g_assign, ↓ops_nil, ev_const, of_str, ↓g_move, ↓g_binOp, Nat.reduceLT, ev_tab, ne_eq, reduceCtorEq, not_false_eq_true, upd_ne, par0, upd_eq, of_int, b_eql, decide_true, ↓w_cond, ↓w_ret, ret_one, ↓w_skip, b_lss, Int.reduceLT, decide_false, ↓w_block, onS_some, onB_true]
    try rfl
  · have k0 : ¬ (n : Int) = 0 := by omega
    have k1 : ¬ (n : Int) < 0 := by omega
    have hd : decT n = strOfNums (dgs n) := by rw [decT, decL, if_neg h0]
    rw [hd]
    simp -implicitDefEqProofs only [↓w_seq, ↓w_region, ↓ops_cons, ↓g_assign, ↓ops_nil, ev_const, of_str, ↓g_move, ↓g_binOp, Nat.reduceLT, ev_tab, ne_eq, reduceCtorEq, not_false_eq_true, upd_ne, par0, upd_eq, of_int, b_eql, k0, decide_false, ↓w_cond, ↓w_ret, ret_one, ↓w_skip, b_lss, k1, ↓w_block, onS_some, onB_false]
    refine w_loop (ι := Nat) (fun m s => ∃ (T : Nat → AV) (Z : AHeap) (l : List Int), s = ⟨tab 30 T, Z⟩ ∧ m ≤ n ∧ dgs m ++ l = dgs n ∧ l.length ≤ 20 ∧ T 0 = .sc (.int .i64 m) ∧ T 3 = .sc (.bool false) ∧ T 4 = .sc (.string (strOfNums l))) (fun m => m) ?_ (i := n) ?_
    · rintro m s ⟨T, Z, l, rfl, a1, a2, a3, t0, t3, t4⟩
      have hl := dgs_len 20 n (by omega)
      by_cases h : m = 0
      · subst h
        have e : l = dgs n := by rw [← a2, dgs_0]; rfl
        simp -implicitDefEqProofs only [↓w_seq, ↓w_region, ↓ops_cons, ↓g_move, ↓g_binOp, Nat.reduceLT, ev_tab, t0, Int.cast_ofNat_Int, upd_eq, ev_const, of_int, b_neq, decide_true, Bool.not_true, ↓ops_nil, ↓w_cond, ↓w_skip, ↓w_block, ne_eq, reduceCtorEq, not_false_eq_true, upd_ne, b_rem, Int.reduceEq, if_false, ↓g_assign, ↓g_unOp, Nat.reduceEqDiff, onS_some, b_lss, onB_dec, ↓w_exit, t3, t4, e, of_str, t_add, ↓w_ret, ret_one, onS_ite, onB_false, if_true]
      · have j0 : ¬ (m : Int) = 0 := by omega
        have j1 : ((m : Int)).tmod 10 = ((m % 10 : Nat) : Int) := by rw [Int.tmod_eq_emod_of_nonneg (by omega)]; omega
        have j2 : ((m : Int)).tdiv 10 = ((m / 10 : Nat) : Int) := by rw [Int.tdiv_eq_ediv_of_nonneg (by omega)]; omega
        have j3 : ¬ ((m % 10 : Nat) : Int) < 0 := by omega
        have j4 : IntKind.i64.wrap ((m / 10 : Nat) : Int) = ((m / 10 : Nat) : Int) := w64 (by omega) (by omega)
        have ten : ¬ (10 : Int) = 0 := by decide
        have hle : l.length + 1 ≤ 20 := by
          have := congrArg List.length a2
          rw [dgs_s (by omega)] at this
          simp at this
          omega
        simp -implicitDefEqProofs only [↓w_seq, ↓w_region, ↓ops_cons, ↓g_move, ↓g_binOp, Nat.reduceLT, ev_tab, t0, upd_eq, ev_const, of_int, b_neq, j0, decide_false, Bool.not_false, ↓ops_nil, ↓w_cond, ↓w_skip, ↓w_block, ne_eq, reduceCtorEq, not_false_eq_true, upd_ne, b_rem, ten, j1, if_false, ↓g_assign, ↓g_unOp, Nat.reduceEqDiff, onS_some, b_lss, j3, onB_false, ↓w_exit, t3, t4, of_str, t_add, ↓w_ret, ret_one, onS_ite, if_true, onB_true]
        refine call1 (by simp -implicitDefEqProofs only [List.map_cons, Nat.reduceLT, ev_tab, upd_eq, List.map_nil] <;> rfl) (figS (m % 10) (by omega)) ?_
        have hs2 : (strOfNums [((48 + m % 10 : Nat) : Int)]).size + (strOfNums l).size ≤ 9223372036854775807 := by rw [son_size, son_size]; simp; omega
        simp -implicitDefEqProofs only [↓ops_cons, ↓g_buildSlice, Tryd.underlying87, List.map_cons, Nat.reduceLT, ev_tab, upd_eq, List.map_nil, bs5_1, ↓g_convert, Tryd.underlying9, ↓g_move, ↓g_binOp, ne_eq, Nat.reduceEqDiff, not_false_eq_true, upd_ne, t4, ↓g_assign, ↓ops_nil, ↓w_region, reduceCtorEq, t0, ev_const, of_int, b_quo, ten, j2, j4, if_false, onS_some, alK_some, ints_one, c_text, isU5, and_self, at_def, at_end, at_ints, Nat.zero_add, List.length_cons, List.length_nil, Nat.le_refl, List.drop_zero, List.take_succ_cons, List.take_zero, if_true, Option.bind_some, bytesA_ints, Option.map_some, t_add, hs2, son_append, List.cons_append, List.nil_append, true_and]
        refine ⟨m / 10, by omega, _, _, ((48 + m % 10 : Nat) : Int) :: l, rfl, by omega, ?_, by simp; omega, ?_, ?_, ?_⟩
        · rw [← a2, dgs_s (n := m) (by omega), List.append_assoc]; rfl
        all_goals (simp -implicitDefEqProofs only [upd_eq, ne_eq, reduceCtorEq, not_false_eq_true, upd_ne, Nat.reduceEqDiff, t3] <;> rfl)
    · refine ⟨_, _, [], rfl, Nat.le_refl _, by simp, by simp, ?_, ?_, ?_⟩ <;> simp -implicitDefEqProofs only [ne_eq, reduceCtorEq, not_false_eq_true, upd_ne, par0, Nat.reduceEqDiff, upd_eq] <;> rfl
theorem max_i (k q : IntKind) (x y : Int) : maxI [.sc (.int k x), .sc (.int q y)] = some (.int k (if x < y then y else x)) := rfl
theorem toldI (n : Int) (hn : n ≤ 9223372036854775807) : Fn Tryd.prog 29 [.sc (.int .i64 n)] (.sc (.string (decT n.toNat))) := by
  have hD : Fn Tryd.prog 63 [.sc (.int .i64 (n.toNat : Nat))] (.sc (.string (decT n.toNat))) := by
    refine Fn.run 5 [.tmp 2] Tryd.func63 rfl rfl rfl rfl (by simp) (flats_cons (.sc _) flats_nil) (.sc _) ?_
    simp -implicitDefEqProofs only [↓w_seq, ↓w_region, ↓ops_cons, ↓g_assign, ↓ops_nil, ev_const, of_str, ↓g_move, Nat.reduceLT, ev_tab, ne_eq, reduceCtorEq, not_false_eq_true, upd_ne, par0]
    refine call1 (by simp -implicitDefEqProofs only [List.map_cons, Nat.reduceLT, ev_tab, upd_eq, List.map_nil] <;> rfl) (itoaC n.toNat (by omega)) ?_
    simp -implicitDefEqProofs only [↓ops_cons, ↓g_assign, ↓ops_nil, ↓w_ret, Nat.reduceLT, ev_tab, upd_eq, ret_one]
  refine Fn.run 6 [.tmp 2] Tryd.func29 rfl rfl rfl rfl (by simp) (flats_cons (.sc _) flats_nil) (.sc _) ?_
  have hm : (if n < 0 then (0 : Int) else n) = ((n.toNat : Nat) : Int) := by
    split <;> omega
  simp -implicitDefEqProofs only [↓w_seq, ↓w_region, ↓ops_cons, ↓g_assign, ↓ops_nil, ev_const, of_str, ↓g_move, ↓g_max, Nat.reduceLT, ev_tab, ne_eq, reduceCtorEq, not_false_eq_true, upd_ne, par0, List.map_cons, upd_eq, of_int, List.map_nil, max_i, hm, Option.map_some, onS_some]
  refine call1 (by simp -implicitDefEqProofs only [List.map_cons, Nat.reduceLT, ev_tab, upd_eq, List.map_nil] <;> rfl) hD ?_
  simp -implicitDefEqProofs only [↓ops_cons, ↓g_assign, ↓ops_nil, ↓w_ret, Nat.reduceLT, ev_tab, upd_eq, ret_one]
theorem numS (n : Int) (hn : n ≤ 9223372036854775807) : Fn Tryd.prog 26 [.sc (.int .i64 n)] (.sc (.string (decT n.toNat))) := by
  refine Fn.run 7 [.tmp 2] Tryd.func26 rfl rfl rfl rfl (by simp) (flats_cons (.sc _) flats_nil) (.sc _) ?_
  by_cases h : n < 0
  · have e : n.toNat = 0 := by omega
    have hz : decT 0 = (⟨#[48]⟩ : ByteArray) := by decide +kernel
    rw [e, hz]
    simp -implicitDefEqProofs only [↓w_seq, ↓w_region, ↓ops_cons, ↓g_assign, ↓ops_nil, ev_const, of_str, ↓g_move, ↓g_binOp, Nat.reduceLT, ev_tab, ne_eq, reduceCtorEq, not_false_eq_true, upd_ne, par0, upd_eq, of_int, b_lss, h, decide_true, ↓w_cond, ↓w_ret, ret_one, ↓w_skip, onS_some, onB_true]
    try rfl
  · obtain ⟨m, rfl⟩ : ∃ m : Nat, n = m := ⟨n.toNat, by omega⟩
    simp -implicitDefEqProofs only [↓w_seq, ↓w_region, ↓ops_cons, ↓g_assign, ↓ops_nil, ev_const, of_str, ↓g_move, ↓g_binOp, Nat.reduceLT, ev_tab, ne_eq, reduceCtorEq, not_false_eq_true, upd_ne, par0, upd_eq, of_int, b_lss, h, decide_false, ↓w_cond, ↓w_ret, ret_one, ↓w_skip, onS_some, onB_false]
    refine call1 (by simp -implicitDefEqProofs only [List.map_cons, Nat.reduceLT, ev_tab, upd_eq, List.map_nil] <;> rfl) (decS m (by omega)) ?_
    simp -implicitDefEqProofs only [↓ops_cons, ↓g_assign, ↓ops_nil, ↓w_ret, Int.toNat_natCast, Nat.reduceLT, ev_tab, upd_eq, ret_one]
end Go.Proofs.YtfgmmklljibbiaaDoor.Sim

