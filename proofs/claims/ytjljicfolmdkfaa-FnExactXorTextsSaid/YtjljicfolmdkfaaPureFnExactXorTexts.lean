/- XorTexts of the program and of the reference are the same for all arguments; no condition. -/
import Derived.Test.YtjljicfolmdkfaaPFnExactXorTextsx1
namespace Go.Proofs.Ytjljicfolmdkfaa.Pure
open Go.RowKit Go.Proofs.Ytjljicfolmdkfaa.PFnExactXorTexts Go.Proofs.YtjljicfolmdkfaaW.PrintWords Go.Proofs.YtjljicfolmdkfaaW.PrintLast Go.Proofs.YtjljicfolmdkfaaW.PrintMore
set_option linter.unusedVariables false
set_option linter.unusedSimpArgs false

theorem w64 {x : Int} (h0 : -9223372036854775808 ≤ x) (h1 : x < 9223372036854775808) : wrap64 x = x := by unfold wrap64; omega
theorem wf64 {n : Int} (h : (Lit.int .i64 n).wf = true) : -9223372036854775808 ≤ n ∧ n ≤ 9223372036854775807 := by
  simp only [Lit.wf, IntKind.min, IntKind.max, IntKind.signed, IntKind.bits, Bool.and_eq_true, decide_eq_true_eq, if_true] at h
  omega

theorem xor_eq (k : Nat) : ∀ (x0 x1 : ByteArray) (acc : List Int) (i : Int), spec_XorTexts.l0 k x0 x1 acc i = impl_XorTexts.l0 k x0 x1 acc i := by
  induction k with
  | zero => intros; rfl
  | succ k ih => intros; simp only [spec_XorTexts.l0, impl_XorTexts.l0, ih]
theorem xor_total (a b : ByteArray) (ha : a.size ≤ 1048576) (d : Nat) : ∀ (k : Nat) (i : Int) (acc : List Int), 0 ≤ i → (acc.length : Int) = i → i ≤ a.size → (a.size : Int) - i = d → d < k → ∃ r, impl_XorTexts.l0 k a b acc i = some r := by
  induction d with
  | zero =>
    intro k i acc h0 h1 h2 hd hk
    obtain ⟨k, rfl⟩ : ∃ m, k = m + 1 := ⟨k - 1, by omega⟩
    exact ⟨strOfNums acc, by simp only [impl_XorTexts.l0]; rw [if_neg (by omega)]⟩
  | succ d ih =>
    intro k i acc h0 h1 h2 hd hk
    obtain ⟨k, rfl⟩ : ∃ m, k = m + 1 := ⟨k - 1, by omega⟩
    simp only [impl_XorTexts.l0]
    rw [if_pos (by omega)]
    by_cases hb : i < (b.size : Int)
    · rw [if_pos hb, if_pos h0, if_pos (by omega), w64 (by omega) (by omega)]
      exact ih k (i + 1) _ (by omega) (by simp; omega) (by omega) (by omega) (by omega)
    · rw [if_neg hb]; exact ⟨_, rfl⟩

theorem FnExactXorTexts : laws_FnExactXorTexts.Pure := by
  intro a b ha hb
  by_cases h1 : (a.size : Int) > 1048576
  · exact ⟨0, by unfold laws_FnExactXorTexts.f; rw [if_pos h1]⟩
  by_cases h2 : (b.size : Int) > 1048576
  · exact ⟨0, by unfold laws_FnExactXorTexts.f; rw [if_neg h1, if_pos h2]⟩
  obtain ⟨r, hr⟩ := xor_total a b (by omega) a.size (a.size + 1) 0 [] (by omega) (by simp) (by omega) (by omega) (by omega)
  refine ⟨a.size + 1, ?_⟩
  unfold laws_FnExactXorTexts.f spec_XorTexts.f impl_XorTexts.f
  rw [if_neg h1, if_neg h2, xor_eq, hr]
  simp

end Go.Proofs.Ytjljicfolmdkfaa.Pure
