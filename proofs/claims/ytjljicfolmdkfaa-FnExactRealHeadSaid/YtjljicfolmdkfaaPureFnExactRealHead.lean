/- RealHead of the program and of the reference are the same for all arguments; no condition. -/
import Derived.Test.YtjljicfolmdkfaaPFnExactRealHeadx1
namespace Go.Proofs.Ytjljicfolmdkfaa.Pure
open Go.RowKit Go.Proofs.Ytjljicfolmdkfaa.PFnExactRealHead Go.Proofs.YtjljicfolmdkfaaW.PrintWords Go.Proofs.YtjljicfolmdkfaaW.PrintLast Go.Proofs.YtjljicfolmdkfaaW.PrintMore
set_option linter.unusedVariables false
set_option linter.unusedSimpArgs false

theorem w64 {x : Int} (h0 : -9223372036854775808 ≤ x) (h1 : x < 9223372036854775808) : wrap64 x = x := by unfold wrap64; omega
theorem wf64 {n : Int} (h : (Lit.int .i64 n).wf = true) : -9223372036854775808 ≤ n ∧ n ≤ 9223372036854775807 := by
  simp only [Lit.wf, IntKind.min, IntKind.max, IntKind.signed, IntKind.bits, Bool.and_eq_true, decide_eq_true_eq, if_true] at h
  omega

theorem realHead_total (a : ByteArray) : ∃ r, impl_RealHead.f a = some r := by
  unfold impl_RealHead.f
  by_cases h : (a.size : Int) < 20
  · rw [if_pos h]; exact ⟨_, rfl⟩
  · rw [if_neg h, if_pos (by omega)]
    unfold impl_within.f
    by_cases h2 : wrap64 (bt a 0) ≥ 32
    · rw [if_pos h2]
      simp only [Option.bind_some]
      by_cases h3 : wrap64 (bt a 0) ≤ 35
      · rw [if_pos (by simp [h3]), if_pos (by omega)]; exact ⟨_, rfl⟩
      · rw [if_neg (by simp [h3])]; exact ⟨_, rfl⟩
    · rw [if_neg h2]
      simp

theorem FnExactRealHead : laws_FnExactRealHead.Pure := by
  intro a ha
  have e : spec_RealHead.f a = impl_RealHead.f a := rfl
  obtain ⟨r, hr⟩ := realHead_total a
  unfold laws_FnExactRealHead.f
  rw [e, hr]
  simp

end Go.Proofs.Ytjljicfolmdkfaa.Pure
