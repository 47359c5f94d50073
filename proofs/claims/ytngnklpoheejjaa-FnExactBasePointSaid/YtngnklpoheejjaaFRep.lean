/- A byte repeated. -/
import Derived.Test.YtngnklpoheejjaaTy
import Derived.Test.YtngnklpoheejjaaChecked
import Derived.Test.YtngnklpoheejjaaShelf
namespace Go.Proofs.Ytngnklpoheejjaa.Sim
open Go
set_option maxRecDepth 100000
set_option maxHeartbeats 4000000
set_option linter.unusedSimpArgs false
set_option linter.unusedVariables false
theorem repL (b : UInt8) (c : Nat) : (⟨(Lib.repeatL [b] c).toArray⟩ : ByteArray) = strOfNums (List.replicate c (b.toNat : Int)) := by
  have h : Lib.repeatL [b] c = List.replicate c b := by
    have := Lib.repeatL_replicate b 1 c
    simpa using this
  rw [h]
  apply nums_inj
  rw [nums_son (by
    intro x hx
    have := List.eq_of_mem_replicate hx
    have hb := b.toNat_lt
    omega)]
  simp [nums]
theorem repeatC (z : ByteArray) (b : UInt8) (hz : z.data.toList = [b]) (c : Nat) (hc : c ≤ 1000000000) : Fn Try.prog 10 [.sc (.string z), .sc (.int .i64 c)] (.sc (.string (strOfNums (List.replicate c (b.toNat : Int))))) := by
  have hs : z.size = 1 := by
    have : z.data.size = 1 := by rw [← Array.length_toList, hz]; rfl
    exact this
  refine Fn.ofCalls [.string z, .int .i64 c] ⟨_, _, Try.func10, rfl, rfl⟩ fun w => ?_
  have h := Try.strings_Repeat z c w (by omega) (by rw [hs]; omega)
  rw [hz, repL] at h
  exact h
end Go.Proofs.Ytngnklpoheejjaa.Sim

