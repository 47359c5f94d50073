/- What the row's tables give the walks. -/
import Derived.Test.YtfgmmklljibbiaaDoorRows
import Derived.Test.YtfgmmklljibbiaaDoorFEntryV
import Derived.Test.YtfgmmklljibbiaaDoorFItoaC
import Derived.Lib.LaidTab
import Derived.MakeChecks
import Derived.Stop.LaidErr
namespace Go.Proofs.YtfgmmklljibbiaaDoor.Sim
open Go
theorem gl_of_laid {W : World} (h : laidMetH Tryd.prog [("math/bits.deBruijn32tab", Rows.laid_math_bits_deBruijn32tab), ("math/bits.deBruijn64tab", Rows.laid_math_bits_deBruijn64tab), ("internal/strconv.uint64pow10", Rows.laid_internal_strconv_uint64pow10)] W) : Gl W.heap.size W := by
  rw [MakeChecks.laidMetH_plain _ _ _ (by kernel_rfl)] at h
  have h3 := h.tail.tail
  have ht : ∃ t e n, (Tryd.prog.globals[0]?).map (·.type) = some t ∧ Tryd.prog.underlying t = some (.array n e) ∧ Tryd.prog.underlying e = some (.int .u64) ∧ Tryd.prog.cellsOf e = 1 ∧ Tryd.prog.cellsOf t = n := ⟨174, 167, 20, by kernel_rfl, by kernel_rfl, by kernel_rfl, by kernel_rfl, by kernel_rfl⟩
  obtain ⟨t, e, n, t1, t2, t3, t4, t5⟩ := ht
  have hp : Lib.TabIs Tryd.prog W "internal/strconv.uint64pow10" .u64 Lib.pow10Tab := Lib.tabIs_of_head (by kernel_rfl) t1 t2 t3 t4 t5 h3
  have hg : Tryd.prog.globalNamed "internal/strconv.uint64pow10" = some 0 := by kernel_rfl
  unfold Lib.TabIs World.var? at hp
  rw [hg] at hp
  simp only [Option.bind_some] at hp
  intro p hp'
  have : p = (0, (Lib.pow10Tab.map fun z => Value.int .u64 z).toArray) := by
    have := List.mem_singleton.1 hp'
    rw [this]
    rfl
  subst this
  cases hb : W.heap[0]? with
  | none => simp [hb] at hp
  | some b =>
    refine ⟨(Array.getElem?_eq_some_iff.1 hb).1, ?_⟩
    cases b with
    | cells cs e fz =>
      simp only [hb, Option.some.injEq] at hp
      subst hp
      exact ⟨e, fz, rfl⟩
    | _ => simp [hb] at hp
end Go.Proofs.YtfgmmklljibbiaaDoor.Sim

