/- The law FnExactAckList holds: whatever the arguments, it returns true and leaves what it was given as it was. Condition: none beyond the row's own. -/
import Derived.Test.YtcjjcpdfnndenaaRows
import Derived.Test.YtcjjcpdfnndenaaFFnExactAckList
import Derived.WalkKit
import Derived.ProofKit
import Derived.OpenShut
import Derived.ShutString
import Derived.ChangeOld
import Derived.Below
import Derived.SizedLaws
namespace Go.Proofs.Ytcjjcpdfnndenaa.fnExactAckList
open Go.ChangeShapes Go.WideShapes Go.ChangeAt Go.RowKit
open Go.ChangeMaps (open_string shut_string)
set_option linter.unusedVariables false
theorem own : ownKnob Try.prog.godebug = none := by kernel_rfl
set_option maxRecDepth 100000 in
theorem lifted (os : Os) (started : os.Started) (H : Type) (enc : TypeId × Value → H) :
    ReturnsInHanded {} Try.checked os 3 .any (Rows.fnExactAckListSpec.pre6 enc Try.prog Try.f3 Rows.fnExactAckListRow.domain false) (Rows.fnExactAckListSpec.post enc Try.prog Try.f3 false true false false) := by
  refine returnsInHanded_of_change_sized (C := Try.checked) own started (by kernel_rfl) Try.func3
    (ChangeSpec.witness6 (enc := enc) (C := Try.checked) false ⟨#[], #[.slice none 0 0], []⟩ 8 (by kernel_rfl) (by kernel_rfl) (by kernel_rfl) (by kernel_rfl)) ?_
  intro W base args ds gs before hval0 hW hcnd hsz0 _
  have hsz : (DataW.weightsEach Try.prog (Try.f3.params.toList ++ Rows.fnExactAckListSpec.plain.varTypes Try.prog) (ds ++ gs)).all (· ≤ reachBytes) = true := hsz0
  have hval : ∀ (j : Nat) t v, Try.f3.params[j]? = some t → args[j]? = some v → Value.okWide Try.prog W .any base t v := hval0
  have hW' := hW
  obtain ⟨p, q, hA0, hV, rfl, hfz, hnd⟩ := hW
  have hA : DataW.TrodAll enc Try.prog W 0 (fun _ => true) true Try.f3.params.toList args.toList ds p := hA0
  rw [Try.params3] at hA hval hsz
  obtain ⟨v0, vs0, d0, ds0, p0, q0, hargs, rfl, rfl, h0, r0⟩ := trodAll_cons hA
  obtain ⟨rfl, rfl, rfl⟩ := trodAll_nil r0
  obtain rfl : args = #[v0] := by cases args; simp_all
  obtain ⟨rfl, rfl⟩ := trodVars_none hV
  obtain ⟨ad, len, cap, rfl⟩ := okWide_slice Try.underlying22 (hval 0 22 v0 rfl rfl)
  have hok := hval 0 22 _ rfl rfl
  obtain ⟨fuel, hf⟩ := h0
  clear hA0 hval0 hsz0 hsz
  rcases open_ints Try.underlying22 Try.underlying3 (by kernel_rfl) hf with ⟨hc, hx⟩ | ⟨a, len', cap', zs, hc, hb, hl, hm, hz, hx, hcell, hwf⟩
  · obtain ⟨rfl, rfl, rfl⟩ : ad = none ∧ len = 0 ∧ cap = 0 := by simpa [Value.cells] using hc
    simp only [Prod.mk.injEq] at hx
    obtain ⟨rfl, rfl⟩ := hx
    obtain ⟨H', hs⟩ := Sim.lawFnExactAckList [] _ [] (.nil _ _)
    refine (Sim.entry hs W #[.slice none 0 0] (fun _ => none) (fun _ _ _ h => by simp at h) (fun _ _ h => by cases h) (Sim.LR.cons (.sc _) Sim.LR.nil)).mono fun e W' ⟨he, bel⟩ => ?_
    subst he
    exact ⟨_, rfl, _, _, _, [], _, [], hW', trodAll_mk1 (shut_bool Try.underlying4 _), trodAll_cons_mk (Sim.shut_nil Try.underlying22) trodAll_mk0, rfl, bel.frame _, fun h => by cases h⟩
  · obtain ⟨rfl, rfl, rfl⟩ : ad = some a ∧ len = len' ∧ cap = cap' := by simpa [Value.cells] using hc
    simp only [Prod.mk.injEq] at hx
    obtain ⟨rfl, rfl⟩ := hx
    simp only [if_true] at hz
    obtain ⟨hsp, hsh⟩ := Sim.okWide_shape Try.underlying22 hok
    obtain ⟨l, off, hreg, hvr⟩ := Sim.param_ints hsp hsh hl hz hcell
    obtain ⟨H', hs⟩ := Sim.lawFnExactAckList [⟨Sim.ints .i64 (zs.take len), false, true⟩] _ (zs.take len) (.mk (r := 0) rfl)
    have hblk : a.block < W.heap.size := by
      obtain ⟨row, cells, h1⟩ := hsh
      unfold World.shape? at h1
      split at h1
      · rename_i hh
        exact (Array.getElem?_eq_some_iff.1 hh).1
      · cases h1
    refine (Sim.entry hs W #[.slice (some a) len cap] (fun r => if r = 0 then some l else none) ?_ ?_ (Sim.LR.cons (hvr _ 0 (if_pos rfl)) Sim.LR.nil)).mono fun e W' ⟨he, bel⟩ => ?_
    · intro r g lc hg hr
      by_cases h0 : r = 0
      · subst h0
        simp only [if_true, Option.some.injEq] at hr
        subst hr
        simp at hg
        subst hg
        exact ⟨hreg _, rfl⟩
      · simp [h0] at hr
    · intro r lc hr
      by_cases h0 : r = 0
      · subst h0
        exact ⟨_, rfl⟩
      · simp [h0] at hr
    subst he
    have hcell' : ∀ i, i < zs.length → W'.cell? (a.add i) = some (.int .i64 (zs.getD i 0)) := by
      intro i hi
      rw [← hcell i hi]
      rw [Sim.add_spot hsp]
      simp only [World.cell?, bel.block _ hblk]
    exact ⟨_, rfl, _, _, _, [], _, [], hW', trodAll_mk1 (shut_bool Try.underlying4 _), trodAll_cons_mk ⟨_, shut_ints 0 Try.underlying22 Try.underlying3 (by kernel_rfl) hb hl hm (by simp [hblk, hz]) hcell' hwf⟩ trodAll_mk0, rfl, bel.frame _, fun h => by cases h⟩
theorem over : Rows.fnExactAckListRow.holds Try.pinned (OpenSpec.ofChange Rows.fnExactAckListSpec) :=
  OpenClaim.holds_of_wide 3 Try.f3 rfl rfl rfl rfl rfl rfl rfl ⟨rfl, rfl, rfl, rfl, rfl⟩ rfl rfl rfl rfl rfl (by kernel_rfl) Try.func3 (by kernel_rfl)
    (of_decide_eq_true (by kernel_rfl)) (by unfold Func.isWrapper; first | (rw [if_pos (by decide +kernel)]; kernel_rfl) | (rw [if_neg (by decide +kernel)]; exact ⟨rfl, rfl⟩))
    (fun os started H enc _ => lifted os started H enc)
theorem proved : Rows.FnExactAckListSaid := over
#print axioms proved
end Go.Proofs.Ytcjjcpdfnndenaa.fnExactAckList
namespace Go.Proofs.Ytcjjcpdfnndenaa
/-- The row, under a short name, for the claim. -/
theorem fnExactAckList_holds : Rows.FnExactAckListSaid := fnExactAckList.proved
end Go.Proofs.Ytcjjcpdfnndenaa
