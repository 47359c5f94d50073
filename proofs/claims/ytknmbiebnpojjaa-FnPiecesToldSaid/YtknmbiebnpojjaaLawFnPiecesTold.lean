/- The law FnPiecesTold holds: whatever the arguments, it returns true and leaves what it was given as it was. Condition: none beyond the row's own. -/
import Derived.Test.YtknmbiebnpojjaaRows
import Derived.Test.YtknmbiebnpojjaaMFnPiecesTold5
import Derived.WalkKit
import Derived.ProofKit
import Derived.OpenShut
import Derived.ShutString
import Derived.ChangeOld
import Derived.Below
import Derived.SizedLaws
namespace Go.Proofs.Ytknmbiebnpojjaa.fnPiecesTold
open Go.ChangeShapes Go.WideShapes Go.ChangeAt Go.RowKit
open Go.ChangeMaps (open_string shut_string)
set_option linter.unusedVariables false
theorem own : ownKnob Try.prog.godebug = none := by kernel_rfl
theorem laid : laidOutB Try.prog = true := by kernel_rfl
theorem rowed : mapsRowed Try.prog = true := by kernel_rfl
theorem spos : Sim.slicesPos Try.prog = true := by kernel_rfl
theorem types : (Try.f7.params.toList.all fun t => decide (t < Try.prog.types.size)) = true := by kernel_rfl
set_option maxRecDepth 100000 in
theorem lifted (os : Os) (started : os.Started) (H : Type) (enc : TypeId × Value → H) :
    ReturnsInHanded {} Try.checked os 7 .any (Rows.fnPiecesToldSpec.pre6 enc Try.prog Try.f7 Rows.fnPiecesToldRow.domain false) (Rows.fnPiecesToldSpec.post enc Try.prog Try.f7 false true false false) := by
  refine returnsInHanded_of_change_sized (C := Try.checked) own started (by kernel_rfl) Try.func7
    (ChangeSpec.witness6 (enc := enc) (C := Try.checked) false ⟨#[], #[.slice none 0 0], []⟩ 8 (by kernel_rfl) (by kernel_rfl) (by kernel_rfl) (by kernel_rfl)) ?_
  intro W base args ds gs before hval0 hW hcnd hsz0 _
  have hval : ∀ (j : Nat) t v, Try.f7.params[j]? = some t → args[j]? = some v → Value.okWide Try.prog W .any base t v := hval0
  have hW' := hW
  obtain ⟨p, q, hA0, hV, rfl, hfz, hnd⟩ := hW
  have hA : DataW.TrodAll enc Try.prog W 0 (fun _ => true) true Try.f7.params.toList args.toList ds p := hA0
  have htys : ∀ t ∈ Try.f7.params.toList, t < Try.prog.types.size := fun t ht => of_decide_eq_true (List.all_eq_true.1 types t ht)
  have hB := hA
  rw [Try.params7] at hB hval
  obtain ⟨v0, vs0, d0, ds0, p0, q0, hargs, rfl, rfl, h0, r0⟩ := trodAll_cons hB
  obtain ⟨rfl, rfl, rfl⟩ := trodAll_nil r0
  obtain rfl : args = #[v0] := by cases args; simp_all
  obtain ⟨rfl, rfl⟩ := trodVars_none hV
  have vc0 : v0.cells.toList = [v0] := by
    obtain ⟨_, _, _, rfl⟩ := okWide_slice Try.underlying22 (hval 0 22 v0 rfl rfl)
    rfl
  obtain ⟨Y0, G0, ok0, vr0, sp0⟩ := Sim.open_one (.l 5 [.i .u8]) 8 (by kernel_rfl) (hval 0 22 v0 rfl rfl) (fun _ _ _ => ⟨_, Try.underlying22⟩) vc0 h0 0
  obtain ⟨q0_0, w0_0, i0_0⟩ := sp0
  clear hA0 hval0 hsz0
  have hs : ∃ H', Sim.Sound Try.prog 7 [Y0] ((((List.range 1).map (fun _ => G0) ++ []) : List (Sim.Reg × Option Sim.Loc)).map (·.1)) (.sc (.bool true)) H' := by
    exact Sim.lawFnPiecesTold _ Y0 _ (by simpa using w0_0) (i0_0 _ rfl).ints
  obtain ⟨H', hs⟩ := hs
  refine (Sim.entryS ((List.range 1).map (fun _ => G0) ++ []) hs #[v0] (Sim.slots_ok (fun _ => ok0) Sim.slots_nil) (Sim.LR.cons (vr0 _ (Sim.slot_at [] [] 1 (fun _ => G0) 0 0 rfl (by decide))) Sim.LR.nil)).mono fun e W' ⟨he, bel⟩ => ?_
  subst he
  exact ⟨_, rfl, _, _, _, [], _, [], hW', trodAll_mk1 (shut_bool Try.underlying4 _), Sim.trodAll_stays laid rowed spos bel (fun b hb => by simp [hb]) htys hA, rfl, bel.frame _, fun h => by cases h⟩
theorem over : Rows.fnPiecesToldRow.holds Try.pinned (OpenSpec.ofChange Rows.fnPiecesToldSpec) :=
  OpenClaim.holds_of_wide 7 Try.f7 rfl rfl rfl rfl rfl rfl rfl ⟨rfl, rfl, rfl, rfl, rfl⟩ rfl rfl rfl rfl rfl (by kernel_rfl) Try.func7 (by kernel_rfl)
    (of_decide_eq_true (by kernel_rfl)) (by unfold Func.isWrapper; first | (rw [if_pos (by decide +kernel)]; kernel_rfl) | (rw [if_neg (by decide +kernel)]; exact ⟨rfl, rfl⟩))
    (fun os started H enc _ => lifted os started H enc)
theorem proved : Rows.FnPiecesToldSaid := over
#print axioms proved
end Go.Proofs.Ytknmbiebnpojjaa.fnPiecesTold
namespace Go.Proofs.Ytknmbiebnpojjaa
/-- The row, under a short name, for the claim. -/
theorem fnPiecesTold_holds : Rows.FnPiecesToldSaid := fnPiecesTold.proved
end Go.Proofs.Ytknmbiebnpojjaa
