/- The law FnExactAckedBy holds: whatever the arguments, it returns true and leaves what it was given as it was. Condition: none beyond the row's own. -/
import Derived.Test.YtcjjcpdfnndenaaRows
import Derived.Test.YtcjjcpdfnndenaaFFnExactAckedBy
import Derived.Test.YtcjjcpdfnndenaaFEntryG
import Derived.WalkKit
import Derived.ProofKit
import Derived.OpenShut
import Derived.ShutString
import Derived.ChangeOld
import Derived.Below
import Derived.SizedLaws
namespace Go.Proofs.Ytcjjcpdfnndenaa.fnExactAckedBy
open Go.ChangeShapes Go.WideShapes Go.ChangeAt Go.RowKit
open Go.ChangeMaps (open_string shut_string)
set_option linter.unusedVariables false
theorem own : ownKnob Try.prog.godebug = none := by kernel_rfl
theorem laid : laidOutB Try.prog = true := by kernel_rfl
theorem rowed : mapsRowed Try.prog = true := by kernel_rfl
theorem spos : Sim.slicesPos Try.prog = true := by kernel_rfl
theorem types : (Try.f7.params.toList.all fun t => decide (t < Try.prog.types.size)) = true := by kernel_rfl
set_option maxRecDepth 100000 in
theorem lifted (os : Os) (started : os.Started) (H : Type) (enc : TypeId × Value → H) :
    ReturnsInHanded {} Try.checked os 7 .any (Rows.fnExactAckedBySpec.pre6 enc Try.prog Try.f7 Rows.fnExactAckedByRow.domain false) (Rows.fnExactAckedBySpec.post enc Try.prog Try.f7 false true false false) := by
  refine returnsInHanded_of_change_sized (C := Try.checked) own started (by kernel_rfl) Try.func7
    (ChangeSpec.witness6 (enc := enc) (C := Try.checked) false ⟨#[], #[.agg #[.slice none 0 0, .slice none 0 0, .int .i64 0], .slice none 0 0], []⟩ 8 (by kernel_rfl) (by kernel_rfl) (by kernel_rfl) (by kernel_rfl)) ?_
  intro W base args ds gs before hval0 hW hcnd hsz0 _
  have hval : ∀ (j : Nat) t v, Try.f7.params[j]? = some t → args[j]? = some v → Value.okWide Try.prog W .any base t v := hval0
  have hW' := hW
  obtain ⟨p, q, hA0, hV, rfl, hfz, hnd⟩ := hW
  have hA : DataW.TrodAll enc Try.prog W 0 (fun _ => true) true Try.f7.params.toList args.toList ds p := hA0
  have htys : ∀ t ∈ Try.f7.params.toList, t < Try.prog.types.size := fun t ht => of_decide_eq_true (List.all_eq_true.1 types t ht)
  have hB := hA
  rw [Try.params7] at hB hval
  obtain ⟨v0, vs0, d0, ds0, p0, q0, hargs, rfl, rfl, h0, r0⟩ := trodAll_cons hB
  obtain ⟨v1, vs1, d1, ds1, p1, q1, rfl, rfl, rfl, h1, r1⟩ := trodAll_cons r0
  obtain ⟨rfl, rfl, rfl⟩ := trodAll_nil r1
  obtain rfl : args = #[v0, v1] := by cases args; simp_all
  obtain ⟨rfl, rfl⟩ := trodVars_none hV
  obtain ⟨X0, G0, ok0, vr0, sp0⟩ := Sim.open_struct [.l 3 [.i .i64], .l 3 [.i .i64], .f (.i .i64)] 8 Try.underlying29 (by kernel_rfl) (by kernel_rfl) (hval 0 29 v0 rfl rfl) h0 0
  obtain ⟨_, q0_0, w0_0, i0_0⟩ := sp0 0 _ rfl
  obtain ⟨_, q0_1, w0_1, i0_1⟩ := sp0 1 _ rfl
  obtain ⟨_, e0_2, a0_2, rfl⟩ := sp0 2 _ rfl
  have vc1 : v1.cells.toList = [v1] := by
    obtain ⟨_, _, _, rfl⟩ := okWide_slice Try.underlying22 (hval 1 22 v1 rfl rfl)
    rfl
  obtain ⟨Y1, G1, ok1, vr1, sp1⟩ := Sim.open_one (.l 3 [.i .i64]) 8 (by kernel_rfl) (hval 1 22 v1 rfl rfl) (fun _ _ _ => ⟨_, Try.underlying22⟩) vc1 h1 3
  obtain ⟨q1_0, w1_0, i1_0⟩ := sp1
  clear hA0 hval0 hsz0
  have hs : ∃ H', Sim.Sound Try.prog 7 [.agg [X0 0, X0 1, X0 2], Y1] ((((List.range 3).map G0 ++ ((List.range 1).map (fun _ => G1) ++ [])) : List (Sim.Reg × Option Sim.Loc)).map (·.1)) (.sc (.bool true)) H' := by
    rw [e0_2]
    exact Sim.lawFnExactAckedBy _ (X0 0) _ (by simpa using w0_0) (i0_0 _ rfl).ints (X0 1) _ (by simpa using w0_1) (i0_1 _ rfl).ints a0_2 Y1 _ (by simpa using w1_0) (i1_0 _ rfl).ints
  obtain ⟨H', hs⟩ := hs
  refine (Sim.entryS ((List.range 3).map G0 ++ ((List.range 1).map (fun _ => G1) ++ [])) hs #[v0, v1] (Sim.slots_ok ok0 (Sim.slots_ok (fun _ => ok1) Sim.slots_nil)) (Sim.LR.cons (vr0 _ (fun i hi => Sim.slot_at [] ((List.range 1).map (fun _ => G1) ++ []) 3 G0 0 i rfl hi)) (Sim.LR.cons (vr1 _ (Sim.slot_at ((List.range 3).map G0) [] 1 (fun _ => G1) 3 0 rfl (by decide))) Sim.LR.nil))).mono fun e W' ⟨he, bel⟩ => ?_
  subst he
  exact ⟨_, rfl, _, _, _, [], _, [], hW', trodAll_mk1 (shut_bool Try.underlying4 _), Sim.trodAll_stays laid rowed spos bel (fun b hb => by simp [hb]) htys hA, rfl, bel.frame _, fun h => by cases h⟩
theorem over : Rows.fnExactAckedByRow.holds Try.pinned (OpenSpec.ofChange Rows.fnExactAckedBySpec) :=
  OpenClaim.holds_of_wide 7 Try.f7 rfl rfl rfl rfl rfl rfl rfl ⟨rfl, rfl, rfl, rfl, rfl⟩ rfl rfl rfl rfl rfl (by kernel_rfl) Try.func7 (by kernel_rfl)
    (of_decide_eq_true (by kernel_rfl)) (by unfold Func.isWrapper; first | (rw [if_pos (by decide +kernel)]; kernel_rfl) | (rw [if_neg (by decide +kernel)]; exact ⟨rfl, rfl⟩))
    (fun os started H enc _ => lifted os started H enc)
theorem proved : Rows.FnExactAckedBySaid := over
#print axioms proved
end Go.Proofs.Ytcjjcpdfnndenaa.fnExactAckedBy
namespace Go.Proofs.Ytcjjcpdfnndenaa
/-- The row, under a short name, for the claim. -/
theorem fnExactAckedBy_holds : Rows.FnExactAckedBySaid := fnExactAckedBy.proved
end Go.Proofs.Ytcjjcpdfnndenaa
