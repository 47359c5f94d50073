/- The law FnExactBoxPut holds: whatever the arguments, it returns true and leaves what it was given as it was. Condition: none beyond the row's own. -/
import Derived.Test.YtheeehbaholjmaaRows
import Derived.Test.YtheeehbaholjmaaFFnExactBoxPut
import Derived.Test.YtheeehbaholjmaaFEntryG
import Derived.WalkKit
import Derived.ProofKit
import Derived.OpenShut
import Derived.ShutString
import Derived.ChangeOld
import Derived.Below
import Derived.SizedLaws
namespace Go.Proofs.Ytheeehbaholjmaa.fnExactBoxPut
open Go.ChangeShapes Go.WideShapes Go.ChangeAt Go.RowKit
open Go.ChangeMaps (open_string shut_string)
set_option linter.unusedVariables false
theorem own : ownKnob Try.prog.godebug = none := by kernel_rfl
theorem laid : laidOutB Try.prog = true := by kernel_rfl
theorem rowed : mapsRowed Try.prog = true := by kernel_rfl
theorem spos : Sim.slicesPos Try.prog = true := by kernel_rfl
theorem types : (Try.f8.params.toList.all fun t => decide (t < Try.prog.types.size)) = true := by kernel_rfl
set_option maxRecDepth 100000 in
theorem lifted (os : Os) (started : os.Started) (H : Type) (enc : TypeId × Value → H) :
    ReturnsInHanded {} Try.checked os 8 .any (Rows.fnExactBoxPutSpec.pre6 enc Try.prog Try.f8 Rows.fnExactBoxPutRow.domain false) (Rows.fnExactBoxPutSpec.post enc Try.prog Try.f8 false true false false) := by
  refine returnsInHanded_of_change_sized (C := Try.checked) own started (by kernel_rfl) Try.func8
    (ChangeSpec.witness6 (enc := enc) (C := Try.checked) false ⟨#[], #[.agg #[.int .i64 0, .int .i64 0, .string ByteArray.empty, .slice none 0 0], .agg #[.int .i64 0, .int .i64 0, .int .i64 0, .string ByteArray.empty]], []⟩ 8 (by kernel_rfl) (by kernel_rfl) (by kernel_rfl) (by kernel_rfl)) ?_
  intro W base args ds gs before hval0 hW hcnd hsz0 _
  have hval : ∀ (j : Nat) t v, Try.f8.params[j]? = some t → args[j]? = some v → Value.okWide Try.prog W .any base t v := hval0
  have hW' := hW
  obtain ⟨p, q, hA0, hV, rfl, hfz, hnd⟩ := hW
  have hA : DataW.TrodAll enc Try.prog W 0 (fun _ => true) true Try.f8.params.toList args.toList ds p := hA0
  have htys : ∀ t ∈ Try.f8.params.toList, t < Try.prog.types.size := fun t ht => of_decide_eq_true (List.all_eq_true.1 types t ht)
  have hB := hA
  rw [Try.params8] at hB hval
  obtain ⟨v0, vs0, d0, ds0, p0, q0, hargs, rfl, rfl, h0, r0⟩ := trodAll_cons hB
  obtain ⟨v1, vs1, d1, ds1, p1, q1, rfl, rfl, rfl, h1, r1⟩ := trodAll_cons r0
  obtain ⟨rfl, rfl, rfl⟩ := trodAll_nil r1
  obtain rfl : args = #[v0, v1] := by cases args; simp_all
  obtain ⟨rfl, rfl⟩ := trodVars_none hV
  obtain ⟨X0, G0, ok0, vr0, sp0⟩ := Sim.open_struct [.f (.i .i64), .f (.i .i64), .f .s, .l 4 [.b]] 8 Try.underlying32 (by kernel_rfl) (by kernel_rfl) (hval 0 32 v0 rfl rfl) h0 0
  obtain ⟨_, e0_0, a0_0, rfl⟩ := sp0 0 _ rfl
  obtain ⟨_, e0_1, a0_1, rfl⟩ := sp0 1 _ rfl
  obtain ⟨_, e0_2, a0_2, rfl, w0_2⟩ := sp0 2 _ rfl
  obtain ⟨_, q0_3, w0_3, i0_3⟩ := sp0 3 _ rfl
  obtain ⟨X1, G1, ok1, vr1, sp1⟩ := Sim.open_struct [.f (.i .i64), .f (.i .i64), .f (.i .i64), .f .s] 8 Try.underlying23 (by kernel_rfl) (by kernel_rfl) (hval 1 23 v1 rfl rfl) h1 4
  obtain ⟨_, e1_0, a1_0, rfl⟩ := sp1 0 _ rfl
  obtain ⟨_, e1_1, a1_1, rfl⟩ := sp1 1 _ rfl
  obtain ⟨_, e1_2, a1_2, rfl⟩ := sp1 2 _ rfl
  obtain ⟨_, e1_3, a1_3, rfl, w1_3⟩ := sp1 3 _ rfl
  clear hA0 hval0 hsz0
  have hs : ∃ H', Sim.Sound Try.prog 8 [.agg [X0 0, X0 1, X0 2, X0 3], .agg [X1 0, X1 1, X1 2, X1 3]] ((((List.range 4).map G0 ++ ((List.range 4).map G1 ++ [])) : List (Sim.Reg × Option Sim.Loc)).map (·.1)) (.sc (.bool true)) H' := by
    rw [e0_0, e0_1, e0_2, e1_0, e1_1, e1_2, e1_3]
    exact Sim.lawFnExactBoxPut _ a0_0 a0_1 a0_2 w0_2 (X0 3) _ (by simpa using w0_3) (i0_3 _ rfl).bools a1_0 a1_1 a1_2 a1_3 w1_3
  obtain ⟨H', hs⟩ := hs
  refine (Sim.entryS ((List.range 4).map G0 ++ ((List.range 4).map G1 ++ [])) hs #[v0, v1] (Sim.slots_ok ok0 (Sim.slots_ok ok1 Sim.slots_nil)) (Sim.LR.cons (vr0 _ (fun i hi => Sim.slot_at [] ((List.range 4).map G1 ++ []) 4 G0 0 i rfl hi)) (Sim.LR.cons (vr1 _ (fun i hi => Sim.slot_at ((List.range 4).map G0) [] 4 G1 4 i rfl hi)) Sim.LR.nil))).mono fun e W' ⟨he, bel⟩ => ?_
  subst he
  exact ⟨_, rfl, _, _, _, [], _, [], hW', trodAll_mk1 (shut_bool Try.underlying4 _), Sim.trodAll_stays laid rowed spos bel (fun b hb => by simp [hb]) htys hA, rfl, bel.frame _, fun h => by cases h⟩
theorem over : Rows.fnExactBoxPutRow.holds Try.pinned (OpenSpec.ofChange Rows.fnExactBoxPutSpec) :=
  OpenClaim.holds_of_wide 8 Try.f8 rfl rfl rfl rfl rfl rfl rfl ⟨rfl, rfl, rfl, rfl, rfl⟩ rfl rfl rfl rfl rfl (by kernel_rfl) Try.func8 (by kernel_rfl)
    (of_decide_eq_true (by kernel_rfl)) (by unfold Func.isWrapper; first | (rw [if_pos (by decide +kernel)]; kernel_rfl) | (rw [if_neg (by decide +kernel)]; exact ⟨rfl, rfl⟩))
    (fun os started H enc _ => lifted os started H enc)
theorem proved : Rows.FnExactBoxPutSaid := over
#print axioms proved
end Go.Proofs.Ytheeehbaholjmaa.fnExactBoxPut
namespace Go.Proofs.Ytheeehbaholjmaa
/-- The row, under a short name, for the claim. -/
theorem fnExactBoxPut_holds : Rows.FnExactBoxPutSaid := fnExactBoxPut.proved
end Go.Proofs.Ytheeehbaholjmaa
