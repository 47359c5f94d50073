/- The law FnExactShowTerm holds: whatever the arguments, it returns true and leaves what it was given as it was. Condition: none beyond the row's own. -/
import Derived.Test.YtfgmmklljibbiaaDoorRows
import Derived.Test.YtfgmmklljibbiaaDoorFFnExactShowTerm
import Derived.Test.YtfgmmklljibbiaaDoorFEntryV
import Derived.Test.YtfgmmklljibbiaaDoorFEntryL
import Derived.Test.YtfgmmklljibbiaaDoorTie
import Derived.Test.YtfgmmklljibbiaaDoorCards
import Derived.LaidMore
import Derived.Stop.Joined
import Derived.SevenTiedAt
import Derived.WalkKit
import Derived.ProofKit
import Derived.OpenShut
import Derived.ShutString
import Derived.ChangeOld
import Derived.Below
import Derived.SizedLaws
namespace Go.Proofs.YtfgmmklljibbiaaDoor.fnExactShowTerm
open Go.ChangeShapes Go.WideShapes Go.ChangeAt Go.RowKit
open Go.ChangeMaps (open_string shut_string)
set_option linter.unusedVariables false
theorem own : ownKnob Tryd.prog.godebug = none := by kernel_rfl
theorem laid : laidOutB Tryd.prog = true := by kernel_rfl
theorem rowed : mapsRowed Tryd.prog = true := by kernel_rfl
theorem spos : Sim.slicesPos Tryd.prog = true := by kernel_rfl
theorem types : (Tryd.f4.params.toList.all fun t => decide (t < Tryd.prog.types.size)) = true := by kernel_rfl
theorem door_met (os : Os) (args : Array Value) : laidMetH Tryd.prog Rows.fnExactShowTermRow.laid ((World.doorLaid Tryd.prog 400 os).forCall (fun _ _ => 0) ⟨#[], args, []⟩).memory :=
  laidMetH_of_parts3 (fuel := 8) (laidMet_of_run' 8 (by kernel_rfl) (by kernel_rfl)) (by kernel_rfl) (by kernel_rfl)
set_option maxRecDepth 100000 in
theorem lifted (os : Os) (started : os.Started) (H : Type) (enc : TypeId × Value → H) :
    ReturnsInHanded {} Tryd.checked os 4 .any (fun w args => (Rows.fnExactShowTermSpec.pre enc Tryd.prog Tryd.f4 [] false w args ∧ laidMetH Tryd.prog Rows.fnExactShowTermRow.laid w) ∧ sizedMet enc Tryd.prog Tryd.f4 (OpenSpec.ofChange Rows.fnExactShowTermSpec) false w args) (Rows.fnExactShowTermSpec.post enc Tryd.prog Tryd.f4 false true false false) := by
  refine returnsInHanded_of_change_and (C := Tryd.checked) (X := fun w _ => laidMetH Tryd.prog Rows.fnExactShowTermRow.laid w) (fun _ _ _ hh h => h.of_heap hh) own started (by kernel_rfl) Tryd.func4
    (ChangeSpec.witness_shaped (enc := enc) (C := Tryd.checked) (os := os) (X := fun w _ => laidMetH Tryd.prog Rows.fnExactShowTermRow.laid w) false (World.doorLaid Tryd.prog 400 os) #[.agg #[.slice none 0 0], .int .i64 0] 8 rfl (World.shaped_of_RefB (by kernel_rfl) (by kernel_rfl)) (by kernel_rfl) (by kernel_rfl) (by kernel_rfl) (door_met os _)) ?_
  intro W base args ds gs before hval0 hW hcnd hsz0 hL _
  have hval : ∀ (j : Nat) t v, Tryd.f4.params[j]? = some t → args[j]? = some v → Value.okWide Tryd.prog W .any base t v := hval0
  have hW' := hW
  obtain ⟨p, q, hA0, hV, rfl, hfz, hnd⟩ := hW
  have hA : DataW.TrodAll enc Tryd.prog W 0 (fun _ => true) true Tryd.f4.params.toList args.toList ds p := hA0
  have htys : ∀ t ∈ Tryd.f4.params.toList, t < Tryd.prog.types.size := fun t ht => of_decide_eq_true (List.all_eq_true.1 types t ht)
  have hB := hA
  rw [Tryd.params4] at hB hval
  obtain ⟨v0, vs0, d0, ds0, p0, q0, hargs, rfl, rfl, h0, r0⟩ := trodAll_cons hB
  obtain ⟨v1, vs1, d1, ds1, p1, q1, rfl, rfl, rfl, h1, r1⟩ := trodAll_cons r0
  obtain ⟨rfl, rfl, rfl⟩ := trodAll_nil r1
  obtain rfl : args = #[v0, v1] := by cases args; simp_all
  obtain ⟨rfl, rfl⟩ := trodVars_none hV
  obtain ⟨X0, G0, ok0, vr0, sp0⟩ := Sim.open_struct [.l 126 [.i .i64, .i .i64, .i .i64, .i .i64]] 8 Tryd.underlying38 (by kernel_rfl) (by kernel_rfl) (hval 0 38 v0 rfl rfl) h0 0
  obtain ⟨_, q0_0, w0_0, i0_0⟩ := sp0 0 _ rfl
  have vc1 : v1.cells.toList = [v1] := by
    have hv := (hval 1 3 v1 rfl rfl)
    unfold Value.okWide at hv
    simp only [Tryd.underlying3] at hv
    unfold Cell.okWide at hv
    simp only [Tryd.underlying3] at hv
    unfold Cell.ok at hv
    cases v1 <;> first | rfl | simp [Tryd.underlying3] at hv
  obtain ⟨Y1, G1, ok1, vr1, sp1⟩ := Sim.open_one (.f (.i .i64)) 8 (by kernel_rfl) (hval 1 3 v1 rfl rfl) (fun _ _ h => by cases h) vc1 h1 1
  obtain ⟨e1_0, a1_0, z1_0, w1_0⟩ := sp1
  clear hA0 hval0 hsz0
  have hs : ∃ H', Sim.Sound Tryd.prog 4 [.agg [X0 0], Y1] ((((List.range 1).map G0 ++ ((List.range 1).map (fun _ => G1) ++ [])) : List (Sim.Reg × Option Sim.Loc)).map (·.1)) (.sc (.bool true)) H' := by
    rw [e1_0, z1_0]
    exact Sim.lawFnExactShowTerm _ (X0 0) _ w0_0 (i0_0 _ rfl) a1_0 w1_0
  obtain ⟨H', hs⟩ := hs
  refine (Sim.entryS ((List.range 1).map G0 ++ ((List.range 1).map (fun _ => G1) ++ [])) hs #[v0, v1] (Sim.slots_ok ok0 (Sim.slots_ok (fun _ => ok1) Sim.slots_nil)) (Sim.LR.cons (vr0 _ (fun i hi => Sim.slot_at [] ((List.range 1).map (fun _ => G1) ++ []) 1 G0 0 i rfl hi)) (Sim.LR.cons (vr1 _ (Sim.slot_at ((List.range 1).map G0) [] 1 (fun _ => G1) 1 0 rfl (by decide))) Sim.LR.nil)) (Sim.gl_of_laid hL)).mono fun e W' ⟨he, bel⟩ => ?_
  subst he
  exact ⟨_, rfl, _, _, _, [], _, [], hW', trodAll_mk1 (shut_bool Tryd.underlying4 _), Sim.trodAll_stays laid rowed spos bel (fun b hb => by simp [hb]) htys hA, rfl, bel.frame _, fun h => by cases h⟩
theorem over : Rows.fnExactShowTermRow.holds Tryd.pinned (OpenSpec.ofChange Rows.fnExactShowTermSpec) :=
  OpenClaim.holds_of_wide 4 Tryd.f4 rfl rfl rfl rfl rfl rfl rfl ⟨rfl, rfl, rfl, rfl, rfl⟩ rfl rfl rfl rfl rfl (by kernel_rfl) Tryd.func4 (by kernel_rfl)
    (of_decide_eq_true (by kernel_rfl)) (by unfold Func.isWrapper; first | (rw [if_pos (by decide +kernel)]; kernel_rfl) | (rw [if_neg (by decide +kernel)]; exact ⟨rfl, rfl⟩))
    (fun os started H enc _ => lifted os started H enc)
theorem proved : Rows.FnExactShowTermCardSaid :=
  Claim7.holds_tied_plain_at .later [] [.data, .data, .data] true (true, "bcb3b7472f203badeca4134a2aab41fbb5695a669b37ddb11b6de8faedaf186b") false
    over (fun _ h => by cases h) (by kernel_rfl) (fun _ h => by cases h) fnExactShowTerm_row_tie rfl ⟨rfl, rfl⟩ (by kernel_rfl) rfl
    (fun f fn hf hfn => by
      obtain rfl : f = 4 := Option.some.inj ((show Tryd.prog.funcNamed "loop.example/g00466/laws.FnExactShowTerm" = some 4 by kernel_rfl).symm.trans hf) |>.symm
      obtain rfl : fn = Tryd.f4 := (Option.some.inj (Tryd.func4.symm.trans hfn)).symm
      exact ⟨by kernel_rfl, fun j t ht => by
        rw [Tryd.params4] at ht
        have hm : t ∈ [38, 3] := by simpa using Array.mem_of_getElem? ht
        have hall : ([38, 3].all fun u => !Tryd.prog.wantsStandIn u) = true := by kernel_rfl
        exact (show Tryd.prog.wantsStandIn t = false by simpa using List.all_eq_true.1 hall t hm)⟩)
    (by kernel_rfl)
#print axioms proved
end Go.Proofs.YtfgmmklljibbiaaDoor.fnExactShowTerm
namespace Go.Proofs.YtfgmmklljibbiaaDoor
/-- The card, under a short name, for the claim. -/
theorem fnExactShowTerm_holds : Rows.FnExactShowTermCardSaid := fnExactShowTerm.proved
end Go.Proofs.YtfgmmklljibbiaaDoor
