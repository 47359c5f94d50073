/- The law FnReports holds: whatever the arguments, it returns true and leaves what it was given as it was. Condition: none beyond the row's own. -/
import Derived.Test.YtjdajobflgkebaaGreatDoorRows
import Derived.Test.YtjdajobflgkebaaGreatDoorK4
import Derived.Test.YtjdajobflgkebaaGreatDoorK16
import Derived.Test.YtjdajobflgkebaaGreatDoorTie
import Derived.Test.YtjdajobflgkebaaGreatDoorCards
import Derived.LaidMore
import Derived.Stop.Joined
import Derived.SevenTiedAt
import Derived.WalkKit
import Derived.ProofKit
import Derived.OpenShut
import Derived.ShutString
import Derived.ChangeOld
import Derived.Below
import Derived.SizedLaws
namespace Go.Proofs.YtjdajobflgkebaaGreatDoor.fnReports
open Go.ChangeShapes Go.WideShapes Go.ChangeAt Go.RowKit
open Go.ChangeMaps (open_string shut_string)
set_option linter.unusedVariables false
theorem own : ownKnob Tryz.prog.godebug = none := by kernel_rfl
theorem laid : laidOutB Tryz.prog = true := by kernel_rfl
theorem rowed : mapsRowed Tryz.prog = true := by kernel_rfl
theorem spos : Sim.slicesPos Tryz.prog = true := by kernel_rfl
theorem types : (Tryz.f3.params.toList.all fun t => decide (t < Tryz.prog.types.size)) = true := by kernel_rfl
theorem door_met (os : Os) (args : Array Value) : laidMetH Tryz.prog Rows.fnReportsRow.laid ((World.doorLaid Tryz.prog 400 os).forCall (fun _ _ => 0) ⟨#[], args, []⟩).memory :=
  laidMetH_of_parts3 (fuel := 8) (laidMet_of_run' 8 (by kernel_rfl) (by kernel_rfl)) (by kernel_rfl) (by kernel_rfl)
set_option maxRecDepth 100000 in
theorem lifted (os : Os) (started : os.Started) (H : Type) (enc : TypeId × Value → H) :
    ReturnsInHanded {} Tryz.checked os 3 .any (fun w args => (Rows.fnReportsSpec.pre enc Tryz.prog Tryz.f3 [] false w args ∧ laidMetH Tryz.prog Rows.fnReportsRow.laid w) ∧ sizedMet enc Tryz.prog Tryz.f3 (OpenSpec.ofChange Rows.fnReportsSpec) false w args) (Rows.fnReportsSpec.post enc Tryz.prog Tryz.f3 false true false false) := by
  refine returnsInHanded_of_change_and (C := Tryz.checked) (X := fun w _ => laidMetH Tryz.prog Rows.fnReportsRow.laid w) (fun _ _ _ hh h => h.of_heap hh) own started (by kernel_rfl) Tryz.func3
    (ChangeSpec.witness_shaped (enc := enc) (C := Tryz.checked) (os := os) (X := fun w _ => laidMetH Tryz.prog Rows.fnReportsRow.laid w) false (World.doorLaid Tryz.prog 400 os) #[.slice none 0 0] 8 rfl (World.shaped_of_RefB (by kernel_rfl) (by kernel_rfl)) (by kernel_rfl) (by kernel_rfl) (by kernel_rfl) (door_met os _)) ?_
  intro W base args ds gs before hval0 hW hcnd hsz0 hL _
  have hval : ∀ (j : Nat) t v, Tryz.f3.params[j]? = some t → args[j]? = some v → Value.okWide Tryz.prog W .any base t v := hval0
  have hW' := hW
  obtain ⟨p, q, hA0, hV, rfl, hfz, hnd⟩ := hW
  have hA : DataW.TrodAll enc Tryz.prog W 0 (fun _ => true) true Tryz.f3.params.toList args.toList ds p := hA0
  have htys : ∀ t ∈ Tryz.f3.params.toList, t < Tryz.prog.types.size := fun t ht => of_decide_eq_true (List.all_eq_true.1 types t ht)
  have hB := hA
  rw [Tryz.params3] at hB hval
  obtain ⟨v0, vs0, d0, ds0, p0, q0, hargs, rfl, rfl, h0, r0⟩ := trodAll_cons hB
  obtain ⟨rfl, rfl, rfl⟩ := trodAll_nil r0
  obtain rfl : args = #[v0] := by cases args; simp_all
  obtain ⟨rfl, rfl⟩ := trodVars_none hV
  have vc0 : v0.cells.toList = [v0] := by
    obtain ⟨_, _, _, rfl⟩ := okWide_slice Tryz.underlying22 (hval 0 22 v0 rfl rfl)
    rfl
  obtain ⟨Y0, G0, ok0, vr0, sp0⟩ := Sim.open_one (.l 5 [.i .u8]) 8 (by kernel_rfl) (hval 0 22 v0 rfl rfl) (fun _ _ _ => ⟨_, Tryz.underlying22⟩) vc0 h0 0
  obtain ⟨q0_0, w0_0, i0_0⟩ := sp0
  clear hA0 hval0 hsz0
  have hs : ∃ H', Sim.Sound Tryz.prog 3 [Y0] ((((List.range 1).map (fun _ => G0) ++ []) : List (Sim.Reg × Option Sim.Loc)).map (·.1)) (.sc (.bool true)) H' := by
    exact Sim.lawFnReports _ Y0 _ (by simpa using w0_0) (i0_0 _ rfl).ints
  obtain ⟨H', hs⟩ := hs
  refine (Sim.entryS ((List.range 1).map (fun _ => G0) ++ []) hs #[v0] (Sim.slots_ok (fun _ => ok0) Sim.slots_nil) (Sim.LR.cons (vr0 _ (Sim.slot_at [] [] 1 (fun _ => G0) 0 0 rfl (by decide))) Sim.LR.nil) (Sim.gl_of_laid hL)).mono fun e W' ⟨he, bel⟩ => ?_
  subst he
  exact ⟨_, rfl, _, _, _, [], _, [], hW', trodAll_mk1 (shut_bool Tryz.underlying4 _), Sim.trodAll_stays laid rowed spos bel (fun b hb => by simp [hb]) htys hA, rfl, bel.frame _, fun h => by cases h⟩
theorem over : Rows.fnReportsRow.holds Tryz.pinned (OpenSpec.ofChange Rows.fnReportsSpec) :=
  OpenClaim.holds_of_wide 3 Tryz.f3 rfl rfl rfl rfl rfl rfl rfl ⟨rfl, rfl, rfl, rfl, rfl⟩ rfl rfl rfl rfl rfl (by kernel_rfl) Tryz.func3 (by kernel_rfl)
    (of_decide_eq_true (by kernel_rfl)) (by unfold Func.isWrapper; first | (rw [if_pos (by decide +kernel)]; kernel_rfl) | (rw [if_neg (by decide +kernel)]; exact ⟨rfl, rfl⟩))
    (fun os started H enc _ => lifted os started H enc)
theorem proved : Rows.FnReportsCardSaid :=
  Claim7.holds_tied_plain_at .later [] [.data, .data, .data] true (true, "275fab836bde521f02a1797d90e94b3d14fd45931af627a675bbe5a9e6f37051") false
    over (fun _ h => by cases h) (by kernel_rfl) (fun _ h => by cases h) fnReports_row_tie rfl ⟨rfl, rfl⟩ (by kernel_rfl) rfl
    (fun f fn hf hfn => by
      obtain rfl : f = 3 := Option.some.inj ((show Tryz.prog.funcNamed "loop.example/g00466/laws.FnReports" = some 3 by kernel_rfl).symm.trans hf) |>.symm
      obtain rfl : fn = Tryz.f3 := (Option.some.inj (Tryz.func3.symm.trans hfn)).symm
      exact ⟨by kernel_rfl, fun j t ht => by
        rw [Tryz.params3] at ht
        have hm : t ∈ [22] := by simpa using Array.mem_of_getElem? ht
        have hall : ([22].all fun u => !Tryz.prog.wantsStandIn u) = true := by kernel_rfl
        exact (show Tryz.prog.wantsStandIn t = false by simpa using List.all_eq_true.1 hall t hm)⟩)
    (by kernel_rfl)
#print axioms proved
end Go.Proofs.YtjdajobflgkebaaGreatDoor.fnReports
namespace Go.Proofs.YtjdajobflgkebaaGreatDoor
/-- The card, under a short name, for the claim. -/
theorem fnReports_holds : Rows.FnReportsCardSaid := fnReports.proved
end Go.Proofs.YtjdajobflgkebaaGreatDoor
