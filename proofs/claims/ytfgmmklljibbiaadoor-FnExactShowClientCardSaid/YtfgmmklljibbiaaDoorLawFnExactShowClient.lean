/- The law FnExactShowClient holds: whatever the arguments, it returns true and leaves what it was given as it was. Condition: none beyond the row's own. -/
import Derived.Test.YtfgmmklljibbiaaDoorRows
import Derived.Test.YtfgmmklljibbiaaDoorFFnExactShowClient
import Derived.Test.YtfgmmklljibbiaaDoorFEntryV
import Derived.Test.YtfgmmklljibbiaaDoorFEntryL
import Derived.Test.YtfgmmklljibbiaaDoorTie
import Derived.Test.YtfgmmklljibbiaaDoorCards
import Derived.LaidMore
import Derived.Stop.Joined
import Derived.SevenTiedAt
import Derived.WalkKit
import Derived.ProofKit
import Derived.OpenShut
import Derived.ShutString
import Derived.ChangeOld
import Derived.Below
import Derived.SizedLaws
namespace Go.Proofs.YtfgmmklljibbiaaDoor.fnExactShowClient
open Go.ChangeShapes Go.WideShapes Go.ChangeAt Go.RowKit
open Go.ChangeMaps (open_string shut_string)
set_option linter.unusedVariables false
theorem own : ownKnob Tryd.prog.godebug = none := by kernel_rfl
theorem laid : laidOutB Tryd.prog = true := by kernel_rfl
theorem rowed : mapsRowed Tryd.prog = true := by kernel_rfl
theorem spos : Sim.slicesPos Tryd.prog = true := by kernel_rfl
theorem types : (Tryd.f3.params.toList.all fun t => decide (t < Tryd.prog.types.size)) = true := by kernel_rfl
theorem door_met (os : Os) (args : Array Value) : laidMetH Tryd.prog Rows.fnExactShowClientRow.laid ((World.doorLaid Tryd.prog 400 os).forCall (fun _ _ => 0) ⟨#[], args, []⟩).memory :=
  laidMetH_of_parts3 (fuel := 8) (laidMet_of_run' 8 (by kernel_rfl) (by kernel_rfl)) (by kernel_rfl) (by kernel_rfl)
set_option maxRecDepth 100000 in
theorem lifted (os : Os) (started : os.Started) (H : Type) (enc : TypeId × Value → H) :
    ReturnsInHanded {} Tryd.checked os 3 .any (fun w args => (Rows.fnExactShowClientSpec.pre enc Tryd.prog Tryd.f3 [] false w args ∧ laidMetH Tryd.prog Rows.fnExactShowClientRow.laid w) ∧ sizedMet enc Tryd.prog Tryd.f3 (OpenSpec.ofChange Rows.fnExactShowClientSpec) false w args) (Rows.fnExactShowClientSpec.post enc Tryd.prog Tryd.f3 false true false false) := by
  refine returnsInHanded_of_change_and (C := Tryd.checked) (X := fun w _ => laidMetH Tryd.prog Rows.fnExactShowClientRow.laid w) (fun _ _ _ hh h => h.of_heap hh) own started (by kernel_rfl) Tryd.func3
    (ChangeSpec.witness_shaped (enc := enc) (C := Tryd.checked) (os := os) (X := fun w _ => laidMetH Tryd.prog Rows.fnExactShowClientRow.laid w) false (World.doorLaid Tryd.prog 400 os) #[.agg #[.int .i64 0, .int .i64 0, .int .i64 0, .int .i64 0, .int .i64 0, .bool false, .int .i64 0, .int .i64 0, .int .i64 0, .int .i64 0, .int .i64 0, .int .i64 0, .int .i64 0, .int .i64 0, .int .i64 0, .int .i64 0, .int .i64 0, .int .i64 0, .int .i64 0, .int .i64 0, .int .i64 0, .int .i64 0, .int .i64 0]] 8 rfl (World.shaped_of_RefB (by kernel_rfl) (by kernel_rfl)) (by kernel_rfl) (by kernel_rfl) (by kernel_rfl) (door_met os _)) ?_
  intro W base args ds gs before hval0 hW hcnd hsz0 hL _
  have hval : ∀ (j : Nat) t v, Tryd.f3.params[j]? = some t → args[j]? = some v → Value.okWide Tryd.prog W .any base t v := hval0
  have hW' := hW
  obtain ⟨p, q, hA0, hV, rfl, hfz, hnd⟩ := hW
  have hA : DataW.TrodAll enc Tryd.prog W 0 (fun _ => true) true Tryd.f3.params.toList args.toList ds p := hA0
  have htys : ∀ t ∈ Tryd.f3.params.toList, t < Tryd.prog.types.size := fun t ht => of_decide_eq_true (List.all_eq_true.1 types t ht)
  have hB := hA
  rw [Tryd.params3] at hB hval
  obtain ⟨v0, vs0, d0, ds0, p0, q0, hargs, rfl, rfl, h0, r0⟩ := trodAll_cons hB
  obtain ⟨rfl, rfl, rfl⟩ := trodAll_nil r0
  obtain rfl : args = #[v0] := by cases args; simp_all
  obtain ⟨rfl, rfl⟩ := trodVars_none hV
  obtain ⟨X0, G0, ok0, vr0, sp0⟩ := Sim.open_struct [.f (.i .i64), .f (.i .i64), .f (.i .i64), .f (.i .i64), .f (.i .i64), .f .b, .f (.i .i64), .f (.i .i64), .f (.i .i64), .f (.i .i64), .f (.i .i64), .f (.i .i64), .f (.i .i64), .f (.i .i64), .f (.i .i64), .f (.i .i64), .f (.i .i64), .f (.i .i64), .f (.i .i64), .f (.i .i64), .f (.i .i64), .f (.i .i64), .f (.i .i64)] 8 Tryd.underlying27 (by kernel_rfl) (by kernel_rfl) (hval 0 27 v0 rfl rfl) h0 0
  obtain ⟨_, e0_0, a0_0, rfl, w0_0⟩ := sp0 0 _ rfl
  obtain ⟨_, e0_1, a0_1, rfl, w0_1⟩ := sp0 1 _ rfl
  obtain ⟨_, e0_2, a0_2, rfl, w0_2⟩ := sp0 2 _ rfl
  obtain ⟨_, e0_3, a0_3, rfl, w0_3⟩ := sp0 3 _ rfl
  obtain ⟨_, e0_4, a0_4, rfl, w0_4⟩ := sp0 4 _ rfl
  obtain ⟨_, e0_5, a0_5, rfl⟩ := sp0 5 _ rfl
  obtain ⟨_, e0_6, a0_6, rfl, w0_6⟩ := sp0 6 _ rfl
  obtain ⟨_, e0_7, a0_7, rfl, w0_7⟩ := sp0 7 _ rfl
  obtain ⟨_, e0_8, a0_8, rfl, w0_8⟩ := sp0 8 _ rfl
  obtain ⟨_, e0_9, a0_9, rfl, w0_9⟩ := sp0 9 _ rfl
  obtain ⟨_, e0_10, a0_10, rfl, w0_10⟩ := sp0 10 _ rfl
  obtain ⟨_, e0_11, a0_11, rfl, w0_11⟩ := sp0 11 _ rfl
  obtain ⟨_, e0_12, a0_12, rfl, w0_12⟩ := sp0 12 _ rfl
  obtain ⟨_, e0_13, a0_13, rfl, w0_13⟩ := sp0 13 _ rfl
  obtain ⟨_, e0_14, a0_14, rfl, w0_14⟩ := sp0 14 _ rfl
  obtain ⟨_, e0_15, a0_15, rfl, w0_15⟩ := sp0 15 _ rfl
  obtain ⟨_, e0_16, a0_16, rfl, w0_16⟩ := sp0 16 _ rfl
  obtain ⟨_, e0_17, a0_17, rfl, w0_17⟩ := sp0 17 _ rfl
  obtain ⟨_, e0_18, a0_18, rfl, w0_18⟩ := sp0 18 _ rfl
  obtain ⟨_, e0_19, a0_19, rfl, w0_19⟩ := sp0 19 _ rfl
  obtain ⟨_, e0_20, a0_20, rfl, w0_20⟩ := sp0 20 _ rfl
  obtain ⟨_, e0_21, a0_21, rfl, w0_21⟩ := sp0 21 _ rfl
  obtain ⟨_, e0_22, a0_22, rfl, w0_22⟩ := sp0 22 _ rfl
  clear hA0 hval0 hsz0
  have hs : ∃ H', Sim.Sound Tryd.prog 3 [.agg [X0 0, X0 1, X0 2, X0 3, X0 4, X0 5, X0 6, X0 7, X0 8, X0 9, X0 10, X0 11, X0 12, X0 13, X0 14, X0 15, X0 16, X0 17, X0 18, X0 19, X0 20, X0 21, X0 22]] ((((List.range 23).map G0 ++ []) : List (Sim.Reg × Option Sim.Loc)).map (·.1)) (.sc (.bool true)) H' := by
    rw [e0_0, e0_1, e0_2, e0_3, e0_4, e0_5, e0_6, e0_7, e0_8, e0_9, e0_10, e0_11, e0_12, e0_13, e0_14, e0_15, e0_16, e0_17, e0_18, e0_19, e0_20, e0_21, e0_22]
    exact Sim.lawFnExactShowClient _ a0_0 w0_0 a0_1 w0_1 a0_2 w0_2 a0_3 w0_3 a0_4 w0_4 a0_5 a0_6 w0_6 a0_7 w0_7 a0_8 w0_8 a0_9 w0_9 a0_10 w0_10 a0_11 w0_11 a0_12 w0_12 a0_13 w0_13 a0_14 w0_14 a0_15 w0_15 a0_16 w0_16 a0_17 w0_17 a0_18 w0_18 a0_19 w0_19 a0_20 w0_20 a0_21 w0_21 a0_22 w0_22
  obtain ⟨H', hs⟩ := hs
  refine (Sim.entryS ((List.range 23).map G0 ++ []) hs #[v0] (Sim.slots_ok ok0 Sim.slots_nil) (Sim.LR.cons (vr0 _ (fun i hi => Sim.slot_at [] [] 23 G0 0 i rfl hi)) Sim.LR.nil) (Sim.gl_of_laid hL)).mono fun e W' ⟨he, bel⟩ => ?_
  subst he
  exact ⟨_, rfl, _, _, _, [], _, [], hW', trodAll_mk1 (shut_bool Tryd.underlying4 _), Sim.trodAll_stays laid rowed spos bel (fun b hb => by simp [hb]) htys hA, rfl, bel.frame _, fun h => by cases h⟩
theorem over : Rows.fnExactShowClientRow.holds Tryd.pinned (OpenSpec.ofChange Rows.fnExactShowClientSpec) :=
  OpenClaim.holds_of_wide 3 Tryd.f3 rfl rfl rfl rfl rfl rfl rfl ⟨rfl, rfl, rfl, rfl, rfl⟩ rfl rfl rfl rfl rfl (by kernel_rfl) Tryd.func3 (by kernel_rfl)
    (of_decide_eq_true (by kernel_rfl)) (by unfold Func.isWrapper; first | (rw [if_pos (by decide +kernel)]; kernel_rfl) | (rw [if_neg (by decide +kernel)]; exact ⟨rfl, rfl⟩))
    (fun os started H enc _ => lifted os started H enc)
theorem proved : Rows.FnExactShowClientCardSaid :=
  Claim7.holds_tied_plain_at .later [] [.data, .data, .data] true (true, "bcb3b7472f203badeca4134a2aab41fbb5695a669b37ddb11b6de8faedaf186b") false
    over (fun _ h => by cases h) (by kernel_rfl) (fun _ h => by cases h) fnExactShowClient_row_tie rfl ⟨rfl, rfl⟩ (by kernel_rfl) rfl
    (fun f fn hf hfn => by
      obtain rfl : f = 3 := Option.some.inj ((show Tryd.prog.funcNamed "loop.example/g00466/laws.FnExactShowClient" = some 3 by kernel_rfl).symm.trans hf) |>.symm
      obtain rfl : fn = Tryd.f3 := (Option.some.inj (Tryd.func3.symm.trans hfn)).symm
      exact ⟨by kernel_rfl, fun j t ht => by
        rw [Tryd.params3] at ht
        have hm : t ∈ [27] := by simpa using Array.mem_of_getElem? ht
        have hall : ([27].all fun u => !Tryd.prog.wantsStandIn u) = true := by kernel_rfl
        exact (show Tryd.prog.wantsStandIn t = false by simpa using List.all_eq_true.1 hall t hm)⟩)
    (by kernel_rfl)
#print axioms proved
end Go.Proofs.YtfgmmklljibbiaaDoor.fnExactShowClient
namespace Go.Proofs.YtfgmmklljibbiaaDoor
/-- The card, under a short name, for the claim. -/
theorem fnExactShowClient_holds : Rows.FnExactShowClientCardSaid := fnExactShowClient.proved
end Go.Proofs.YtfgmmklljibbiaaDoor
