/- The law FnExactShowWorld holds: whatever the arguments, it returns true and leaves what it was given as it was. Condition: none beyond the row's own. -/
import Derived.Test.YtfgmmklljibbiaaDoorRows
import Derived.Test.YtfgmmklljibbiaaDoorFFnExactShowWorld
import Derived.Test.YtfgmmklljibbiaaDoorFEntryV
import Derived.Test.YtfgmmklljibbiaaDoorFEntryL
import Derived.Test.YtfgmmklljibbiaaDoorTie
import Derived.Test.YtfgmmklljibbiaaDoorCards
import Derived.LaidMore
import Derived.Stop.Joined
import Derived.SevenTiedAt
import Derived.WalkKit
import Derived.ProofKit
import Derived.OpenShut
import Derived.ShutString
import Derived.ChangeOld
import Derived.Below
import Derived.SizedLaws
namespace Go.Proofs.YtfgmmklljibbiaaDoor.fnExactShowWorld
open Go.ChangeShapes Go.WideShapes Go.ChangeAt Go.RowKit
open Go.ChangeMaps (open_string shut_string)
set_option linter.unusedVariables false
theorem own : ownKnob Tryd.prog.godebug = none := by kernel_rfl
theorem laid : laidOutB Tryd.prog = true := by kernel_rfl
theorem rowed : mapsRowed Tryd.prog = true := by kernel_rfl
theorem spos : Sim.slicesPos Tryd.prog = true := by kernel_rfl
theorem types : (Tryd.f6.params.toList.all fun t => decide (t < Tryd.prog.types.size)) = true := by kernel_rfl
theorem door_met (os : Os) (args : Array Value) : laidMetH Tryd.prog Rows.fnExactShowWorldRow.laid ((World.doorLaid Tryd.prog 400 os).forCall (fun _ _ => 0) ⟨#[], args, []⟩).memory :=
  laidMetH_of_parts3 (fuel := 8) (laidMet_of_run' 8 (by kernel_rfl) (by kernel_rfl)) (by kernel_rfl) (by kernel_rfl)
set_option maxRecDepth 100000 in
theorem lifted (os : Os) (started : os.Started) (H : Type) (enc : TypeId × Value → H) :
    ReturnsInHanded {} Tryd.checked os 6 .any (fun w args => (Rows.fnExactShowWorldSpec.pre enc Tryd.prog Tryd.f6 [] false w args ∧ laidMetH Tryd.prog Rows.fnExactShowWorldRow.laid w) ∧ sizedMet enc Tryd.prog Tryd.f6 (OpenSpec.ofChange Rows.fnExactShowWorldSpec) false w args) (Rows.fnExactShowWorldSpec.post enc Tryd.prog Tryd.f6 false true false false) := by
  refine returnsInHanded_of_change_and (C := Tryd.checked) (X := fun w _ => laidMetH Tryd.prog Rows.fnExactShowWorldRow.laid w) (fun _ _ _ hh h => h.of_heap hh) own started (by kernel_rfl) Tryd.func6
    (ChangeSpec.witness_shaped (enc := enc) (C := Tryd.checked) (os := os) (X := fun w _ => laidMetH Tryd.prog Rows.fnExactShowWorldRow.laid w) false (World.doorLaid Tryd.prog 400 os) #[.agg #[.slice none 0 0, .slice none 0 0, .slice none 0 0, .int .i64 0, .int .i64 0, .slice none 0 0, .slice none 0 0, .slice none 0 0, .slice none 0 0, .int .i64 0, .slice none 0 0, .int .i64 0, .int .i64 0, .slice none 0 0, .slice none 0 0, .slice none 0 0, .slice none 0 0, .slice none 0 0, .slice none 0 0, .slice none 0 0]] 8 rfl (World.shaped_of_RefB (by kernel_rfl) (by kernel_rfl)) (by kernel_rfl) (by kernel_rfl) (by kernel_rfl) (door_met os _)) ?_
  intro W base args ds gs before hval0 hW hcnd hsz0 hL _
  have hval : ∀ (j : Nat) t v, Tryd.f6.params[j]? = some t → args[j]? = some v → Value.okWide Tryd.prog W .any base t v := hval0
  have hW' := hW
  obtain ⟨p, q, hA0, hV, rfl, hfz, hnd⟩ := hW
  have hA : DataW.TrodAll enc Tryd.prog W 0 (fun _ => true) true Tryd.f6.params.toList args.toList ds p := hA0
  have htys : ∀ t ∈ Tryd.f6.params.toList, t < Tryd.prog.types.size := fun t ht => of_decide_eq_true (List.all_eq_true.1 types t ht)
  have hB := hA
  rw [Tryd.params6] at hB hval
  obtain ⟨v0, vs0, d0, ds0, p0, q0, hargs, rfl, rfl, h0, r0⟩ := trodAll_cons hB
  obtain ⟨rfl, rfl, rfl⟩ := trodAll_nil r0
  obtain rfl : args = #[v0] := by cases args; simp_all
  obtain ⟨rfl, rfl⟩ := trodVars_none hV
  obtain ⟨X0, G0, ok0, vr0, sp0⟩ := Sim.open_struct [.l 126 [.i .i64, .i .i64, .i .i64, .i .i64], .l 27 [.i .i64, .i .i64, .i .i64, .i .i64, .i .i64, .b, .i .i64, .i .i64, .i .i64, .i .i64, .i .i64, .i .i64, .i .i64, .i .i64, .i .i64, .i .i64, .i .i64, .i .i64, .i .i64, .i .i64, .i .i64, .i .i64, .i .i64], .l 3 [.i .i64], .f (.i .i64), .f (.i .i64), .l 133 [.i .i64, .i .i64, .i .i64, .i .i64, .i .i64, .i .i64, .i .i64, .i .i64, .i .i64, .i .i64, .i .i64, .i .i64, .i .i64, .i .i64, .i .i64, .i .i64, .i .i64, .i .i64, .i .i64, .i .i64], .l 137 [.i .i64, .i .i64], .l 141 [.i .i64, .i .i64, .i .i64], .l 145 [.i .i64, .i .i64, .i .i64, .i .i64, .i .i64], .f (.i .i64), .l 153 [.i .i64, .i .i64, .i .i64], .f (.i .i64), .f (.i .i64), .l 3 [.i .i64], .l 3 [.i .i64], .l 157 [.i .i64, .i .i64, .i .i64, .i .i64, .i .i64, .i .i64, .b], .l 157 [.i .i64, .i .i64, .i .i64, .i .i64, .i .i64, .i .i64, .b], .l 157 [.i .i64, .i .i64, .i .i64, .i .i64, .i .i64, .i .i64, .b], .l 157 [.i .i64, .i .i64, .i .i64, .i .i64, .i .i64, .i .i64, .b], .l 3 [.i .i64]] 8 Tryd.underlying69 (by kernel_rfl) (by kernel_rfl) (hval 0 69 v0 rfl rfl) h0 0
  obtain ⟨_, q0_0, w0_0, i0_0⟩ := sp0 0 _ rfl
  obtain ⟨_, q0_1, w0_1, i0_1⟩ := sp0 1 _ rfl
  obtain ⟨_, q0_2, w0_2, i0_2⟩ := sp0 2 _ rfl
  obtain ⟨_, e0_3, a0_3, rfl, w0_3⟩ := sp0 3 _ rfl
  obtain ⟨_, e0_4, a0_4, rfl, w0_4⟩ := sp0 4 _ rfl
  obtain ⟨_, q0_5, w0_5, i0_5⟩ := sp0 5 _ rfl
  obtain ⟨_, q0_6, w0_6, i0_6⟩ := sp0 6 _ rfl
  obtain ⟨_, q0_7, w0_7, i0_7⟩ := sp0 7 _ rfl
  obtain ⟨_, q0_8, w0_8, i0_8⟩ := sp0 8 _ rfl
  obtain ⟨_, e0_9, a0_9, rfl, w0_9⟩ := sp0 9 _ rfl
  obtain ⟨_, q0_10, w0_10, i0_10⟩ := sp0 10 _ rfl
  obtain ⟨_, e0_11, a0_11, rfl, w0_11⟩ := sp0 11 _ rfl
  obtain ⟨_, e0_12, a0_12, rfl, w0_12⟩ := sp0 12 _ rfl
  obtain ⟨_, q0_13, w0_13, i0_13⟩ := sp0 13 _ rfl
  obtain ⟨_, q0_14, w0_14, i0_14⟩ := sp0 14 _ rfl
  obtain ⟨_, q0_15, w0_15, i0_15⟩ := sp0 15 _ rfl
  obtain ⟨_, q0_16, w0_16, i0_16⟩ := sp0 16 _ rfl
  obtain ⟨_, q0_17, w0_17, i0_17⟩ := sp0 17 _ rfl
  obtain ⟨_, q0_18, w0_18, i0_18⟩ := sp0 18 _ rfl
  obtain ⟨_, q0_19, w0_19, i0_19⟩ := sp0 19 _ rfl
  clear hA0 hval0 hsz0
  have hs : ∃ H', Sim.Sound Tryd.prog 6 [.agg [X0 0, X0 1, X0 2, X0 3, X0 4, X0 5, X0 6, X0 7, X0 8, X0 9, X0 10, X0 11, X0 12, X0 13, X0 14, X0 15, X0 16, X0 17, X0 18, X0 19]] ((((List.range 20).map G0 ++ []) : List (Sim.Reg × Option Sim.Loc)).map (·.1)) (.sc (.bool true)) H' := by
    rw [e0_3, e0_4, e0_9, e0_11, e0_12]
    exact Sim.lawFnExactShowWorld _ (X0 0) _ w0_0 (i0_0 _ rfl) (X0 1) _ w0_1 (i0_1 _ rfl) (X0 2) _ (by simpa using w0_2) (i0_2 _ rfl).ints a0_3 w0_3 a0_4 w0_4 (X0 5) _ w0_5 (i0_5 _ rfl) (X0 6) _ w0_6 (i0_6 _ rfl) (X0 7) _ w0_7 (i0_7 _ rfl) (X0 8) _ w0_8 (i0_8 _ rfl) a0_9 w0_9 (X0 10) _ w0_10 (i0_10 _ rfl) a0_11 w0_11 a0_12 w0_12 (X0 13) _ (by simpa using w0_13) (i0_13 _ rfl).ints (X0 14) _ (by simpa using w0_14) (i0_14 _ rfl).ints (X0 15) _ w0_15 (i0_15 _ rfl) (X0 16) _ w0_16 (i0_16 _ rfl) (X0 17) _ w0_17 (i0_17 _ rfl) (X0 18) _ w0_18 (i0_18 _ rfl) (X0 19) _ (by simpa using w0_19) (i0_19 _ rfl).ints
  obtain ⟨H', hs⟩ := hs
  refine (Sim.entryS ((List.range 20).map G0 ++ []) hs #[v0] (Sim.slots_ok ok0 Sim.slots_nil) (Sim.LR.cons (vr0 _ (fun i hi => Sim.slot_at [] [] 20 G0 0 i rfl hi)) Sim.LR.nil) (Sim.gl_of_laid hL)).mono fun e W' ⟨he, bel⟩ => ?_
  subst he
  exact ⟨_, rfl, _, _, _, [], _, [], hW', trodAll_mk1 (shut_bool Tryd.underlying4 _), Sim.trodAll_stays laid rowed spos bel (fun b hb => by simp [hb]) htys hA, rfl, bel.frame _, fun h => by cases h⟩
theorem over : Rows.fnExactShowWorldRow.holds Tryd.pinned (OpenSpec.ofChange Rows.fnExactShowWorldSpec) :=
  OpenClaim.holds_of_wide 6 Tryd.f6 rfl rfl rfl rfl rfl rfl rfl ⟨rfl, rfl, rfl, rfl, rfl⟩ rfl rfl rfl rfl rfl (by kernel_rfl) Tryd.func6 (by kernel_rfl)
    (of_decide_eq_true (by kernel_rfl)) (by unfold Func.isWrapper; first | (rw [if_pos (by decide +kernel)]; kernel_rfl) | (rw [if_neg (by decide +kernel)]; exact ⟨rfl, rfl⟩))
    (fun os started H enc _ => lifted os started H enc)
theorem proved : Rows.FnExactShowWorldCardSaid :=
  Claim7.holds_tied_plain_at .later [] [.data, .data, .data] true (true, "bcb3b7472f203badeca4134a2aab41fbb5695a669b37ddb11b6de8faedaf186b") false
    over (fun _ h => by cases h) (by kernel_rfl) (fun _ h => by cases h) fnExactShowWorld_row_tie rfl ⟨rfl, rfl⟩ (by kernel_rfl) rfl
    (fun f fn hf hfn => by
      obtain rfl : f = 6 := Option.some.inj ((show Tryd.prog.funcNamed "loop.example/g00466/laws.FnExactShowWorld" = some 6 by kernel_rfl).symm.trans hf) |>.symm
      obtain rfl : fn = Tryd.f6 := (Option.some.inj (Tryd.func6.symm.trans hfn)).symm
      exact ⟨by kernel_rfl, fun j t ht => by
        rw [Tryd.params6] at ht
        have hm : t ∈ [69] := by simpa using Array.mem_of_getElem? ht
        have hall : ([69].all fun u => !Tryd.prog.wantsStandIn u) = true := by kernel_rfl
        exact (show Tryd.prog.wantsStandIn t = false by simpa using List.all_eq_true.1 hall t hm)⟩)
    (by kernel_rfl)
#print axioms proved
end Go.Proofs.YtfgmmklljibbiaaDoor.fnExactShowWorld
namespace Go.Proofs.YtfgmmklljibbiaaDoor
/-- The card, under a short name, for the claim. -/
theorem fnExactShowWorld_holds : Rows.FnExactShowWorldCardSaid := fnExactShowWorld.proved
end Go.Proofs.YtfgmmklljibbiaaDoor
