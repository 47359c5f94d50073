/-
  No cell of these rows narrows 'for every input' (looked for: loops, veiled, ifaces, maps, wideKeys, modest, calm, conditions, laid).
  DERIVED. THE GIVEN ROWS OF THIS SEAT. 6 by the template 'for every input the law returns true; each argument reads behind the call as it read before'; 0 by the template 'total and deterministic' (their statements: YtjpgddjhfaoplaaTotals.lean).
  GIVEN WITH THE SEED: the statements are not yours to turn. If you find one false, say at which input.
  Laid BY PROGRAM, IN A SANDBOX (cutbox-rows.mjs): the forced cells as the released guide's own fill.sh prints them over the translation e1ec8123cab01b51… (all of the seat's roots in one cut). By AI agents, Wed Nov 11 2026. No macro, syntax, notation, axiom, sorry.
-/
import Derived.Test.YtjpgddjhfaoplaaChecked
import GoSem.Claim
import GoSem.ClaimJoined
import GoSem.ClaimMapViews
import Derived.JoinedTies
import Derived.KernelRfl
namespace Go.Proofs.Ytjpgddjhfaoplaa
/- THE CELL 'sum', in the pinned program and in every row, IS THE sha256 OF THE DUMP (.gsa) THAT YtjpgddjhfaoplaaProg.lean LOADS. Nothing in Lean hashes anything: it is a label: what it is worth is what the hold of that sum in a sandbox is worth. -/
noncomputable def Try.pinned : Pinned := { name := "ytjpgddjhfaoplaa", sum := "e1ec8123cab01b51534bb0001a157e6659a3211637e9982251aa712675944181", checked := Try.checked }
namespace Rows
def none {H : Type} : Left H := { results := [], args := [] }

/-- 'laws.FnKeysOf': WHATEVER THE INPUT: true; the input reads as it did. -/
def fnKeysOfSpec : ChangeSpec := { name := "fnKeysOf", fn := fun _ => fun
  | [d] => { results := [.lit (.bool true)], args := [d] }
  | _ => none }
def fnKeysOfRow : OpenClaim := { program := "ytjpgddjhfaoplaa", sum := "e1ec8123cab01b51534bb0001a157e6659a3211637e9982251aa712675944181", func := "loop.example/g00466/laws.FnKeysOf", spec := "fnKeysOf", inPlace := ["internal/abi.NoEscape", "internal/bytealg.MakeNoZero"], apart := false }
def FnKeysOfSaid : Prop := fnKeysOfRow.holds Try.pinned (OpenSpec.ofChange fnKeysOfSpec)

/-- ITS FALSE NEIGHBOUR: 'it returns false'. Refute it at one input. -/
def fnKeysOfWrong : ChangeSpec := { name := "fnKeysOf", fn := fun _ => fun
  | [d] => { results := [.lit (.bool false)], args := [d] }
  | _ => none }
def FnKeysOfWrongFalsely : Prop := fnKeysOfRow.holds Try.pinned (OpenSpec.ofChange fnKeysOfWrong)

/-- 'laws.FnExactExpanded': WHATEVER THE INPUT: true; the input reads as it did. -/
def fnExactExpandedSpec : ChangeSpec := { name := "fnExactExpanded", fn := fun _ => fun
  | [d1, d2, d3] => { results := [.lit (.bool true)], args := [d1, d2, d3] }
  | _ => none }
def fnExactExpandedRow : OpenClaim := { program := "ytjpgddjhfaoplaa", sum := "e1ec8123cab01b51534bb0001a157e6659a3211637e9982251aa712675944181", func := "loop.example/g00466/laws.FnExactExpanded", spec := "fnExactExpanded", inPlace := ["internal/abi.NoEscape", "internal/bytealg.MakeNoZero"], apart := false }
def FnExactExpandedSaid : Prop := fnExactExpandedRow.holds Try.pinned (OpenSpec.ofChange fnExactExpandedSpec)

/-- ITS FALSE NEIGHBOUR: 'it returns false'. Refute it at one input. -/
def fnExactExpandedWrong : ChangeSpec := { name := "fnExactExpanded", fn := fun _ => fun
  | [d1, d2, d3] => { results := [.lit (.bool false)], args := [d1, d2, d3] }
  | _ => none }
def FnExactExpandedWrongFalsely : Prop := fnExactExpandedRow.holds Try.pinned (OpenSpec.ofChange fnExactExpandedWrong)

/-- 'laws.FnExactExpandedLabel': WHATEVER THE INPUT: true; the input reads as it did. -/
def fnExactExpandedLabelSpec : ChangeSpec := { name := "fnExactExpandedLabel", fn := fun _ => fun
  | [d1, d2, d3, d4] => { results := [.lit (.bool true)], args := [d1, d2, d3, d4] }
  | _ => none }
def fnExactExpandedLabelRow : OpenClaim := { program := "ytjpgddjhfaoplaa", sum := "e1ec8123cab01b51534bb0001a157e6659a3211637e9982251aa712675944181", func := "loop.example/g00466/laws.FnExactExpandedLabel", spec := "fnExactExpandedLabel", inPlace := ["internal/abi.NoEscape", "internal/bytealg.MakeNoZero"], apart := false }
def FnExactExpandedLabelSaid : Prop := fnExactExpandedLabelRow.holds Try.pinned (OpenSpec.ofChange fnExactExpandedLabelSpec)

/-- ITS FALSE NEIGHBOUR: 'it returns false'. Refute it at one input. -/
def fnExactExpandedLabelWrong : ChangeSpec := { name := "fnExactExpandedLabel", fn := fun _ => fun
  | [d1, d2, d3, d4] => { results := [.lit (.bool false)], args := [d1, d2, d3, d4] }
  | _ => none }
def FnExactExpandedLabelWrongFalsely : Prop := fnExactExpandedLabelRow.holds Try.pinned (OpenSpec.ofChange fnExactExpandedLabelWrong)

/-- 'laws.FnExactDerivedSecret': WHATEVER THE INPUT: true; the input reads as it did. -/
def fnExactDerivedSecretSpec : ChangeSpec := { name := "fnExactDerivedSecret", fn := fun _ => fun
  | [d1, d2, d3] => { results := [.lit (.bool true)], args := [d1, d2, d3] }
  | _ => none }
def fnExactDerivedSecretRow : OpenClaim := { program := "ytjpgddjhfaoplaa", sum := "e1ec8123cab01b51534bb0001a157e6659a3211637e9982251aa712675944181", func := "loop.example/g00466/laws.FnExactDerivedSecret", spec := "fnExactDerivedSecret", inPlace := ["internal/abi.NoEscape", "internal/bytealg.MakeNoZero"], apart := false }
def FnExactDerivedSecretSaid : Prop := fnExactDerivedSecretRow.holds Try.pinned (OpenSpec.ofChange fnExactDerivedSecretSpec)

/-- ITS FALSE NEIGHBOUR: 'it returns false'. Refute it at one input. -/
def fnExactDerivedSecretWrong : ChangeSpec := { name := "fnExactDerivedSecret", fn := fun _ => fun
  | [d1, d2, d3] => { results := [.lit (.bool false)], args := [d1, d2, d3] }
  | _ => none }
def FnExactDerivedSecretWrongFalsely : Prop := fnExactDerivedSecretRow.holds Try.pinned (OpenSpec.ofChange fnExactDerivedSecretWrong)

/-- 'laws.FnExactKeysOf': WHATEVER THE INPUT: true; the input reads as it did. -/
def fnExactKeysOfSpec : ChangeSpec := { name := "fnExactKeysOf", fn := fun _ => fun
  | [d] => { results := [.lit (.bool true)], args := [d] }
  | _ => none }
def fnExactKeysOfRow : OpenClaim := { program := "ytjpgddjhfaoplaa", sum := "e1ec8123cab01b51534bb0001a157e6659a3211637e9982251aa712675944181", func := "loop.example/g00466/laws.FnExactKeysOf", spec := "fnExactKeysOf", inPlace := ["internal/abi.NoEscape", "internal/bytealg.MakeNoZero"], apart := false }
def FnExactKeysOfSaid : Prop := fnExactKeysOfRow.holds Try.pinned (OpenSpec.ofChange fnExactKeysOfSpec)

/-- ITS FALSE NEIGHBOUR: 'it returns false'. Refute it at one input. -/
def fnExactKeysOfWrong : ChangeSpec := { name := "fnExactKeysOf", fn := fun _ => fun
  | [d] => { results := [.lit (.bool false)], args := [d] }
  | _ => none }
def FnExactKeysOfWrongFalsely : Prop := fnExactKeysOfRow.holds Try.pinned (OpenSpec.ofChange fnExactKeysOfWrong)

/-- 'laws.FnKeysTold': WHATEVER THE INPUT: true; the input reads as it did. -/
def fnKeysToldSpec : ChangeSpec := { name := "fnKeysTold", fn := fun _ => fun
  | [d] => { results := [.lit (.bool true)], args := [d] }
  | _ => none }
def fnKeysToldRow : OpenClaim := { program := "ytjpgddjhfaoplaa", sum := "e1ec8123cab01b51534bb0001a157e6659a3211637e9982251aa712675944181", func := "loop.example/g00466/laws.FnKeysTold", spec := "fnKeysTold", inPlace := ["internal/abi.NoEscape", "internal/bytealg.MakeNoZero"], apart := false }
def FnKeysToldSaid : Prop := fnKeysToldRow.holds Try.pinned (OpenSpec.ofChange fnKeysToldSpec)

/-- ITS FALSE NEIGHBOUR: 'it returns false'. Refute it at one input. -/
def fnKeysToldWrong : ChangeSpec := { name := "fnKeysTold", fn := fun _ => fun
  | [d] => { results := [.lit (.bool false)], args := [d] }
  | _ => none }
def FnKeysToldWrongFalsely : Prop := fnKeysToldRow.holds Try.pinned (OpenSpec.ofChange fnKeysToldWrong)

/- THE SECOND FORM. 'bulk': how many values and letters a reading holds, each counted each time it is reached (what is shared counts as often as it is met; a slice's spare places count too). A statement '..UptoSaid' is the law's where the arguments, and the package variables that the reading takes, are together of bulk at most 1048576: NARROWER than '..Said'. Prove '..Said' where nothing that the law and all that it calls make is longer than what came in: it says more and counts as full. Else prove '..UptoSaid'. A law counts once. -/
mutual
def uptoBulk {H : Type} : DataW H → Nat
  | .lit (.string bytes) => bytes.length + 1
  | .lit _ => 1
  | .nil => 1
  | .ptr d => uptoBulk d + 1
  | .slice elems spare => uptoBulkAll elems + uptoBulkAll spare + 1
  | .agg parts => uptoBulkAll parts + 1
  | .iface _ d => uptoBulk d + 1
  | .map entries => uptoBulkEntries entries + 1
  | .held _ => 1
def uptoBulkAll {H : Type} : List (DataW H) → Nat
  | [] => 0
  | d :: r => uptoBulk d + uptoBulkAll r
def uptoBulkEntries {H : Type} : List (Lit × DataW H) → Nat
  | [] => 0
  | x :: r => uptoBulkEntry x + uptoBulkEntries r
def uptoBulkEntry {H : Type} : Lit × DataW H → Nat
  | (.string bytes, d) => bytes.length + uptoBulk d + 1
  | (_, d) => uptoBulk d + 1
 end
def uptoSmall : (H : Type) → List (DataW H) → Bool := fun _ ds => decide (uptoBulkAll ds ≤ 1048576)
def OpenSpec.upto (s : _root_.Go.ChangeSpec) : _root_.Go.OpenSpec := { _root_.Go.OpenSpec.ofChange s with cond := some uptoSmall }

/-- 'laws.FnKeysOf', WHERE WHAT IT READS IS OF BULK AT MOST 1048576: true; the input reads as it did. -/
def fnKeysOfUptoRow : OpenClaim := { program := "ytjpgddjhfaoplaa", sum := "e1ec8123cab01b51534bb0001a157e6659a3211637e9982251aa712675944181", func := "loop.example/g00466/laws.FnKeysOf", spec := "fnKeysOf", inPlace := ["internal/abi.NoEscape", "internal/bytealg.MakeNoZero"], apart := false, narrowed := true }
def FnKeysOfUptoSaid : Prop := fnKeysOfUptoRow.holds Try.pinned (OpenSpec.upto fnKeysOfSpec)

/-- 'laws.FnExactExpanded', WHERE WHAT IT READS IS OF BULK AT MOST 1048576: true; the input reads as it did. -/
def fnExactExpandedUptoRow : OpenClaim := { program := "ytjpgddjhfaoplaa", sum := "e1ec8123cab01b51534bb0001a157e6659a3211637e9982251aa712675944181", func := "loop.example/g00466/laws.FnExactExpanded", spec := "fnExactExpanded", inPlace := ["internal/abi.NoEscape", "internal/bytealg.MakeNoZero"], apart := false, narrowed := true }
def FnExactExpandedUptoSaid : Prop := fnExactExpandedUptoRow.holds Try.pinned (OpenSpec.upto fnExactExpandedSpec)

/-- 'laws.FnExactExpandedLabel', WHERE WHAT IT READS IS OF BULK AT MOST 1048576: true; the input reads as it did. -/
def fnExactExpandedLabelUptoRow : OpenClaim := { program := "ytjpgddjhfaoplaa", sum := "e1ec8123cab01b51534bb0001a157e6659a3211637e9982251aa712675944181", func := "loop.example/g00466/laws.FnExactExpandedLabel", spec := "fnExactExpandedLabel", inPlace := ["internal/abi.NoEscape", "internal/bytealg.MakeNoZero"], apart := false, narrowed := true }
def FnExactExpandedLabelUptoSaid : Prop := fnExactExpandedLabelUptoRow.holds Try.pinned (OpenSpec.upto fnExactExpandedLabelSpec)

/-- 'laws.FnExactDerivedSecret', WHERE WHAT IT READS IS OF BULK AT MOST 1048576: true; the input reads as it did. -/
def fnExactDerivedSecretUptoRow : OpenClaim := { program := "ytjpgddjhfaoplaa", sum := "e1ec8123cab01b51534bb0001a157e6659a3211637e9982251aa712675944181", func := "loop.example/g00466/laws.FnExactDerivedSecret", spec := "fnExactDerivedSecret", inPlace := ["internal/abi.NoEscape", "internal/bytealg.MakeNoZero"], apart := false, narrowed := true }
def FnExactDerivedSecretUptoSaid : Prop := fnExactDerivedSecretUptoRow.holds Try.pinned (OpenSpec.upto fnExactDerivedSecretSpec)

/-- 'laws.FnExactKeysOf', WHERE WHAT IT READS IS OF BULK AT MOST 1048576: true; the input reads as it did. -/
def fnExactKeysOfUptoRow : OpenClaim := { program := "ytjpgddjhfaoplaa", sum := "e1ec8123cab01b51534bb0001a157e6659a3211637e9982251aa712675944181", func := "loop.example/g00466/laws.FnExactKeysOf", spec := "fnExactKeysOf", inPlace := ["internal/abi.NoEscape", "internal/bytealg.MakeNoZero"], apart := false, narrowed := true }
def FnExactKeysOfUptoSaid : Prop := fnExactKeysOfUptoRow.holds Try.pinned (OpenSpec.upto fnExactKeysOfSpec)

/-- 'laws.FnKeysTold', WHERE WHAT IT READS IS OF BULK AT MOST 1048576: true; the input reads as it did. -/
def fnKeysToldUptoRow : OpenClaim := { program := "ytjpgddjhfaoplaa", sum := "e1ec8123cab01b51534bb0001a157e6659a3211637e9982251aa712675944181", func := "loop.example/g00466/laws.FnKeysTold", spec := "fnKeysTold", inPlace := ["internal/abi.NoEscape", "internal/bytealg.MakeNoZero"], apart := false, narrowed := true }
def FnKeysToldUptoSaid : Prop := fnKeysToldUptoRow.holds Try.pinned (OpenSpec.upto fnKeysToldSpec)

end Rows
end Go.Proofs.Ytjpgddjhfaoplaa
