/-
  No cell of these rows narrows 'for every input' (looked for: loops, veiled, ifaces, maps, wideKeys, modest, calm, conditions, laid).
  DERIVED. THE GIVEN ROWS OF THIS SEAT. 8 by the template 'for every input the law returns true; each argument reads behind the call as it read before'; 0 by the template 'total and deterministic' (their statements: YtheeehbaholjmaaTotals.lean).
  GIVEN WITH THE SEED: the statements are not yours to turn. If you find one false, say at which input.
  Laid BY PROGRAM, IN A SANDBOX (cutbox-rows.mjs): the forced cells as the released guide's own fill.sh prints them over the translation 74afbf1ae9027330… (all of the seat's roots in one cut). By AI agents, Wed Nov 11 2026. No macro, syntax, notation, axiom, sorry.
-/
import Derived.Test.YtheeehbaholjmaaChecked
import GoSem.Claim
import GoSem.ClaimJoined
import GoSem.ClaimMapViews
import Derived.JoinedTies
import Derived.KernelRfl
namespace Go.Proofs.Ytheeehbaholjmaa
/- THE CELL 'sum', in the pinned program and in every row, IS THE sha256 OF THE DUMP (.gsa) THAT YtheeehbaholjmaaProg.lean LOADS. Nothing in Lean hashes anything: it is a label: what it is worth is what the hold of that sum in a sandbox is worth. -/
noncomputable def Try.pinned : Pinned := { name := "ytheeehbaholjmaa", sum := "74afbf1ae902733007d9c9ff499aeb0581adeeecc0a341b50aa92d75d9177e90", checked := Try.checked }
namespace Rows
def none {H : Type} : Left H := { results := [], args := [] }

/-- 'laws.FnExactPartText': WHATEVER THE INPUT: true; the input reads as it did. -/
def fnExactPartTextSpec : ChangeSpec := { name := "fnExactPartText", fn := fun _ => fun
  | [d] => { results := [.lit (.bool true)], args := [d] }
  | _ => none }
def fnExactPartTextRow : OpenClaim := { program := "ytheeehbaholjmaa", sum := "74afbf1ae902733007d9c9ff499aeb0581adeeecc0a341b50aa92d75d9177e90", func := "loop.example/g00466/laws.FnExactPartText", spec := "fnExactPartText", apart := false }
def FnExactPartTextSaid : Prop := fnExactPartTextRow.holds Try.pinned (OpenSpec.ofChange fnExactPartTextSpec)

/-- ITS FALSE NEIGHBOUR: 'it returns false'. Refute it at one input. -/
def fnExactPartTextWrong : ChangeSpec := { name := "fnExactPartText", fn := fun _ => fun
  | [d] => { results := [.lit (.bool false)], args := [d] }
  | _ => none }
def FnExactPartTextWrongFalsely : Prop := fnExactPartTextRow.holds Try.pinned (OpenSpec.ofChange fnExactPartTextWrong)

/-- 'laws.FnExactBoxWhole': WHATEVER THE INPUT: true; the input reads as it did. -/
def fnExactBoxWholeSpec : ChangeSpec := { name := "fnExactBoxWhole", fn := fun _ => fun
  | [d] => { results := [.lit (.bool true)], args := [d] }
  | _ => none }
def fnExactBoxWholeRow : OpenClaim := { program := "ytheeehbaholjmaa", sum := "74afbf1ae902733007d9c9ff499aeb0581adeeecc0a341b50aa92d75d9177e90", func := "loop.example/g00466/laws.FnExactBoxWhole", spec := "fnExactBoxWhole", apart := false }
def FnExactBoxWholeSaid : Prop := fnExactBoxWholeRow.holds Try.pinned (OpenSpec.ofChange fnExactBoxWholeSpec)

/-- ITS FALSE NEIGHBOUR: 'it returns false'. Refute it at one input. -/
def fnExactBoxWholeWrong : ChangeSpec := { name := "fnExactBoxWhole", fn := fun _ => fun
  | [d] => { results := [.lit (.bool false)], args := [d] }
  | _ => none }
def FnExactBoxWholeWrongFalsely : Prop := fnExactBoxWholeRow.holds Try.pinned (OpenSpec.ofChange fnExactBoxWholeWrong)

/-- 'laws.FnExactCutParts': WHATEVER THE INPUT: true; the input reads as it did. -/
def fnExactCutPartsSpec : ChangeSpec := { name := "fnExactCutParts", fn := fun _ => fun
  | [d1, d2, d3] => { results := [.lit (.bool true)], args := [d1, d2, d3] }
  | _ => none }
def fnExactCutPartsRow : OpenClaim := { program := "ytheeehbaholjmaa", sum := "74afbf1ae902733007d9c9ff499aeb0581adeeecc0a341b50aa92d75d9177e90", func := "loop.example/g00466/laws.FnExactCutParts", spec := "fnExactCutParts", apart := false }
def FnExactCutPartsSaid : Prop := fnExactCutPartsRow.holds Try.pinned (OpenSpec.ofChange fnExactCutPartsSpec)

/-- ITS FALSE NEIGHBOUR: 'it returns false'. Refute it at one input. -/
def fnExactCutPartsWrong : ChangeSpec := { name := "fnExactCutParts", fn := fun _ => fun
  | [d1, d2, d3] => { results := [.lit (.bool false)], args := [d1, d2, d3] }
  | _ => none }
def FnExactCutPartsWrongFalsely : Prop := fnExactCutPartsRow.holds Try.pinned (OpenSpec.ofChange fnExactCutPartsWrong)

/-- 'laws.FnPieces': WHATEVER THE INPUT: true; the input reads as it did. -/
def fnPiecesSpec : ChangeSpec := { name := "fnPieces", fn := fun _ => fun
  | [d] => { results := [.lit (.bool true)], args := [d] }
  | _ => none }
def fnPiecesRow : OpenClaim := { program := "ytheeehbaholjmaa", sum := "74afbf1ae902733007d9c9ff499aeb0581adeeecc0a341b50aa92d75d9177e90", func := "loop.example/g00466/laws.FnPieces", spec := "fnPieces", inPlace := ["internal/abi.NoEscape", "internal/bytealg.MakeNoZero"], apart := false }
def FnPiecesSaid : Prop := fnPiecesRow.holds Try.pinned (OpenSpec.ofChange fnPiecesSpec)

/-- ITS FALSE NEIGHBOUR: 'it returns false'. Refute it at one input. -/
def fnPiecesWrong : ChangeSpec := { name := "fnPieces", fn := fun _ => fun
  | [d] => { results := [.lit (.bool false)], args := [d] }
  | _ => none }
def FnPiecesWrongFalsely : Prop := fnPiecesRow.holds Try.pinned (OpenSpec.ofChange fnPiecesWrong)

/-- 'laws.FnExactReadPart': WHATEVER THE INPUT: true; the input reads as it did. -/
def fnExactReadPartSpec : ChangeSpec := { name := "fnExactReadPart", fn := fun _ => fun
  | [d] => { results := [.lit (.bool true)], args := [d] }
  | _ => none }
def fnExactReadPartRow : OpenClaim := { program := "ytheeehbaholjmaa", sum := "74afbf1ae902733007d9c9ff499aeb0581adeeecc0a341b50aa92d75d9177e90", func := "loop.example/g00466/laws.FnExactReadPart", spec := "fnExactReadPart", apart := false }
def FnExactReadPartSaid : Prop := fnExactReadPartRow.holds Try.pinned (OpenSpec.ofChange fnExactReadPartSpec)

/-- ITS FALSE NEIGHBOUR: 'it returns false'. Refute it at one input. -/
def fnExactReadPartWrong : ChangeSpec := { name := "fnExactReadPart", fn := fun _ => fun
  | [d] => { results := [.lit (.bool false)], args := [d] }
  | _ => none }
def FnExactReadPartWrongFalsely : Prop := fnExactReadPartRow.holds Try.pinned (OpenSpec.ofChange fnExactReadPartWrong)

/-- 'laws.FnExactBoxPut': WHATEVER THE INPUT: true; the input reads as it did. -/
def fnExactBoxPutSpec : ChangeSpec := { name := "fnExactBoxPut", fn := fun _ => fun
  | [d1, d2] => { results := [.lit (.bool true)], args := [d1, d2] }
  | _ => none }
def fnExactBoxPutRow : OpenClaim := { program := "ytheeehbaholjmaa", sum := "74afbf1ae902733007d9c9ff499aeb0581adeeecc0a341b50aa92d75d9177e90", func := "loop.example/g00466/laws.FnExactBoxPut", spec := "fnExactBoxPut", apart := false }
def FnExactBoxPutSaid : Prop := fnExactBoxPutRow.holds Try.pinned (OpenSpec.ofChange fnExactBoxPutSpec)

/-- ITS FALSE NEIGHBOUR: 'it returns false'. Refute it at one input. -/
def fnExactBoxPutWrong : ChangeSpec := { name := "fnExactBoxPut", fn := fun _ => fun
  | [d1, d2] => { results := [.lit (.bool false)], args := [d1, d2] }
  | _ => none }
def FnExactBoxPutWrongFalsely : Prop := fnExactBoxPutRow.holds Try.pinned (OpenSpec.ofChange fnExactBoxPutWrong)

/-- 'laws.FnExactBoxOf': WHATEVER THE INPUT: true; the input reads as it did. -/
def fnExactBoxOfSpec : ChangeSpec := { name := "fnExactBoxOf", fn := fun _ => fun
  | [d] => { results := [.lit (.bool true)], args := [d] }
  | _ => none }
def fnExactBoxOfRow : OpenClaim := { program := "ytheeehbaholjmaa", sum := "74afbf1ae902733007d9c9ff499aeb0581adeeecc0a341b50aa92d75d9177e90", func := "loop.example/g00466/laws.FnExactBoxOf", spec := "fnExactBoxOf", inPlace := ["internal/abi.NoEscape", "internal/bytealg.MakeNoZero"], apart := false }
def FnExactBoxOfSaid : Prop := fnExactBoxOfRow.holds Try.pinned (OpenSpec.ofChange fnExactBoxOfSpec)

/-- ITS FALSE NEIGHBOUR: 'it returns false'. Refute it at one input. -/
def fnExactBoxOfWrong : ChangeSpec := { name := "fnExactBoxOf", fn := fun _ => fun
  | [d] => { results := [.lit (.bool false)], args := [d] }
  | _ => none }
def FnExactBoxOfWrongFalsely : Prop := fnExactBoxOfRow.holds Try.pinned (OpenSpec.ofChange fnExactBoxOfWrong)

/-- 'laws.FnPiecesTold': WHATEVER THE INPUT: true; the input reads as it did. -/
def fnPiecesToldSpec : ChangeSpec := { name := "fnPiecesTold", fn := fun _ => fun
  | [d] => { results := [.lit (.bool true)], args := [d] }
  | _ => none }
def fnPiecesToldRow : OpenClaim := { program := "ytheeehbaholjmaa", sum := "74afbf1ae902733007d9c9ff499aeb0581adeeecc0a341b50aa92d75d9177e90", func := "loop.example/g00466/laws.FnPiecesTold", spec := "fnPiecesTold", inPlace := ["internal/abi.NoEscape", "internal/bytealg.MakeNoZero"], apart := false }
def FnPiecesToldSaid : Prop := fnPiecesToldRow.holds Try.pinned (OpenSpec.ofChange fnPiecesToldSpec)

/-- ITS FALSE NEIGHBOUR: 'it returns false'. Refute it at one input. -/
def fnPiecesToldWrong : ChangeSpec := { name := "fnPiecesTold", fn := fun _ => fun
  | [d] => { results := [.lit (.bool false)], args := [d] }
  | _ => none }
def FnPiecesToldWrongFalsely : Prop := fnPiecesToldRow.holds Try.pinned (OpenSpec.ofChange fnPiecesToldWrong)

/- THE SECOND FORM. 'bulk': how many values and letters a reading holds, each counted each time it is reached (what is shared counts as often as it is met; a slice's spare places count too). A statement '..UptoSaid' is the law's where the arguments, and the package variables that the reading takes, are together of bulk at most 1048576: NARROWER than '..Said'. Prove '..Said' where nothing that the law and all that it calls make is longer than what came in: it says more and counts as full. Else prove '..UptoSaid'. A law counts once. -/
mutual
def uptoBulk {H : Type} : DataW H → Nat
  | .lit (.string bytes) => bytes.length + 1
  | .lit _ => 1
  | .nil => 1
  | .ptr d => uptoBulk d + 1
  | .slice elems spare => uptoBulkAll elems + uptoBulkAll spare + 1
  | .agg parts => uptoBulkAll parts + 1
  | .iface _ d => uptoBulk d + 1
  | .map entries => uptoBulkEntries entries + 1
  | .held _ => 1
def uptoBulkAll {H : Type} : List (DataW H) → Nat
  | [] => 0
  | d :: r => uptoBulk d + uptoBulkAll r
def uptoBulkEntries {H : Type} : List (Lit × DataW H) → Nat
  | [] => 0
  | x :: r => uptoBulkEntry x + uptoBulkEntries r
def uptoBulkEntry {H : Type} : Lit × DataW H → Nat
  | (.string bytes, d) => bytes.length + uptoBulk d + 1
  | (_, d) => uptoBulk d + 1
 end
def uptoSmall : (H : Type) → List (DataW H) → Bool := fun _ ds => decide (uptoBulkAll ds ≤ 1048576)
def OpenSpec.upto (s : _root_.Go.ChangeSpec) : _root_.Go.OpenSpec := { _root_.Go.OpenSpec.ofChange s with cond := some uptoSmall }

/-- 'laws.FnExactPartText', WHERE WHAT IT READS IS OF BULK AT MOST 1048576: true; the input reads as it did. -/
def fnExactPartTextUptoRow : OpenClaim := { program := "ytheeehbaholjmaa", sum := "74afbf1ae902733007d9c9ff499aeb0581adeeecc0a341b50aa92d75d9177e90", func := "loop.example/g00466/laws.FnExactPartText", spec := "fnExactPartText", apart := false, narrowed := true }
def FnExactPartTextUptoSaid : Prop := fnExactPartTextUptoRow.holds Try.pinned (OpenSpec.upto fnExactPartTextSpec)

/-- 'laws.FnExactBoxWhole', WHERE WHAT IT READS IS OF BULK AT MOST 1048576: true; the input reads as it did. -/
def fnExactBoxWholeUptoRow : OpenClaim := { program := "ytheeehbaholjmaa", sum := "74afbf1ae902733007d9c9ff499aeb0581adeeecc0a341b50aa92d75d9177e90", func := "loop.example/g00466/laws.FnExactBoxWhole", spec := "fnExactBoxWhole", apart := false, narrowed := true }
def FnExactBoxWholeUptoSaid : Prop := fnExactBoxWholeUptoRow.holds Try.pinned (OpenSpec.upto fnExactBoxWholeSpec)

/-- 'laws.FnExactCutParts', WHERE WHAT IT READS IS OF BULK AT MOST 1048576: true; the input reads as it did. -/
def fnExactCutPartsUptoRow : OpenClaim := { program := "ytheeehbaholjmaa", sum := "74afbf1ae902733007d9c9ff499aeb0581adeeecc0a341b50aa92d75d9177e90", func := "loop.example/g00466/laws.FnExactCutParts", spec := "fnExactCutParts", apart := false, narrowed := true }
def FnExactCutPartsUptoSaid : Prop := fnExactCutPartsUptoRow.holds Try.pinned (OpenSpec.upto fnExactCutPartsSpec)

/-- 'laws.FnPieces', WHERE WHAT IT READS IS OF BULK AT MOST 1048576: true; the input reads as it did. -/
def fnPiecesUptoRow : OpenClaim := { program := "ytheeehbaholjmaa", sum := "74afbf1ae902733007d9c9ff499aeb0581adeeecc0a341b50aa92d75d9177e90", func := "loop.example/g00466/laws.FnPieces", spec := "fnPieces", inPlace := ["internal/abi.NoEscape", "internal/bytealg.MakeNoZero"], apart := false, narrowed := true }
def FnPiecesUptoSaid : Prop := fnPiecesUptoRow.holds Try.pinned (OpenSpec.upto fnPiecesSpec)

/-- 'laws.FnExactReadPart', WHERE WHAT IT READS IS OF BULK AT MOST 1048576: true; the input reads as it did. -/
def fnExactReadPartUptoRow : OpenClaim := { program := "ytheeehbaholjmaa", sum := "74afbf1ae902733007d9c9ff499aeb0581adeeecc0a341b50aa92d75d9177e90", func := "loop.example/g00466/laws.FnExactReadPart", spec := "fnExactReadPart", apart := false, narrowed := true }
def FnExactReadPartUptoSaid : Prop := fnExactReadPartUptoRow.holds Try.pinned (OpenSpec.upto fnExactReadPartSpec)

/-- 'laws.FnExactBoxPut', WHERE WHAT IT READS IS OF BULK AT MOST 1048576: true; the input reads as it did. -/
def fnExactBoxPutUptoRow : OpenClaim := { program := "ytheeehbaholjmaa", sum := "74afbf1ae902733007d9c9ff499aeb0581adeeecc0a341b50aa92d75d9177e90", func := "loop.example/g00466/laws.FnExactBoxPut", spec := "fnExactBoxPut", apart := false, narrowed := true }
def FnExactBoxPutUptoSaid : Prop := fnExactBoxPutUptoRow.holds Try.pinned (OpenSpec.upto fnExactBoxPutSpec)

/-- 'laws.FnExactBoxOf', WHERE WHAT IT READS IS OF BULK AT MOST 1048576: true; the input reads as it did. -/
def fnExactBoxOfUptoRow : OpenClaim := { program := "ytheeehbaholjmaa", sum := "74afbf1ae902733007d9c9ff499aeb0581adeeecc0a341b50aa92d75d9177e90", func := "loop.example/g00466/laws.FnExactBoxOf", spec := "fnExactBoxOf", inPlace := ["internal/abi.NoEscape", "internal/bytealg.MakeNoZero"], apart := false, narrowed := true }
def FnExactBoxOfUptoSaid : Prop := fnExactBoxOfUptoRow.holds Try.pinned (OpenSpec.upto fnExactBoxOfSpec)

/-- 'laws.FnPiecesTold', WHERE WHAT IT READS IS OF BULK AT MOST 1048576: true; the input reads as it did. -/
def fnPiecesToldUptoRow : OpenClaim := { program := "ytheeehbaholjmaa", sum := "74afbf1ae902733007d9c9ff499aeb0581adeeecc0a341b50aa92d75d9177e90", func := "loop.example/g00466/laws.FnPiecesTold", spec := "fnPiecesTold", inPlace := ["internal/abi.NoEscape", "internal/bytealg.MakeNoZero"], apart := false, narrowed := true }
def FnPiecesToldUptoSaid : Prop := fnPiecesToldUptoRow.holds Try.pinned (OpenSpec.upto fnPiecesToldSpec)

end Rows
end Go.Proofs.Ytheeehbaholjmaa
