/-
  No cell of these rows narrows 'for every input' (looked for: loops, veiled, ifaces, maps, wideKeys, modest, calm, conditions, laid).
  DERIVED. THE GIVEN ROWS OF THIS SEAT. 12 by the template 'for every input the law returns true; each argument reads behind the call as it read before'; 0 by the template 'total and deterministic' (their statements: YtlaejadiklaaeaaTotals.lean).
  GIVEN WITH THE SEED: the statements are not yours to turn. If you find one false, say at which input.
  Laid BY PROGRAM, IN A SANDBOX (cutbox-rows.mjs): the forced cells as the released guide's own fill.sh prints them over the translation 4b024d6e2e30f824… (all of the seat's roots in one cut). By AI agents, Wed Nov 11 2026. No macro, syntax, notation, axiom, sorry.
-/
import Derived.Test.YtlaejadiklaaeaaChecked
import GoSem.Claim
import GoSem.ClaimJoined
import GoSem.ClaimMapViews
import Derived.JoinedTies
import Derived.KernelRfl
namespace Go.Proofs.Ytlaejadiklaaeaa
/- THE CELL 'sum', in the pinned program and in every row, IS THE sha256 OF THE DUMP (.gsa) THAT YtlaejadiklaaeaaProg.lean LOADS. Nothing in Lean hashes anything: it is a label: what it is worth is what the hold of that sum in a sandbox is worth. -/
noncomputable def Try.pinned : Pinned := { name := "ytlaejadiklaaeaa", sum := "4b024d6e2e30f8248e6a1233ff26d52bd41369c5ba16b154a0e01abbb587d97a", checked := Try.checked }
namespace Rows
def none {H : Type} : Left H := { results := [], args := [] }

/-- 'laws.FnExactPadText': WHATEVER THE INPUT: true; the input reads as it did. -/
def fnExactPadTextSpec : ChangeSpec := { name := "fnExactPadText", fn := fun _ => fun
  | [d] => { results := [.lit (.bool true)], args := [d] }
  | _ => none }
def fnExactPadTextRow : OpenClaim := { program := "ytlaejadiklaaeaa", sum := "4b024d6e2e30f8248e6a1233ff26d52bd41369c5ba16b154a0e01abbb587d97a", func := "loop.example/g00466/laws.FnExactPadText", spec := "fnExactPadText", inPlace := ["internal/abi.NoEscape", "internal/bytealg.MakeNoZero"], apart := false }
def FnExactPadTextSaid : Prop := fnExactPadTextRow.holds Try.pinned (OpenSpec.ofChange fnExactPadTextSpec)

/-- ITS FALSE NEIGHBOUR: 'it returns false'. Refute it at one input. -/
def fnExactPadTextWrong : ChangeSpec := { name := "fnExactPadText", fn := fun _ => fun
  | [d] => { results := [.lit (.bool false)], args := [d] }
  | _ => none }
def FnExactPadTextWrongFalsely : Prop := fnExactPadTextRow.holds Try.pinned (OpenSpec.ofChange fnExactPadTextWrong)

/-- 'laws.FnKnown': WHATEVER THE INPUT: true; the input reads as it did. -/
def fnKnownSpec : ChangeSpec := { name := "fnKnown", fn := fun _ => fun
  | [d] => { results := [.lit (.bool true)], args := [d] }
  | _ => none }
def fnKnownRow : OpenClaim := { program := "ytlaejadiklaaeaa", sum := "4b024d6e2e30f8248e6a1233ff26d52bd41369c5ba16b154a0e01abbb587d97a", func := "loop.example/g00466/laws.FnKnown", spec := "fnKnown", inPlace := ["internal/abi.NoEscape", "internal/bytealg.MakeNoZero"], apart := false }
def FnKnownSaid : Prop := fnKnownRow.holds Try.pinned (OpenSpec.ofChange fnKnownSpec)

/-- ITS FALSE NEIGHBOUR: 'it returns false'. Refute it at one input. -/
def fnKnownWrong : ChangeSpec := { name := "fnKnown", fn := fun _ => fun
  | [d] => { results := [.lit (.bool false)], args := [d] }
  | _ => none }
def FnKnownWrongFalsely : Prop := fnKnownRow.holds Try.pinned (OpenSpec.ofChange fnKnownWrong)

/-- 'laws.FnExactDigest': WHATEVER THE INPUT: true; the input reads as it did. -/
def fnExactDigestSpec : ChangeSpec := { name := "fnExactDigest", fn := fun _ => fun
  | [d] => { results := [.lit (.bool true)], args := [d] }
  | _ => none }
def fnExactDigestRow : OpenClaim := { program := "ytlaejadiklaaeaa", sum := "4b024d6e2e30f8248e6a1233ff26d52bd41369c5ba16b154a0e01abbb587d97a", func := "loop.example/g00466/laws.FnExactDigest", spec := "fnExactDigest", inPlace := ["internal/abi.NoEscape", "internal/bytealg.MakeNoZero"], apart := false }
def FnExactDigestSaid : Prop := fnExactDigestRow.holds Try.pinned (OpenSpec.ofChange fnExactDigestSpec)

/-- ITS FALSE NEIGHBOUR: 'it returns false'. Refute it at one input. -/
def fnExactDigestWrong : ChangeSpec := { name := "fnExactDigest", fn := fun _ => fun
  | [d] => { results := [.lit (.bool false)], args := [d] }
  | _ => none }
def FnExactDigestWrongFalsely : Prop := fnExactDigestRow.holds Try.pinned (OpenSpec.ofChange fnExactDigestWrong)

/-- 'laws.FnExactCutDigest': WHATEVER THE INPUT: true; the input reads as it did. -/
def fnExactCutDigestSpec : ChangeSpec := { name := "fnExactCutDigest", fn := fun _ => fun
  | [d1, d2] => { results := [.lit (.bool true)], args := [d1, d2] }
  | _ => none }
def fnExactCutDigestRow : OpenClaim := { program := "ytlaejadiklaaeaa", sum := "4b024d6e2e30f8248e6a1233ff26d52bd41369c5ba16b154a0e01abbb587d97a", func := "loop.example/g00466/laws.FnExactCutDigest", spec := "fnExactCutDigest", inPlace := ["internal/abi.NoEscape", "internal/bytealg.MakeNoZero"], apart := false }
def FnExactCutDigestSaid : Prop := fnExactCutDigestRow.holds Try.pinned (OpenSpec.ofChange fnExactCutDigestSpec)

/-- ITS FALSE NEIGHBOUR: 'it returns false'. Refute it at one input. -/
def fnExactCutDigestWrong : ChangeSpec := { name := "fnExactCutDigest", fn := fun _ => fun
  | [d1, d2] => { results := [.lit (.bool false)], args := [d1, d2] }
  | _ => none }
def FnExactCutDigestWrongFalsely : Prop := fnExactCutDigestRow.holds Try.pinned (OpenSpec.ofChange fnExactCutDigestWrong)

/-- 'laws.FnExactHmacKey': WHATEVER THE INPUT: true; the input reads as it did. -/
def fnExactHmacKeySpec : ChangeSpec := { name := "fnExactHmacKey", fn := fun _ => fun
  | [d] => { results := [.lit (.bool true)], args := [d] }
  | _ => none }
def fnExactHmacKeyRow : OpenClaim := { program := "ytlaejadiklaaeaa", sum := "4b024d6e2e30f8248e6a1233ff26d52bd41369c5ba16b154a0e01abbb587d97a", func := "loop.example/g00466/laws.FnExactHmacKey", spec := "fnExactHmacKey", inPlace := ["internal/abi.NoEscape", "internal/bytealg.MakeNoZero"], apart := false }
def FnExactHmacKeySaid : Prop := fnExactHmacKeyRow.holds Try.pinned (OpenSpec.ofChange fnExactHmacKeySpec)

/-- ITS FALSE NEIGHBOUR: 'it returns false'. Refute it at one input. -/
def fnExactHmacKeyWrong : ChangeSpec := { name := "fnExactHmacKey", fn := fun _ => fun
  | [d] => { results := [.lit (.bool false)], args := [d] }
  | _ => none }
def FnExactHmacKeyWrongFalsely : Prop := fnExactHmacKeyRow.holds Try.pinned (OpenSpec.ofChange fnExactHmacKeyWrong)

/-- 'laws.FnExactDigestHex': WHATEVER THE INPUT: true; the input reads as it did. -/
def fnExactDigestHexSpec : ChangeSpec := { name := "fnExactDigestHex", fn := fun _ => fun
  | [d] => { results := [.lit (.bool true)], args := [d] }
  | _ => none }
def fnExactDigestHexRow : OpenClaim := { program := "ytlaejadiklaaeaa", sum := "4b024d6e2e30f8248e6a1233ff26d52bd41369c5ba16b154a0e01abbb587d97a", func := "loop.example/g00466/laws.FnExactDigestHex", spec := "fnExactDigestHex", inPlace := ["internal/abi.NoEscape", "internal/bytealg.MakeNoZero"], apart := false }
def FnExactDigestHexSaid : Prop := fnExactDigestHexRow.holds Try.pinned (OpenSpec.ofChange fnExactDigestHexSpec)

/-- ITS FALSE NEIGHBOUR: 'it returns false'. Refute it at one input. -/
def fnExactDigestHexWrong : ChangeSpec := { name := "fnExactDigestHex", fn := fun _ => fun
  | [d] => { results := [.lit (.bool false)], args := [d] }
  | _ => none }
def FnExactDigestHexWrongFalsely : Prop := fnExactDigestHexRow.holds Try.pinned (OpenSpec.ofChange fnExactDigestHexWrong)

/-- 'laws.FnExactHmac': WHATEVER THE INPUT: true; the input reads as it did. -/
def fnExactHmacSpec : ChangeSpec := { name := "fnExactHmac", fn := fun _ => fun
  | [d1, d2] => { results := [.lit (.bool true)], args := [d1, d2] }
  | _ => none }
def fnExactHmacRow : OpenClaim := { program := "ytlaejadiklaaeaa", sum := "4b024d6e2e30f8248e6a1233ff26d52bd41369c5ba16b154a0e01abbb587d97a", func := "loop.example/g00466/laws.FnExactHmac", spec := "fnExactHmac", inPlace := ["internal/abi.NoEscape", "internal/bytealg.MakeNoZero"], apart := false }
def FnExactHmacSaid : Prop := fnExactHmacRow.holds Try.pinned (OpenSpec.ofChange fnExactHmacSpec)

/-- ITS FALSE NEIGHBOUR: 'it returns false'. Refute it at one input. -/
def fnExactHmacWrong : ChangeSpec := { name := "fnExactHmac", fn := fun _ => fun
  | [d1, d2] => { results := [.lit (.bool false)], args := [d1, d2] }
  | _ => none }
def FnExactHmacWrongFalsely : Prop := fnExactHmacRow.holds Try.pinned (OpenSpec.ofChange fnExactHmacWrong)

/-- 'laws.FnExactExtracted': WHATEVER THE INPUT: true; the input reads as it did. -/
def fnExactExtractedSpec : ChangeSpec := { name := "fnExactExtracted", fn := fun _ => fun
  | [d1, d2] => { results := [.lit (.bool true)], args := [d1, d2] }
  | _ => none }
def fnExactExtractedRow : OpenClaim := { program := "ytlaejadiklaaeaa", sum := "4b024d6e2e30f8248e6a1233ff26d52bd41369c5ba16b154a0e01abbb587d97a", func := "loop.example/g00466/laws.FnExactExtracted", spec := "fnExactExtracted", inPlace := ["internal/abi.NoEscape", "internal/bytealg.MakeNoZero"], apart := false }
def FnExactExtractedSaid : Prop := fnExactExtractedRow.holds Try.pinned (OpenSpec.ofChange fnExactExtractedSpec)

/-- ITS FALSE NEIGHBOUR: 'it returns false'. Refute it at one input. -/
def fnExactExtractedWrong : ChangeSpec := { name := "fnExactExtracted", fn := fun _ => fun
  | [d1, d2] => { results := [.lit (.bool false)], args := [d1, d2] }
  | _ => none }
def FnExactExtractedWrongFalsely : Prop := fnExactExtractedRow.holds Try.pinned (OpenSpec.ofChange fnExactExtractedWrong)

/-- 'laws.FnExactHmacOk': WHATEVER THE INPUT: true; the input reads as it did. -/
def fnExactHmacOkSpec : ChangeSpec := { name := "fnExactHmacOk", fn := fun _ => fun
  | [d1, d2, d3] => { results := [.lit (.bool true)], args := [d1, d2, d3] }
  | _ => none }
def fnExactHmacOkRow : OpenClaim := { program := "ytlaejadiklaaeaa", sum := "4b024d6e2e30f8248e6a1233ff26d52bd41369c5ba16b154a0e01abbb587d97a", func := "loop.example/g00466/laws.FnExactHmacOk", spec := "fnExactHmacOk", inPlace := ["internal/abi.NoEscape", "internal/bytealg.MakeNoZero"], apart := false }
def FnExactHmacOkSaid : Prop := fnExactHmacOkRow.holds Try.pinned (OpenSpec.ofChange fnExactHmacOkSpec)

/-- ITS FALSE NEIGHBOUR: 'it returns false'. Refute it at one input. -/
def fnExactHmacOkWrong : ChangeSpec := { name := "fnExactHmacOk", fn := fun _ => fun
  | [d1, d2, d3] => { results := [.lit (.bool false)], args := [d1, d2, d3] }
  | _ => none }
def FnExactHmacOkWrongFalsely : Prop := fnExactHmacOkRow.holds Try.pinned (OpenSpec.ofChange fnExactHmacOkWrong)

/-- 'laws.FnDigestTurned': WHATEVER THE INPUT: true; the input reads as it did. -/
def fnDigestTurnedSpec : ChangeSpec := { name := "fnDigestTurned", fn := fun _ => fun
  | [d] => { results := [.lit (.bool true)], args := [d] }
  | _ => none }
def fnDigestTurnedRow : OpenClaim := { program := "ytlaejadiklaaeaa", sum := "4b024d6e2e30f8248e6a1233ff26d52bd41369c5ba16b154a0e01abbb587d97a", func := "loop.example/g00466/laws.FnDigestTurned", spec := "fnDigestTurned", inPlace := ["internal/abi.NoEscape", "internal/bytealg.MakeNoZero"], apart := false }
def FnDigestTurnedSaid : Prop := fnDigestTurnedRow.holds Try.pinned (OpenSpec.ofChange fnDigestTurnedSpec)

/-- ITS FALSE NEIGHBOUR: 'it returns false'. Refute it at one input. -/
def fnDigestTurnedWrong : ChangeSpec := { name := "fnDigestTurned", fn := fun _ => fun
  | [d] => { results := [.lit (.bool false)], args := [d] }
  | _ => none }
def FnDigestTurnedWrongFalsely : Prop := fnDigestTurnedRow.holds Try.pinned (OpenSpec.ofChange fnDigestTurnedWrong)

/-- 'laws.FnBlocks': WHATEVER THE INPUT: true; the input reads as it did. -/
def fnBlocksSpec : ChangeSpec := { name := "fnBlocks", fn := fun _ => fun
  | [d] => { results := [.lit (.bool true)], args := [d] }
  | _ => none }
def fnBlocksRow : OpenClaim := { program := "ytlaejadiklaaeaa", sum := "4b024d6e2e30f8248e6a1233ff26d52bd41369c5ba16b154a0e01abbb587d97a", func := "loop.example/g00466/laws.FnBlocks", spec := "fnBlocks", inPlace := ["internal/abi.NoEscape", "internal/bytealg.MakeNoZero"], apart := false }
def FnBlocksSaid : Prop := fnBlocksRow.holds Try.pinned (OpenSpec.ofChange fnBlocksSpec)

/-- ITS FALSE NEIGHBOUR: 'it returns false'. Refute it at one input. -/
def fnBlocksWrong : ChangeSpec := { name := "fnBlocks", fn := fun _ => fun
  | [d] => { results := [.lit (.bool false)], args := [d] }
  | _ => none }
def FnBlocksWrongFalsely : Prop := fnBlocksRow.holds Try.pinned (OpenSpec.ofChange fnBlocksWrong)

/-- 'laws.FnMarks': WHATEVER THE INPUT: true; the input reads as it did. -/
def fnMarksSpec : ChangeSpec := { name := "fnMarks", fn := fun _ => fun
  | [d] => { results := [.lit (.bool true)], args := [d] }
  | _ => none }
def fnMarksRow : OpenClaim := { program := "ytlaejadiklaaeaa", sum := "4b024d6e2e30f8248e6a1233ff26d52bd41369c5ba16b154a0e01abbb587d97a", func := "loop.example/g00466/laws.FnMarks", spec := "fnMarks", inPlace := ["internal/abi.NoEscape", "internal/bytealg.MakeNoZero"], apart := false }
def FnMarksSaid : Prop := fnMarksRow.holds Try.pinned (OpenSpec.ofChange fnMarksSpec)

/-- ITS FALSE NEIGHBOUR: 'it returns false'. Refute it at one input. -/
def fnMarksWrong : ChangeSpec := { name := "fnMarks", fn := fun _ => fun
  | [d] => { results := [.lit (.bool false)], args := [d] }
  | _ => none }
def FnMarksWrongFalsely : Prop := fnMarksRow.holds Try.pinned (OpenSpec.ofChange fnMarksWrong)

/- THE SECOND FORM. 'bulk': how many values and letters a reading holds, each counted each time it is reached (what is shared counts as often as it is met; a slice's spare places count too). A statement '..UptoSaid' is the law's where the arguments, and the package variables that the reading takes, are together of bulk at most 1048576: NARROWER than '..Said'. Prove '..Said' where nothing that the law and all that it calls make is longer than what came in: it says more and counts as full. Else prove '..UptoSaid'. A law counts once. -/
mutual
def uptoBulk {H : Type} : DataW H → Nat
  | .lit (.string bytes) => bytes.length + 1
  | .lit _ => 1
  | .nil => 1
  | .ptr d => uptoBulk d + 1
  | .slice elems spare => uptoBulkAll elems + uptoBulkAll spare + 1
  | .agg parts => uptoBulkAll parts + 1
  | .iface _ d => uptoBulk d + 1
  | .map entries => uptoBulkEntries entries + 1
  | .held _ => 1
def uptoBulkAll {H : Type} : List (DataW H) → Nat
  | [] => 0
  | d :: r => uptoBulk d + uptoBulkAll r
def uptoBulkEntries {H : Type} : List (Lit × DataW H) → Nat
  | [] => 0
  | x :: r => uptoBulkEntry x + uptoBulkEntries r
def uptoBulkEntry {H : Type} : Lit × DataW H → Nat
  | (.string bytes, d) => bytes.length + uptoBulk d + 1
  | (_, d) => uptoBulk d + 1
 end
def uptoSmall : (H : Type) → List (DataW H) → Bool := fun _ ds => decide (uptoBulkAll ds ≤ 1048576)
def OpenSpec.upto (s : _root_.Go.ChangeSpec) : _root_.Go.OpenSpec := { _root_.Go.OpenSpec.ofChange s with cond := some uptoSmall }

/-- 'laws.FnExactPadText', WHERE WHAT IT READS IS OF BULK AT MOST 1048576: true; the input reads as it did. -/
def fnExactPadTextUptoRow : OpenClaim := { program := "ytlaejadiklaaeaa", sum := "4b024d6e2e30f8248e6a1233ff26d52bd41369c5ba16b154a0e01abbb587d97a", func := "loop.example/g00466/laws.FnExactPadText", spec := "fnExactPadText", inPlace := ["internal/abi.NoEscape", "internal/bytealg.MakeNoZero"], apart := false, narrowed := true }
def FnExactPadTextUptoSaid : Prop := fnExactPadTextUptoRow.holds Try.pinned (OpenSpec.upto fnExactPadTextSpec)

/-- 'laws.FnKnown', WHERE WHAT IT READS IS OF BULK AT MOST 1048576: true; the input reads as it did. -/
def fnKnownUptoRow : OpenClaim := { program := "ytlaejadiklaaeaa", sum := "4b024d6e2e30f8248e6a1233ff26d52bd41369c5ba16b154a0e01abbb587d97a", func := "loop.example/g00466/laws.FnKnown", spec := "fnKnown", inPlace := ["internal/abi.NoEscape", "internal/bytealg.MakeNoZero"], apart := false, narrowed := true }
def FnKnownUptoSaid : Prop := fnKnownUptoRow.holds Try.pinned (OpenSpec.upto fnKnownSpec)

/-- 'laws.FnExactDigest', WHERE WHAT IT READS IS OF BULK AT MOST 1048576: true; the input reads as it did. -/
def fnExactDigestUptoRow : OpenClaim := { program := "ytlaejadiklaaeaa", sum := "4b024d6e2e30f8248e6a1233ff26d52bd41369c5ba16b154a0e01abbb587d97a", func := "loop.example/g00466/laws.FnExactDigest", spec := "fnExactDigest", inPlace := ["internal/abi.NoEscape", "internal/bytealg.MakeNoZero"], apart := false, narrowed := true }
def FnExactDigestUptoSaid : Prop := fnExactDigestUptoRow.holds Try.pinned (OpenSpec.upto fnExactDigestSpec)

/-- 'laws.FnExactCutDigest', WHERE WHAT IT READS IS OF BULK AT MOST 1048576: true; the input reads as it did. -/
def fnExactCutDigestUptoRow : OpenClaim := { program := "ytlaejadiklaaeaa", sum := "4b024d6e2e30f8248e6a1233ff26d52bd41369c5ba16b154a0e01abbb587d97a", func := "loop.example/g00466/laws.FnExactCutDigest", spec := "fnExactCutDigest", inPlace := ["internal/abi.NoEscape", "internal/bytealg.MakeNoZero"], apart := false, narrowed := true }
def FnExactCutDigestUptoSaid : Prop := fnExactCutDigestUptoRow.holds Try.pinned (OpenSpec.upto fnExactCutDigestSpec)

/-- 'laws.FnExactHmacKey', WHERE WHAT IT READS IS OF BULK AT MOST 1048576: true; the input reads as it did. -/
def fnExactHmacKeyUptoRow : OpenClaim := { program := "ytlaejadiklaaeaa", sum := "4b024d6e2e30f8248e6a1233ff26d52bd41369c5ba16b154a0e01abbb587d97a", func := "loop.example/g00466/laws.FnExactHmacKey", spec := "fnExactHmacKey", inPlace := ["internal/abi.NoEscape", "internal/bytealg.MakeNoZero"], apart := false, narrowed := true }
def FnExactHmacKeyUptoSaid : Prop := fnExactHmacKeyUptoRow.holds Try.pinned (OpenSpec.upto fnExactHmacKeySpec)

/-- 'laws.FnExactDigestHex', WHERE WHAT IT READS IS OF BULK AT MOST 1048576: true; the input reads as it did. -/
def fnExactDigestHexUptoRow : OpenClaim := { program := "ytlaejadiklaaeaa", sum := "4b024d6e2e30f8248e6a1233ff26d52bd41369c5ba16b154a0e01abbb587d97a", func := "loop.example/g00466/laws.FnExactDigestHex", spec := "fnExactDigestHex", inPlace := ["internal/abi.NoEscape", "internal/bytealg.MakeNoZero"], apart := false, narrowed := true }
def FnExactDigestHexUptoSaid : Prop := fnExactDigestHexUptoRow.holds Try.pinned (OpenSpec.upto fnExactDigestHexSpec)

/-- 'laws.FnExactHmac', WHERE WHAT IT READS IS OF BULK AT MOST 1048576: true; the input reads as it did. -/
def fnExactHmacUptoRow : OpenClaim := { program := "ytlaejadiklaaeaa", sum := "4b024d6e2e30f8248e6a1233ff26d52bd41369c5ba16b154a0e01abbb587d97a", func := "loop.example/g00466/laws.FnExactHmac", spec := "fnExactHmac", inPlace := ["internal/abi.NoEscape", "internal/bytealg.MakeNoZero"], apart := false, narrowed := true }
def FnExactHmacUptoSaid : Prop := fnExactHmacUptoRow.holds Try.pinned (OpenSpec.upto fnExactHmacSpec)

/-- 'laws.FnExactExtracted', WHERE WHAT IT READS IS OF BULK AT MOST 1048576: true; the input reads as it did. -/
def fnExactExtractedUptoRow : OpenClaim := { program := "ytlaejadiklaaeaa", sum := "4b024d6e2e30f8248e6a1233ff26d52bd41369c5ba16b154a0e01abbb587d97a", func := "loop.example/g00466/laws.FnExactExtracted", spec := "fnExactExtracted", inPlace := ["internal/abi.NoEscape", "internal/bytealg.MakeNoZero"], apart := false, narrowed := true }
def FnExactExtractedUptoSaid : Prop := fnExactExtractedUptoRow.holds Try.pinned (OpenSpec.upto fnExactExtractedSpec)

/-- 'laws.FnExactHmacOk', WHERE WHAT IT READS IS OF BULK AT MOST 1048576: true; the input reads as it did. -/
def fnExactHmacOkUptoRow : OpenClaim := { program := "ytlaejadiklaaeaa", sum := "4b024d6e2e30f8248e6a1233ff26d52bd41369c5ba16b154a0e01abbb587d97a", func := "loop.example/g00466/laws.FnExactHmacOk", spec := "fnExactHmacOk", inPlace := ["internal/abi.NoEscape", "internal/bytealg.MakeNoZero"], apart := false, narrowed := true }
def FnExactHmacOkUptoSaid : Prop := fnExactHmacOkUptoRow.holds Try.pinned (OpenSpec.upto fnExactHmacOkSpec)

/-- 'laws.FnDigestTurned', WHERE WHAT IT READS IS OF BULK AT MOST 1048576: true; the input reads as it did. -/
def fnDigestTurnedUptoRow : OpenClaim := { program := "ytlaejadiklaaeaa", sum := "4b024d6e2e30f8248e6a1233ff26d52bd41369c5ba16b154a0e01abbb587d97a", func := "loop.example/g00466/laws.FnDigestTurned", spec := "fnDigestTurned", inPlace := ["internal/abi.NoEscape", "internal/bytealg.MakeNoZero"], apart := false, narrowed := true }
def FnDigestTurnedUptoSaid : Prop := fnDigestTurnedUptoRow.holds Try.pinned (OpenSpec.upto fnDigestTurnedSpec)

/-- 'laws.FnBlocks', WHERE WHAT IT READS IS OF BULK AT MOST 1048576: true; the input reads as it did. -/
def fnBlocksUptoRow : OpenClaim := { program := "ytlaejadiklaaeaa", sum := "4b024d6e2e30f8248e6a1233ff26d52bd41369c5ba16b154a0e01abbb587d97a", func := "loop.example/g00466/laws.FnBlocks", spec := "fnBlocks", inPlace := ["internal/abi.NoEscape", "internal/bytealg.MakeNoZero"], apart := false, narrowed := true }
def FnBlocksUptoSaid : Prop := fnBlocksUptoRow.holds Try.pinned (OpenSpec.upto fnBlocksSpec)

/-- 'laws.FnMarks', WHERE WHAT IT READS IS OF BULK AT MOST 1048576: true; the input reads as it did. -/
def fnMarksUptoRow : OpenClaim := { program := "ytlaejadiklaaeaa", sum := "4b024d6e2e30f8248e6a1233ff26d52bd41369c5ba16b154a0e01abbb587d97a", func := "loop.example/g00466/laws.FnMarks", spec := "fnMarks", inPlace := ["internal/abi.NoEscape", "internal/bytealg.MakeNoZero"], apart := false, narrowed := true }
def FnMarksUptoSaid : Prop := fnMarksUptoRow.holds Try.pinned (OpenSpec.upto fnMarksSpec)

end Rows
end Go.Proofs.Ytlaejadiklaaeaa
