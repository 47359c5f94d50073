/-
  No cell of these rows narrows 'for every input' (looked for: loops, veiled, ifaces, maps, wideKeys, modest, calm, conditions, laid).
  DERIVED. THE GIVEN ROWS OF THIS SEAT. 5 by the template 'for every input the law returns true; each argument reads behind the call as it read before'; 0 by the template 'total and deterministic' (their statements: YtknmbiebnpojjaaTotals.lean).
  GIVEN WITH THE SEED: the statements are not yours to turn. If you find one false, say at which input.
  Laid BY PROGRAM, IN A SANDBOX (cutbox-rows.mjs): the forced cells as the released guide's own fill.sh prints them over the translation 474581cf3ac8b765… (all of the seat's roots in one cut). By AI agents, Wed Nov 11 2026. No macro, syntax, notation, axiom, sorry.
-/
import Derived.Test.YtknmbiebnpojjaaChecked
import GoSem.Claim
import GoSem.ClaimJoined
import GoSem.ClaimMapViews
import Derived.JoinedTies
import Derived.KernelRfl
namespace Go.Proofs.Ytknmbiebnpojjaa
/- THE CELL 'sum', in the pinned program and in every row, IS THE sha256 OF THE DUMP (.gsa) THAT YtknmbiebnpojjaaProg.lean LOADS. Nothing in Lean hashes anything: it is a label: what it is worth is what the hold of that sum in a sandbox is worth. -/
noncomputable def Try.pinned : Pinned := { name := "ytknmbiebnpojjaa", sum := "474581cf3ac8b76590a506d4c63675e54e22c97c0ad971fd11f8b4ebbb13c9ff", checked := Try.checked }
namespace Rows
def none {H : Type} : Left H := { results := [], args := [] }

/-- 'laws.FnBlocks': WHATEVER THE INPUT: true; the input reads as it did. -/
def fnBlocksSpec : ChangeSpec := { name := "fnBlocks", fn := fun _ => fun
  | [d] => { results := [.lit (.bool true)], args := [d] }
  | _ => none }
def fnBlocksRow : OpenClaim := { program := "ytknmbiebnpojjaa", sum := "474581cf3ac8b76590a506d4c63675e54e22c97c0ad971fd11f8b4ebbb13c9ff", func := "loop.example/g00466/laws.FnBlocks", spec := "fnBlocks", inPlace := ["internal/abi.NoEscape", "internal/bytealg.MakeNoZero"], apart := false }
def FnBlocksSaid : Prop := fnBlocksRow.holds Try.pinned (OpenSpec.ofChange fnBlocksSpec)

/-- ITS FALSE NEIGHBOUR: 'it returns false'. Refute it at one input. -/
def fnBlocksWrong : ChangeSpec := { name := "fnBlocks", fn := fun _ => fun
  | [d] => { results := [.lit (.bool false)], args := [d] }
  | _ => none }
def FnBlocksWrongFalsely : Prop := fnBlocksRow.holds Try.pinned (OpenSpec.ofChange fnBlocksWrong)

/-- 'laws.FnKeysOf': WHATEVER THE INPUT: true; the input reads as it did. -/
def fnKeysOfSpec : ChangeSpec := { name := "fnKeysOf", fn := fun _ => fun
  | [d] => { results := [.lit (.bool true)], args := [d] }
  | _ => none }
def fnKeysOfRow : OpenClaim := { program := "ytknmbiebnpojjaa", sum := "474581cf3ac8b76590a506d4c63675e54e22c97c0ad971fd11f8b4ebbb13c9ff", func := "loop.example/g00466/laws.FnKeysOf", spec := "fnKeysOf", inPlace := ["internal/abi.NoEscape", "internal/bytealg.MakeNoZero"], apart := false }
def FnKeysOfSaid : Prop := fnKeysOfRow.holds Try.pinned (OpenSpec.ofChange fnKeysOfSpec)

/-- ITS FALSE NEIGHBOUR: 'it returns false'. Refute it at one input. -/
def fnKeysOfWrong : ChangeSpec := { name := "fnKeysOf", fn := fun _ => fun
  | [d] => { results := [.lit (.bool false)], args := [d] }
  | _ => none }
def FnKeysOfWrongFalsely : Prop := fnKeysOfRow.holds Try.pinned (OpenSpec.ofChange fnKeysOfWrong)

/-- 'laws.FnKeysTold': WHATEVER THE INPUT: true; the input reads as it did. -/
def fnKeysToldSpec : ChangeSpec := { name := "fnKeysTold", fn := fun _ => fun
  | [d] => { results := [.lit (.bool true)], args := [d] }
  | _ => none }
def fnKeysToldRow : OpenClaim := { program := "ytknmbiebnpojjaa", sum := "474581cf3ac8b76590a506d4c63675e54e22c97c0ad971fd11f8b4ebbb13c9ff", func := "loop.example/g00466/laws.FnKeysTold", spec := "fnKeysTold", inPlace := ["internal/abi.NoEscape", "internal/bytealg.MakeNoZero"], apart := false }
def FnKeysToldSaid : Prop := fnKeysToldRow.holds Try.pinned (OpenSpec.ofChange fnKeysToldSpec)

/-- ITS FALSE NEIGHBOUR: 'it returns false'. Refute it at one input. -/
def fnKeysToldWrong : ChangeSpec := { name := "fnKeysTold", fn := fun _ => fun
  | [d] => { results := [.lit (.bool false)], args := [d] }
  | _ => none }
def FnKeysToldWrongFalsely : Prop := fnKeysToldRow.holds Try.pinned (OpenSpec.ofChange fnKeysToldWrong)

/-- 'laws.FnPieces': WHATEVER THE INPUT: true; the input reads as it did. -/
def fnPiecesSpec : ChangeSpec := { name := "fnPieces", fn := fun _ => fun
  | [d] => { results := [.lit (.bool true)], args := [d] }
  | _ => none }
def fnPiecesRow : OpenClaim := { program := "ytknmbiebnpojjaa", sum := "474581cf3ac8b76590a506d4c63675e54e22c97c0ad971fd11f8b4ebbb13c9ff", func := "loop.example/g00466/laws.FnPieces", spec := "fnPieces", inPlace := ["internal/abi.NoEscape", "internal/bytealg.MakeNoZero"], apart := false }
def FnPiecesSaid : Prop := fnPiecesRow.holds Try.pinned (OpenSpec.ofChange fnPiecesSpec)

/-- ITS FALSE NEIGHBOUR: 'it returns false'. Refute it at one input. -/
def fnPiecesWrong : ChangeSpec := { name := "fnPieces", fn := fun _ => fun
  | [d] => { results := [.lit (.bool false)], args := [d] }
  | _ => none }
def FnPiecesWrongFalsely : Prop := fnPiecesRow.holds Try.pinned (OpenSpec.ofChange fnPiecesWrong)

/-- 'laws.FnPiecesTold': WHATEVER THE INPUT: true; the input reads as it did. -/
def fnPiecesToldSpec : ChangeSpec := { name := "fnPiecesTold", fn := fun _ => fun
  | [d] => { results := [.lit (.bool true)], args := [d] }
  | _ => none }
def fnPiecesToldRow : OpenClaim := { program := "ytknmbiebnpojjaa", sum := "474581cf3ac8b76590a506d4c63675e54e22c97c0ad971fd11f8b4ebbb13c9ff", func := "loop.example/g00466/laws.FnPiecesTold", spec := "fnPiecesTold", inPlace := ["internal/abi.NoEscape", "internal/bytealg.MakeNoZero"], apart := false }
def FnPiecesToldSaid : Prop := fnPiecesToldRow.holds Try.pinned (OpenSpec.ofChange fnPiecesToldSpec)

/-- ITS FALSE NEIGHBOUR: 'it returns false'. Refute it at one input. -/
def fnPiecesToldWrong : ChangeSpec := { name := "fnPiecesTold", fn := fun _ => fun
  | [d] => { results := [.lit (.bool false)], args := [d] }
  | _ => none }
def FnPiecesToldWrongFalsely : Prop := fnPiecesToldRow.holds Try.pinned (OpenSpec.ofChange fnPiecesToldWrong)

/- THE SECOND FORM. 'bulk': how many values and letters a reading holds, each counted each time it is reached (what is shared counts as often as it is met; a slice's spare places count too). A statement '..UptoSaid' is the law's where the arguments, and the package variables that the reading takes, are together of bulk at most 1048576: NARROWER than '..Said'. Prove '..Said' where nothing that the law and all that it calls make is longer than what came in: it says more and counts as full. Else prove '..UptoSaid'. A law counts once. -/
mutual
def uptoBulk {H : Type} : DataW H → Nat
  | .lit (.string bytes) => bytes.length + 1
  | .lit _ => 1
  | .nil => 1
  | .ptr d => uptoBulk d + 1
  | .slice elems spare => uptoBulkAll elems + uptoBulkAll spare + 1
  | .agg parts => uptoBulkAll parts + 1
  | .iface _ d => uptoBulk d + 1
  | .map entries => uptoBulkEntries entries + 1
  | .held _ => 1
def uptoBulkAll {H : Type} : List (DataW H) → Nat
  | [] => 0
  | d :: r => uptoBulk d + uptoBulkAll r
def uptoBulkEntries {H : Type} : List (Lit × DataW H) → Nat
  | [] => 0
  | x :: r => uptoBulkEntry x + uptoBulkEntries r
def uptoBulkEntry {H : Type} : Lit × DataW H → Nat
  | (.string bytes, d) => bytes.length + uptoBulk d + 1
  | (_, d) => uptoBulk d + 1
 end
def uptoSmall : (H : Type) → List (DataW H) → Bool := fun _ ds => decide (uptoBulkAll ds ≤ 1048576)
def OpenSpec.upto (s : _root_.Go.ChangeSpec) : _root_.Go.OpenSpec := { _root_.Go.OpenSpec.ofChange s with cond := some uptoSmall }

/-- 'laws.FnBlocks', WHERE WHAT IT READS IS OF BULK AT MOST 1048576: true; the input reads as it did. -/
def fnBlocksUptoRow : OpenClaim := { program := "ytknmbiebnpojjaa", sum := "474581cf3ac8b76590a506d4c63675e54e22c97c0ad971fd11f8b4ebbb13c9ff", func := "loop.example/g00466/laws.FnBlocks", spec := "fnBlocks", inPlace := ["internal/abi.NoEscape", "internal/bytealg.MakeNoZero"], apart := false, narrowed := true }
def FnBlocksUptoSaid : Prop := fnBlocksUptoRow.holds Try.pinned (OpenSpec.upto fnBlocksSpec)

/-- 'laws.FnKeysOf', WHERE WHAT IT READS IS OF BULK AT MOST 1048576: true; the input reads as it did. -/
def fnKeysOfUptoRow : OpenClaim := { program := "ytknmbiebnpojjaa", sum := "474581cf3ac8b76590a506d4c63675e54e22c97c0ad971fd11f8b4ebbb13c9ff", func := "loop.example/g00466/laws.FnKeysOf", spec := "fnKeysOf", inPlace := ["internal/abi.NoEscape", "internal/bytealg.MakeNoZero"], apart := false, narrowed := true }
def FnKeysOfUptoSaid : Prop := fnKeysOfUptoRow.holds Try.pinned (OpenSpec.upto fnKeysOfSpec)

/-- 'laws.FnKeysTold', WHERE WHAT IT READS IS OF BULK AT MOST 1048576: true; the input reads as it did. -/
def fnKeysToldUptoRow : OpenClaim := { program := "ytknmbiebnpojjaa", sum := "474581cf3ac8b76590a506d4c63675e54e22c97c0ad971fd11f8b4ebbb13c9ff", func := "loop.example/g00466/laws.FnKeysTold", spec := "fnKeysTold", inPlace := ["internal/abi.NoEscape", "internal/bytealg.MakeNoZero"], apart := false, narrowed := true }
def FnKeysToldUptoSaid : Prop := fnKeysToldUptoRow.holds Try.pinned (OpenSpec.upto fnKeysToldSpec)

/-- 'laws.FnPieces', WHERE WHAT IT READS IS OF BULK AT MOST 1048576: true; the input reads as it did. -/
def fnPiecesUptoRow : OpenClaim := { program := "ytknmbiebnpojjaa", sum := "474581cf3ac8b76590a506d4c63675e54e22c97c0ad971fd11f8b4ebbb13c9ff", func := "loop.example/g00466/laws.FnPieces", spec := "fnPieces", inPlace := ["internal/abi.NoEscape", "internal/bytealg.MakeNoZero"], apart := false, narrowed := true }
def FnPiecesUptoSaid : Prop := fnPiecesUptoRow.holds Try.pinned (OpenSpec.upto fnPiecesSpec)

/-- 'laws.FnPiecesTold', WHERE WHAT IT READS IS OF BULK AT MOST 1048576: true; the input reads as it did. -/
def fnPiecesToldUptoRow : OpenClaim := { program := "ytknmbiebnpojjaa", sum := "474581cf3ac8b76590a506d4c63675e54e22c97c0ad971fd11f8b4ebbb13c9ff", func := "loop.example/g00466/laws.FnPiecesTold", spec := "fnPiecesTold", inPlace := ["internal/abi.NoEscape", "internal/bytealg.MakeNoZero"], apart := false, narrowed := true }
def FnPiecesToldUptoSaid : Prop := fnPiecesToldUptoRow.holds Try.pinned (OpenSpec.upto fnPiecesToldSpec)

end Rows
end Go.Proofs.Ytknmbiebnpojjaa
