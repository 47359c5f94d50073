/-
  No cell of these rows narrows 'for every input' (looked for: loops, veiled, ifaces, maps, wideKeys, modest, calm, conditions, laid).
  DERIVED. THE GIVEN ROWS OF THIS SEAT. 6 by the template 'for every input the law returns true; each argument reads behind the call as it read before'; 0 by the template 'total and deterministic' (their statements: YtjljicfolmdkfaaTotals.lean).
  GIVEN WITH THE SEED: the statements are not yours to turn. If you find one false, say at which input.
  Laid BY PROGRAM, IN A SANDBOX (cutbox-rows.mjs): the forced cells as the released guide's own fill.sh prints them over the translation d449bf88e3095443… (all of the seat's roots in one cut). By AI agents, Wed Nov 11 2026. No macro, syntax, notation, axiom, sorry.
-/
import Derived.Test.YtjljicfolmdkfaaChecked
import GoSem.Claim
import GoSem.ClaimJoined
import GoSem.ClaimMapViews
import Derived.JoinedTies
import Derived.KernelRfl
namespace Go.Proofs.Ytjljicfolmdkfaa
/- THE CELL 'sum', in the pinned program and in every row, IS THE sha256 OF THE DUMP (.gsa) THAT YtjljicfolmdkfaaProg.lean LOADS. Nothing in Lean hashes anything: it is a label: what it is worth is what the hold of that sum in a sandbox is worth. -/
noncomputable def Try.pinned : Pinned := { name := "ytjljicfolmdkfaa", sum := "d449bf88e3095443fe69e159f9054d818e0191e33d9c0580049642cac7e32dea", checked := Try.checked }
namespace Rows
def none {H : Type} : Left H := { results := [], args := [] }

/-- 'laws.FnExactXorTexts': WHATEVER THE INPUT: true; the input reads as it did. -/
def fnExactXorTextsSpec : ChangeSpec := { name := "fnExactXorTexts", fn := fun _ => fun
  | [d1, d2] => { results := [.lit (.bool true)], args := [d1, d2] }
  | _ => none }
def fnExactXorTextsRow : OpenClaim := { program := "ytjljicfolmdkfaa", sum := "d449bf88e3095443fe69e159f9054d818e0191e33d9c0580049642cac7e32dea", func := "loop.example/g00466/laws.FnExactXorTexts", spec := "fnExactXorTexts", apart := false }
def FnExactXorTextsSaid : Prop := fnExactXorTextsRow.holds Try.pinned (OpenSpec.ofChange fnExactXorTextsSpec)

/-- ITS FALSE NEIGHBOUR: 'it returns false'. Refute it at one input. -/
def fnExactXorTextsWrong : ChangeSpec := { name := "fnExactXorTexts", fn := fun _ => fun
  | [d1, d2] => { results := [.lit (.bool false)], args := [d1, d2] }
  | _ => none }
def FnExactXorTextsWrongFalsely : Prop := fnExactXorTextsRow.holds Try.pinned (OpenSpec.ofChange fnExactXorTextsWrong)

/-- 'laws.FnExactRealHead': WHATEVER THE INPUT: true; the input reads as it did. -/
def fnExactRealHeadSpec : ChangeSpec := { name := "fnExactRealHead", fn := fun _ => fun
  | [d] => { results := [.lit (.bool true)], args := [d] }
  | _ => none }
def fnExactRealHeadRow : OpenClaim := { program := "ytjljicfolmdkfaa", sum := "d449bf88e3095443fe69e159f9054d818e0191e33d9c0580049642cac7e32dea", func := "loop.example/g00466/laws.FnExactRealHead", spec := "fnExactRealHead", apart := false }
def FnExactRealHeadSaid : Prop := fnExactRealHeadRow.holds Try.pinned (OpenSpec.ofChange fnExactRealHeadSpec)

/-- ITS FALSE NEIGHBOUR: 'it returns false'. Refute it at one input. -/
def fnExactRealHeadWrong : ChangeSpec := { name := "fnExactRealHead", fn := fun _ => fun
  | [d] => { results := [.lit (.bool false)], args := [d] }
  | _ => none }
def FnExactRealHeadWrongFalsely : Prop := fnExactRealHeadRow.holds Try.pinned (OpenSpec.ofChange fnExactRealHeadWrong)

/-- 'laws.FnExactClampKey': WHATEVER THE INPUT: true; the input reads as it did. -/
def fnExactClampKeySpec : ChangeSpec := { name := "fnExactClampKey", fn := fun _ => fun
  | [d] => { results := [.lit (.bool true)], args := [d] }
  | _ => none }
def fnExactClampKeyRow : OpenClaim := { program := "ytjljicfolmdkfaa", sum := "d449bf88e3095443fe69e159f9054d818e0191e33d9c0580049642cac7e32dea", func := "loop.example/g00466/laws.FnExactClampKey", spec := "fnExactClampKey", apart := false }
def FnExactClampKeySaid : Prop := fnExactClampKeyRow.holds Try.pinned (OpenSpec.ofChange fnExactClampKeySpec)

/-- ITS FALSE NEIGHBOUR: 'it returns false'. Refute it at one input. -/
def fnExactClampKeyWrong : ChangeSpec := { name := "fnExactClampKey", fn := fun _ => fun
  | [d] => { results := [.lit (.bool false)], args := [d] }
  | _ => none }
def FnExactClampKeyWrongFalsely : Prop := fnExactClampKeyRow.holds Try.pinned (OpenSpec.ofChange fnExactClampKeyWrong)

/-- 'laws.FnExactPieceOk': WHATEVER THE INPUT: true; the input reads as it did. -/
def fnExactPieceOkSpec : ChangeSpec := { name := "fnExactPieceOk", fn := fun _ => fun
  | [d] => { results := [.lit (.bool true)], args := [d] }
  | _ => none }
def fnExactPieceOkRow : OpenClaim := { program := "ytjljicfolmdkfaa", sum := "d449bf88e3095443fe69e159f9054d818e0191e33d9c0580049642cac7e32dea", func := "loop.example/g00466/laws.FnExactPieceOk", spec := "fnExactPieceOk", apart := false }
def FnExactPieceOkSaid : Prop := fnExactPieceOkRow.holds Try.pinned (OpenSpec.ofChange fnExactPieceOkSpec)

/-- ITS FALSE NEIGHBOUR: 'it returns false'. Refute it at one input. -/
def fnExactPieceOkWrong : ChangeSpec := { name := "fnExactPieceOk", fn := fun _ => fun
  | [d] => { results := [.lit (.bool false)], args := [d] }
  | _ => none }
def FnExactPieceOkWrongFalsely : Prop := fnExactPieceOkRow.holds Try.pinned (OpenSpec.ofChange fnExactPieceOkWrong)

/-- 'laws.FnExactLabelOf': WHATEVER THE INPUT: true; the input reads as it did. -/
def fnExactLabelOfSpec : ChangeSpec := { name := "fnExactLabelOf", fn := fun _ => fun
  | [d1, d2, d3] => { results := [.lit (.bool true)], args := [d1, d2, d3] }
  | _ => none }
def fnExactLabelOfRow : OpenClaim := { program := "ytjljicfolmdkfaa", sum := "d449bf88e3095443fe69e159f9054d818e0191e33d9c0580049642cac7e32dea", func := "loop.example/g00466/laws.FnExactLabelOf", spec := "fnExactLabelOf", apart := false }
def FnExactLabelOfSaid : Prop := fnExactLabelOfRow.holds Try.pinned (OpenSpec.ofChange fnExactLabelOfSpec)

/-- ITS FALSE NEIGHBOUR: 'it returns false'. Refute it at one input. -/
def fnExactLabelOfWrong : ChangeSpec := { name := "fnExactLabelOf", fn := fun _ => fun
  | [d1, d2, d3] => { results := [.lit (.bool false)], args := [d1, d2, d3] }
  | _ => none }
def FnExactLabelOfWrongFalsely : Prop := fnExactLabelOfRow.holds Try.pinned (OpenSpec.ofChange fnExactLabelOfWrong)

/-- 'laws.FnExactNonceFor': WHATEVER THE INPUT: true; the input reads as it did. -/
def fnExactNonceForSpec : ChangeSpec := { name := "fnExactNonceFor", fn := fun _ => fun
  | [d1, d2] => { results := [.lit (.bool true)], args := [d1, d2] }
  | _ => none }
def fnExactNonceForRow : OpenClaim := { program := "ytjljicfolmdkfaa", sum := "d449bf88e3095443fe69e159f9054d818e0191e33d9c0580049642cac7e32dea", func := "loop.example/g00466/laws.FnExactNonceFor", spec := "fnExactNonceFor", apart := false }
def FnExactNonceForSaid : Prop := fnExactNonceForRow.holds Try.pinned (OpenSpec.ofChange fnExactNonceForSpec)

/-- ITS FALSE NEIGHBOUR: 'it returns false'. Refute it at one input. -/
def fnExactNonceForWrong : ChangeSpec := { name := "fnExactNonceFor", fn := fun _ => fun
  | [d1, d2] => { results := [.lit (.bool false)], args := [d1, d2] }
  | _ => none }
def FnExactNonceForWrongFalsely : Prop := fnExactNonceForRow.holds Try.pinned (OpenSpec.ofChange fnExactNonceForWrong)

/- THE SECOND FORM. 'bulk': how many values and letters a reading holds, each counted each time it is reached (what is shared counts as often as it is met; a slice's spare places count too). A statement '..UptoSaid' is the law's where the arguments, and the package variables that the reading takes, are together of bulk at most 1048576: NARROWER than '..Said'. Prove '..Said' where nothing that the law and all that it calls make is longer than what came in: it says more and counts as full. Else prove '..UptoSaid'. A law counts once. -/
mutual
def uptoBulk {H : Type} : DataW H → Nat
  | .lit (.string bytes) => bytes.length + 1
  | .lit _ => 1
  | .nil => 1
  | .ptr d => uptoBulk d + 1
  | .slice elems spare => uptoBulkAll elems + uptoBulkAll spare + 1
  | .agg parts => uptoBulkAll parts + 1
  | .iface _ d => uptoBulk d + 1
  | .map entries => uptoBulkEntries entries + 1
  | .held _ => 1
def uptoBulkAll {H : Type} : List (DataW H) → Nat
  | [] => 0
  | d :: r => uptoBulk d + uptoBulkAll r
def uptoBulkEntries {H : Type} : List (Lit × DataW H) → Nat
  | [] => 0
  | x :: r => uptoBulkEntry x + uptoBulkEntries r
def uptoBulkEntry {H : Type} : Lit × DataW H → Nat
  | (.string bytes, d) => bytes.length + uptoBulk d + 1
  | (_, d) => uptoBulk d + 1
 end
def uptoSmall : (H : Type) → List (DataW H) → Bool := fun _ ds => decide (uptoBulkAll ds ≤ 1048576)
def OpenSpec.upto (s : _root_.Go.ChangeSpec) : _root_.Go.OpenSpec := { _root_.Go.OpenSpec.ofChange s with cond := some uptoSmall }

/-- 'laws.FnExactXorTexts', WHERE WHAT IT READS IS OF BULK AT MOST 1048576: true; the input reads as it did. -/
def fnExactXorTextsUptoRow : OpenClaim := { program := "ytjljicfolmdkfaa", sum := "d449bf88e3095443fe69e159f9054d818e0191e33d9c0580049642cac7e32dea", func := "loop.example/g00466/laws.FnExactXorTexts", spec := "fnExactXorTexts", apart := false, narrowed := true }
def FnExactXorTextsUptoSaid : Prop := fnExactXorTextsUptoRow.holds Try.pinned (OpenSpec.upto fnExactXorTextsSpec)

/-- 'laws.FnExactRealHead', WHERE WHAT IT READS IS OF BULK AT MOST 1048576: true; the input reads as it did. -/
def fnExactRealHeadUptoRow : OpenClaim := { program := "ytjljicfolmdkfaa", sum := "d449bf88e3095443fe69e159f9054d818e0191e33d9c0580049642cac7e32dea", func := "loop.example/g00466/laws.FnExactRealHead", spec := "fnExactRealHead", apart := false, narrowed := true }
def FnExactRealHeadUptoSaid : Prop := fnExactRealHeadUptoRow.holds Try.pinned (OpenSpec.upto fnExactRealHeadSpec)

/-- 'laws.FnExactClampKey', WHERE WHAT IT READS IS OF BULK AT MOST 1048576: true; the input reads as it did. -/
def fnExactClampKeyUptoRow : OpenClaim := { program := "ytjljicfolmdkfaa", sum := "d449bf88e3095443fe69e159f9054d818e0191e33d9c0580049642cac7e32dea", func := "loop.example/g00466/laws.FnExactClampKey", spec := "fnExactClampKey", apart := false, narrowed := true }
def FnExactClampKeyUptoSaid : Prop := fnExactClampKeyUptoRow.holds Try.pinned (OpenSpec.upto fnExactClampKeySpec)

/-- 'laws.FnExactPieceOk', WHERE WHAT IT READS IS OF BULK AT MOST 1048576: true; the input reads as it did. -/
def fnExactPieceOkUptoRow : OpenClaim := { program := "ytjljicfolmdkfaa", sum := "d449bf88e3095443fe69e159f9054d818e0191e33d9c0580049642cac7e32dea", func := "loop.example/g00466/laws.FnExactPieceOk", spec := "fnExactPieceOk", apart := false, narrowed := true }
def FnExactPieceOkUptoSaid : Prop := fnExactPieceOkUptoRow.holds Try.pinned (OpenSpec.upto fnExactPieceOkSpec)

/-- 'laws.FnExactLabelOf', WHERE WHAT IT READS IS OF BULK AT MOST 1048576: true; the input reads as it did. -/
def fnExactLabelOfUptoRow : OpenClaim := { program := "ytjljicfolmdkfaa", sum := "d449bf88e3095443fe69e159f9054d818e0191e33d9c0580049642cac7e32dea", func := "loop.example/g00466/laws.FnExactLabelOf", spec := "fnExactLabelOf", apart := false, narrowed := true }
def FnExactLabelOfUptoSaid : Prop := fnExactLabelOfUptoRow.holds Try.pinned (OpenSpec.upto fnExactLabelOfSpec)

/-- 'laws.FnExactNonceFor', WHERE WHAT IT READS IS OF BULK AT MOST 1048576: true; the input reads as it did. -/
def fnExactNonceForUptoRow : OpenClaim := { program := "ytjljicfolmdkfaa", sum := "d449bf88e3095443fe69e159f9054d818e0191e33d9c0580049642cac7e32dea", func := "loop.example/g00466/laws.FnExactNonceFor", spec := "fnExactNonceFor", apart := false, narrowed := true }
def FnExactNonceForUptoSaid : Prop := fnExactNonceForUptoRow.holds Try.pinned (OpenSpec.upto fnExactNonceForSpec)

end Rows
end Go.Proofs.Ytjljicfolmdkfaa
