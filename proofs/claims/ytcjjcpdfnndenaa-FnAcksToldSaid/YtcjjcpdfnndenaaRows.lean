/-
  No cell of these rows narrows 'for every input' (looked for: loops, veiled, ifaces, maps, wideKeys, modest, calm, conditions, laid).
  DERIVED. THE GIVEN ROWS OF THIS SEAT. 9 by the template 'for every input the law returns true; each argument reads behind the call as it read before'; 0 by the template 'total and deterministic' (their statements: YtcjjcpdfnndenaaTotals.lean).
  GIVEN WITH THE SEED: the statements are not yours to turn. If you find one false, say at which input.
  Laid BY PROGRAM, IN A SANDBOX (cutbox-rows.mjs): the forced cells as the released guide's own fill.sh prints them over the translation ec281ae7e8e5861f… (all of the seat's roots in one cut). By AI agents, Wed Nov 11 2026. No macro, syntax, notation, axiom, sorry.
-/
import Derived.Test.YtcjjcpdfnndenaaChecked
import GoSem.Claim
import GoSem.ClaimJoined
import GoSem.ClaimMapViews
import Derived.JoinedTies
import Derived.KernelRfl
namespace Go.Proofs.Ytcjjcpdfnndenaa
/- THE CELL 'sum', in the pinned program and in every row, IS THE sha256 OF THE DUMP (.gsa) THAT YtcjjcpdfnndenaaProg.lean LOADS. Nothing in Lean hashes anything: it is a label: what it is worth is what the hold of that sum in a sandbox is worth. -/
noncomputable def Try.pinned : Pinned := { name := "ytcjjcpdfnndenaa", sum := "ec281ae7e8e5861fb1f868ebc17d578bebc9d9b30896f38e750589a66974597d", checked := Try.checked }
namespace Rows
def none {H : Type} : Left H := { results := [], args := [] }

/-- 'laws.FnExactAckList': WHATEVER THE INPUT: true; the input reads as it did. -/
def fnExactAckListSpec : ChangeSpec := { name := "fnExactAckList", fn := fun _ => fun
  | [d] => { results := [.lit (.bool true)], args := [d] }
  | _ => none }
def fnExactAckListRow : OpenClaim := { program := "ytcjjcpdfnndenaa", sum := "ec281ae7e8e5861fb1f868ebc17d578bebc9d9b30896f38e750589a66974597d", func := "loop.example/g00466/laws.FnExactAckList", spec := "fnExactAckList", apart := false }
def FnExactAckListSaid : Prop := fnExactAckListRow.holds Try.pinned (OpenSpec.ofChange fnExactAckListSpec)

/-- ITS FALSE NEIGHBOUR: 'it returns false'. Refute it at one input. -/
def fnExactAckListWrong : ChangeSpec := { name := "fnExactAckList", fn := fun _ => fun
  | [d] => { results := [.lit (.bool false)], args := [d] }
  | _ => none }
def FnExactAckListWrongFalsely : Prop := fnExactAckListRow.holds Try.pinned (OpenSpec.ofChange fnExactAckListWrong)

/-- 'laws.FnExactLeftOf': WHATEVER THE INPUT: true; the input reads as it did. -/
def fnExactLeftOfSpec : ChangeSpec := { name := "fnExactLeftOf", fn := fun _ => fun
  | [d] => { results := [.lit (.bool true)], args := [d] }
  | _ => none }
def fnExactLeftOfRow : OpenClaim := { program := "ytcjjcpdfnndenaa", sum := "ec281ae7e8e5861fb1f868ebc17d578bebc9d9b30896f38e750589a66974597d", func := "loop.example/g00466/laws.FnExactLeftOf", spec := "fnExactLeftOf", apart := false }
def FnExactLeftOfSaid : Prop := fnExactLeftOfRow.holds Try.pinned (OpenSpec.ofChange fnExactLeftOfSpec)

/-- ITS FALSE NEIGHBOUR: 'it returns false'. Refute it at one input. -/
def fnExactLeftOfWrong : ChangeSpec := { name := "fnExactLeftOf", fn := fun _ => fun
  | [d] => { results := [.lit (.bool false)], args := [d] }
  | _ => none }
def FnExactLeftOfWrongFalsely : Prop := fnExactLeftOfRow.holds Try.pinned (OpenSpec.ofChange fnExactLeftOfWrong)

/-- 'laws.FnExactFlightOk': WHATEVER THE INPUT: true; the input reads as it did. -/
def fnExactFlightOkSpec : ChangeSpec := { name := "fnExactFlightOk", fn := fun _ => fun
  | [d] => { results := [.lit (.bool true)], args := [d] }
  | _ => none }
def fnExactFlightOkRow : OpenClaim := { program := "ytcjjcpdfnndenaa", sum := "ec281ae7e8e5861fb1f868ebc17d578bebc9d9b30896f38e750589a66974597d", func := "loop.example/g00466/laws.FnExactFlightOk", spec := "fnExactFlightOk", apart := false }
def FnExactFlightOkSaid : Prop := fnExactFlightOkRow.holds Try.pinned (OpenSpec.ofChange fnExactFlightOkSpec)

/-- ITS FALSE NEIGHBOUR: 'it returns false'. Refute it at one input. -/
def fnExactFlightOkWrong : ChangeSpec := { name := "fnExactFlightOk", fn := fun _ => fun
  | [d] => { results := [.lit (.bool false)], args := [d] }
  | _ => none }
def FnExactFlightOkWrongFalsely : Prop := fnExactFlightOkRow.holds Try.pinned (OpenSpec.ofChange fnExactFlightOkWrong)

/-- 'laws.FnExactReadAck': WHATEVER THE INPUT: true; the input reads as it did. -/
def fnExactReadAckSpec : ChangeSpec := { name := "fnExactReadAck", fn := fun _ => fun
  | [d] => { results := [.lit (.bool true)], args := [d] }
  | _ => none }
def fnExactReadAckRow : OpenClaim := { program := "ytcjjcpdfnndenaa", sum := "ec281ae7e8e5861fb1f868ebc17d578bebc9d9b30896f38e750589a66974597d", func := "loop.example/g00466/laws.FnExactReadAck", spec := "fnExactReadAck", apart := false }
def FnExactReadAckSaid : Prop := fnExactReadAckRow.holds Try.pinned (OpenSpec.ofChange fnExactReadAckSpec)

/-- ITS FALSE NEIGHBOUR: 'it returns false'. Refute it at one input. -/
def fnExactReadAckWrong : ChangeSpec := { name := "fnExactReadAck", fn := fun _ => fun
  | [d] => { results := [.lit (.bool false)], args := [d] }
  | _ => none }
def FnExactReadAckWrongFalsely : Prop := fnExactReadAckRow.holds Try.pinned (OpenSpec.ofChange fnExactReadAckWrong)

/-- 'laws.FnExactAckedBy': WHATEVER THE INPUT: true; the input reads as it did. -/
def fnExactAckedBySpec : ChangeSpec := { name := "fnExactAckedBy", fn := fun _ => fun
  | [d1, d2] => { results := [.lit (.bool true)], args := [d1, d2] }
  | _ => none }
def fnExactAckedByRow : OpenClaim := { program := "ytcjjcpdfnndenaa", sum := "ec281ae7e8e5861fb1f868ebc17d578bebc9d9b30896f38e750589a66974597d", func := "loop.example/g00466/laws.FnExactAckedBy", spec := "fnExactAckedBy", apart := false }
def FnExactAckedBySaid : Prop := fnExactAckedByRow.holds Try.pinned (OpenSpec.ofChange fnExactAckedBySpec)

/-- ITS FALSE NEIGHBOUR: 'it returns false'. Refute it at one input. -/
def fnExactAckedByWrong : ChangeSpec := { name := "fnExactAckedBy", fn := fun _ => fun
  | [d1, d2] => { results := [.lit (.bool false)], args := [d1, d2] }
  | _ => none }
def FnExactAckedByWrongFalsely : Prop := fnExactAckedByRow.holds Try.pinned (OpenSpec.ofChange fnExactAckedByWrong)

/-- 'laws.FnExactSaidAgain': WHATEVER THE INPUT: true; the input reads as it did. -/
def fnExactSaidAgainSpec : ChangeSpec := { name := "fnExactSaidAgain", fn := fun _ => fun
  | [d] => { results := [.lit (.bool true)], args := [d] }
  | _ => none }
def fnExactSaidAgainRow : OpenClaim := { program := "ytcjjcpdfnndenaa", sum := "ec281ae7e8e5861fb1f868ebc17d578bebc9d9b30896f38e750589a66974597d", func := "loop.example/g00466/laws.FnExactSaidAgain", spec := "fnExactSaidAgain", apart := false }
def FnExactSaidAgainSaid : Prop := fnExactSaidAgainRow.holds Try.pinned (OpenSpec.ofChange fnExactSaidAgainSpec)

/-- ITS FALSE NEIGHBOUR: 'it returns false'. Refute it at one input. -/
def fnExactSaidAgainWrong : ChangeSpec := { name := "fnExactSaidAgain", fn := fun _ => fun
  | [d] => { results := [.lit (.bool false)], args := [d] }
  | _ => none }
def FnExactSaidAgainWrongFalsely : Prop := fnExactSaidAgainRow.holds Try.pinned (OpenSpec.ofChange fnExactSaidAgainWrong)

/-- 'laws.FnAcks': WHATEVER THE INPUT: true; the input reads as it did. -/
def fnAcksSpec : ChangeSpec := { name := "fnAcks", fn := fun _ => fun
  | [d] => { results := [.lit (.bool true)], args := [d] }
  | _ => none }
def fnAcksRow : OpenClaim := { program := "ytcjjcpdfnndenaa", sum := "ec281ae7e8e5861fb1f868ebc17d578bebc9d9b30896f38e750589a66974597d", func := "loop.example/g00466/laws.FnAcks", spec := "fnAcks", apart := false }
def FnAcksSaid : Prop := fnAcksRow.holds Try.pinned (OpenSpec.ofChange fnAcksSpec)

/-- ITS FALSE NEIGHBOUR: 'it returns false'. Refute it at one input. -/
def fnAcksWrong : ChangeSpec := { name := "fnAcks", fn := fun _ => fun
  | [d] => { results := [.lit (.bool false)], args := [d] }
  | _ => none }
def FnAcksWrongFalsely : Prop := fnAcksRow.holds Try.pinned (OpenSpec.ofChange fnAcksWrong)

/-- 'laws.FnExactFlightOf': WHATEVER THE INPUT: true; the input reads as it did. -/
def fnExactFlightOfSpec : ChangeSpec := { name := "fnExactFlightOf", fn := fun _ => fun
  | [d] => { results := [.lit (.bool true)], args := [d] }
  | _ => none }
def fnExactFlightOfRow : OpenClaim := { program := "ytcjjcpdfnndenaa", sum := "ec281ae7e8e5861fb1f868ebc17d578bebc9d9b30896f38e750589a66974597d", func := "loop.example/g00466/laws.FnExactFlightOf", spec := "fnExactFlightOf", recurses := true, apart := false }
def FnExactFlightOfSaid : Prop := fnExactFlightOfRow.holds Try.pinned (OpenSpec.ofChange fnExactFlightOfSpec)

/-- ITS FALSE NEIGHBOUR: 'it returns false'. Refute it at one input. -/
def fnExactFlightOfWrong : ChangeSpec := { name := "fnExactFlightOf", fn := fun _ => fun
  | [d] => { results := [.lit (.bool false)], args := [d] }
  | _ => none }
def FnExactFlightOfWrongFalsely : Prop := fnExactFlightOfRow.holds Try.pinned (OpenSpec.ofChange fnExactFlightOfWrong)

/-- 'laws.FnAcksTold': WHATEVER THE INPUT: true; the input reads as it did. -/
def fnAcksToldSpec : ChangeSpec := { name := "fnAcksTold", fn := fun _ => fun
  | [d] => { results := [.lit (.bool true)], args := [d] }
  | _ => none }
def fnAcksToldRow : OpenClaim := { program := "ytcjjcpdfnndenaa", sum := "ec281ae7e8e5861fb1f868ebc17d578bebc9d9b30896f38e750589a66974597d", func := "loop.example/g00466/laws.FnAcksTold", spec := "fnAcksTold", recurses := true, apart := false }
def FnAcksToldSaid : Prop := fnAcksToldRow.holds Try.pinned (OpenSpec.ofChange fnAcksToldSpec)

/-- ITS FALSE NEIGHBOUR: 'it returns false'. Refute it at one input. -/
def fnAcksToldWrong : ChangeSpec := { name := "fnAcksTold", fn := fun _ => fun
  | [d] => { results := [.lit (.bool false)], args := [d] }
  | _ => none }
def FnAcksToldWrongFalsely : Prop := fnAcksToldRow.holds Try.pinned (OpenSpec.ofChange fnAcksToldWrong)

/- THE SECOND FORM. 'bulk': how many values and letters a reading holds, each counted each time it is reached (what is shared counts as often as it is met; a slice's spare places count too). A statement '..UptoSaid' is the law's where the arguments, and the package variables that the reading takes, are together of bulk at most 1048576: NARROWER than '..Said'. Prove '..Said' where nothing that the law and all that it calls make is longer than what came in: it says more and counts as full. Else prove '..UptoSaid'. A law counts once. -/
mutual
def uptoBulk {H : Type} : DataW H → Nat
  | .lit (.string bytes) => bytes.length + 1
  | .lit _ => 1
  | .nil => 1
  | .ptr d => uptoBulk d + 1
  | .slice elems spare => uptoBulkAll elems + uptoBulkAll spare + 1
  | .agg parts => uptoBulkAll parts + 1
  | .iface _ d => uptoBulk d + 1
  | .map entries => uptoBulkEntries entries + 1
  | .held _ => 1
def uptoBulkAll {H : Type} : List (DataW H) → Nat
  | [] => 0
  | d :: r => uptoBulk d + uptoBulkAll r
def uptoBulkEntries {H : Type} : List (Lit × DataW H) → Nat
  | [] => 0
  | x :: r => uptoBulkEntry x + uptoBulkEntries r
def uptoBulkEntry {H : Type} : Lit × DataW H → Nat
  | (.string bytes, d) => bytes.length + uptoBulk d + 1
  | (_, d) => uptoBulk d + 1
 end
def uptoSmall : (H : Type) → List (DataW H) → Bool := fun _ ds => decide (uptoBulkAll ds ≤ 1048576)
def OpenSpec.upto (s : _root_.Go.ChangeSpec) : _root_.Go.OpenSpec := { _root_.Go.OpenSpec.ofChange s with cond := some uptoSmall }

/-- 'laws.FnExactAckList', WHERE WHAT IT READS IS OF BULK AT MOST 1048576: true; the input reads as it did. -/
def fnExactAckListUptoRow : OpenClaim := { program := "ytcjjcpdfnndenaa", sum := "ec281ae7e8e5861fb1f868ebc17d578bebc9d9b30896f38e750589a66974597d", func := "loop.example/g00466/laws.FnExactAckList", spec := "fnExactAckList", apart := false, narrowed := true }
def FnExactAckListUptoSaid : Prop := fnExactAckListUptoRow.holds Try.pinned (OpenSpec.upto fnExactAckListSpec)

/-- 'laws.FnExactLeftOf', WHERE WHAT IT READS IS OF BULK AT MOST 1048576: true; the input reads as it did. -/
def fnExactLeftOfUptoRow : OpenClaim := { program := "ytcjjcpdfnndenaa", sum := "ec281ae7e8e5861fb1f868ebc17d578bebc9d9b30896f38e750589a66974597d", func := "loop.example/g00466/laws.FnExactLeftOf", spec := "fnExactLeftOf", apart := false, narrowed := true }
def FnExactLeftOfUptoSaid : Prop := fnExactLeftOfUptoRow.holds Try.pinned (OpenSpec.upto fnExactLeftOfSpec)

/-- 'laws.FnExactFlightOk', WHERE WHAT IT READS IS OF BULK AT MOST 1048576: true; the input reads as it did. -/
def fnExactFlightOkUptoRow : OpenClaim := { program := "ytcjjcpdfnndenaa", sum := "ec281ae7e8e5861fb1f868ebc17d578bebc9d9b30896f38e750589a66974597d", func := "loop.example/g00466/laws.FnExactFlightOk", spec := "fnExactFlightOk", apart := false, narrowed := true }
def FnExactFlightOkUptoSaid : Prop := fnExactFlightOkUptoRow.holds Try.pinned (OpenSpec.upto fnExactFlightOkSpec)

/-- 'laws.FnExactReadAck', WHERE WHAT IT READS IS OF BULK AT MOST 1048576: true; the input reads as it did. -/
def fnExactReadAckUptoRow : OpenClaim := { program := "ytcjjcpdfnndenaa", sum := "ec281ae7e8e5861fb1f868ebc17d578bebc9d9b30896f38e750589a66974597d", func := "loop.example/g00466/laws.FnExactReadAck", spec := "fnExactReadAck", apart := false, narrowed := true }
def FnExactReadAckUptoSaid : Prop := fnExactReadAckUptoRow.holds Try.pinned (OpenSpec.upto fnExactReadAckSpec)

/-- 'laws.FnExactAckedBy', WHERE WHAT IT READS IS OF BULK AT MOST 1048576: true; the input reads as it did. -/
def fnExactAckedByUptoRow : OpenClaim := { program := "ytcjjcpdfnndenaa", sum := "ec281ae7e8e5861fb1f868ebc17d578bebc9d9b30896f38e750589a66974597d", func := "loop.example/g00466/laws.FnExactAckedBy", spec := "fnExactAckedBy", apart := false, narrowed := true }
def FnExactAckedByUptoSaid : Prop := fnExactAckedByUptoRow.holds Try.pinned (OpenSpec.upto fnExactAckedBySpec)

/-- 'laws.FnExactSaidAgain', WHERE WHAT IT READS IS OF BULK AT MOST 1048576: true; the input reads as it did. -/
def fnExactSaidAgainUptoRow : OpenClaim := { program := "ytcjjcpdfnndenaa", sum := "ec281ae7e8e5861fb1f868ebc17d578bebc9d9b30896f38e750589a66974597d", func := "loop.example/g00466/laws.FnExactSaidAgain", spec := "fnExactSaidAgain", apart := false, narrowed := true }
def FnExactSaidAgainUptoSaid : Prop := fnExactSaidAgainUptoRow.holds Try.pinned (OpenSpec.upto fnExactSaidAgainSpec)

/-- 'laws.FnAcks', WHERE WHAT IT READS IS OF BULK AT MOST 1048576: true; the input reads as it did. -/
def fnAcksUptoRow : OpenClaim := { program := "ytcjjcpdfnndenaa", sum := "ec281ae7e8e5861fb1f868ebc17d578bebc9d9b30896f38e750589a66974597d", func := "loop.example/g00466/laws.FnAcks", spec := "fnAcks", apart := false, narrowed := true }
def FnAcksUptoSaid : Prop := fnAcksUptoRow.holds Try.pinned (OpenSpec.upto fnAcksSpec)

/-- 'laws.FnExactFlightOf', WHERE WHAT IT READS IS OF BULK AT MOST 1048576: true; the input reads as it did. -/
def fnExactFlightOfUptoRow : OpenClaim := { program := "ytcjjcpdfnndenaa", sum := "ec281ae7e8e5861fb1f868ebc17d578bebc9d9b30896f38e750589a66974597d", func := "loop.example/g00466/laws.FnExactFlightOf", spec := "fnExactFlightOf", recurses := true, apart := false, narrowed := true }
def FnExactFlightOfUptoSaid : Prop := fnExactFlightOfUptoRow.holds Try.pinned (OpenSpec.upto fnExactFlightOfSpec)

/-- 'laws.FnAcksTold', WHERE WHAT IT READS IS OF BULK AT MOST 1048576: true; the input reads as it did. -/
def fnAcksToldUptoRow : OpenClaim := { program := "ytcjjcpdfnndenaa", sum := "ec281ae7e8e5861fb1f868ebc17d578bebc9d9b30896f38e750589a66974597d", func := "loop.example/g00466/laws.FnAcksTold", spec := "fnAcksTold", recurses := true, apart := false, narrowed := true }
def FnAcksToldUptoSaid : Prop := fnAcksToldUptoRow.holds Try.pinned (OpenSpec.upto fnAcksToldSpec)

end Rows
end Go.Proofs.Ytcjjcpdfnndenaa
