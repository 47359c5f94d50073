/-
  No cell of these rows narrows 'for every input' (looked for: loops, veiled, ifaces, maps, wideKeys, modest, calm, conditions, laid).
  DERIVED. THE GIVEN ROWS OF THIS SEAT. 7 by the template 'for every input the law returns true; each argument reads behind the call as it read before'; 0 by the template 'total and deterministic' (their statements: YtbmadanfpicmiaaTotals.lean).
  GIVEN WITH THE SEED: the statements are not yours to turn. If you find one false, say at which input.
  Laid BY PROGRAM, IN A SANDBOX (cutbox-rows.mjs): the forced cells as the released guide's own fill.sh prints them over the translation b8ca5dcb80fe015c… (all of the seat's roots in one cut). By AI agents, Wed Nov 11 2026. No macro, syntax, notation, axiom, sorry.
-/
import Derived.Test.YtbmadanfpicmiaaChecked
import GoSem.Claim
import GoSem.ClaimJoined
import GoSem.ClaimMapViews
import Derived.JoinedTies
import Derived.KernelRfl
namespace Go.Proofs.Ytbmadanfpicmiaa
/- THE CELL 'sum', in the pinned program and in every row, IS THE sha256 OF THE DUMP (.gsa) THAT YtbmadanfpicmiaaProg.lean LOADS. Nothing in Lean hashes anything: it is a label: what it is worth is what the hold of that sum in a sandbox is worth. -/
noncomputable def Try.pinned : Pinned := { name := "ytbmadanfpicmiaa", sum := "b8ca5dcb80fe015c8cfa157d11e43d66527021551b3a17ba153dea24b8e4e218", checked := Try.checked }
namespace Rows
def none {H : Type} : Left H := { results := [], args := [] }

/-- 'laws.FnStreams': WHATEVER THE INPUT: true; the input reads as it did. -/
def fnStreamsSpec : ChangeSpec := { name := "fnStreams", fn := fun _ => fun
  | [d] => { results := [.lit (.bool true)], args := [d] }
  | _ => none }
def fnStreamsRow : OpenClaim := { program := "ytbmadanfpicmiaa", sum := "b8ca5dcb80fe015c8cfa157d11e43d66527021551b3a17ba153dea24b8e4e218", func := "loop.example/g00466/laws.FnStreams", spec := "fnStreams", apart := false }
def FnStreamsSaid : Prop := fnStreamsRow.holds Try.pinned (OpenSpec.ofChange fnStreamsSpec)

/-- ITS FALSE NEIGHBOUR: 'it returns false'. Refute it at one input. -/
def fnStreamsWrong : ChangeSpec := { name := "fnStreams", fn := fun _ => fun
  | [d] => { results := [.lit (.bool false)], args := [d] }
  | _ => none }
def FnStreamsWrongFalsely : Prop := fnStreamsRow.holds Try.pinned (OpenSpec.ofChange fnStreamsWrong)

/-- 'laws.FnExactQuarterTurn': WHATEVER THE INPUT: true; the input reads as it did. -/
def fnExactQuarterTurnSpec : ChangeSpec := { name := "fnExactQuarterTurn", fn := fun _ => fun
  | [d1, d2, d3, d4] => { results := [.lit (.bool true)], args := [d1, d2, d3, d4] }
  | _ => none }
def fnExactQuarterTurnRow : OpenClaim := { program := "ytbmadanfpicmiaa", sum := "b8ca5dcb80fe015c8cfa157d11e43d66527021551b3a17ba153dea24b8e4e218", func := "loop.example/g00466/laws.FnExactQuarterTurn", spec := "fnExactQuarterTurn", apart := false }
def FnExactQuarterTurnSaid : Prop := fnExactQuarterTurnRow.holds Try.pinned (OpenSpec.ofChange fnExactQuarterTurnSpec)

/-- ITS FALSE NEIGHBOUR: 'it returns false'. Refute it at one input. -/
def fnExactQuarterTurnWrong : ChangeSpec := { name := "fnExactQuarterTurn", fn := fun _ => fun
  | [d1, d2, d3, d4] => { results := [.lit (.bool false)], args := [d1, d2, d3, d4] }
  | _ => none }
def FnExactQuarterTurnWrongFalsely : Prop := fnExactQuarterTurnRow.holds Try.pinned (OpenSpec.ofChange fnExactQuarterTurnWrong)

/-- 'laws.FnExactChaStart': WHATEVER THE INPUT: true; the input reads as it did. -/
def fnExactChaStartSpec : ChangeSpec := { name := "fnExactChaStart", fn := fun _ => fun
  | [d1, d2, d3] => { results := [.lit (.bool true)], args := [d1, d2, d3] }
  | _ => none }
def fnExactChaStartRow : OpenClaim := { program := "ytbmadanfpicmiaa", sum := "b8ca5dcb80fe015c8cfa157d11e43d66527021551b3a17ba153dea24b8e4e218", func := "loop.example/g00466/laws.FnExactChaStart", spec := "fnExactChaStart", apart := false }
def FnExactChaStartSaid : Prop := fnExactChaStartRow.holds Try.pinned (OpenSpec.ofChange fnExactChaStartSpec)

/-- ITS FALSE NEIGHBOUR: 'it returns false'. Refute it at one input. -/
def fnExactChaStartWrong : ChangeSpec := { name := "fnExactChaStart", fn := fun _ => fun
  | [d1, d2, d3] => { results := [.lit (.bool false)], args := [d1, d2, d3] }
  | _ => none }
def FnExactChaStartWrongFalsely : Prop := fnExactChaStartRow.holds Try.pinned (OpenSpec.ofChange fnExactChaStartWrong)

/-- 'laws.FnExactChaBlock': WHATEVER THE INPUT: true; the input reads as it did. -/
def fnExactChaBlockSpec : ChangeSpec := { name := "fnExactChaBlock", fn := fun _ => fun
  | [d] => { results := [.lit (.bool true)], args := [d] }
  | _ => none }
def fnExactChaBlockRow : OpenClaim := { program := "ytbmadanfpicmiaa", sum := "b8ca5dcb80fe015c8cfa157d11e43d66527021551b3a17ba153dea24b8e4e218", func := "loop.example/g00466/laws.FnExactChaBlock", spec := "fnExactChaBlock", apart := false }
def FnExactChaBlockSaid : Prop := fnExactChaBlockRow.holds Try.pinned (OpenSpec.ofChange fnExactChaBlockSpec)

/-- ITS FALSE NEIGHBOUR: 'it returns false'. Refute it at one input. -/
def fnExactChaBlockWrong : ChangeSpec := { name := "fnExactChaBlock", fn := fun _ => fun
  | [d] => { results := [.lit (.bool false)], args := [d] }
  | _ => none }
def FnExactChaBlockWrongFalsely : Prop := fnExactChaBlockRow.holds Try.pinned (OpenSpec.ofChange fnExactChaBlockWrong)

/-- 'laws.FnExactChaStream': WHATEVER THE INPUT: true; the input reads as it did. -/
def fnExactChaStreamSpec : ChangeSpec := { name := "fnExactChaStream", fn := fun _ => fun
  | [d1, d2, d3, d4] => { results := [.lit (.bool true)], args := [d1, d2, d3, d4] }
  | _ => none }
def fnExactChaStreamRow : OpenClaim := { program := "ytbmadanfpicmiaa", sum := "b8ca5dcb80fe015c8cfa157d11e43d66527021551b3a17ba153dea24b8e4e218", func := "loop.example/g00466/laws.FnExactChaStream", spec := "fnExactChaStream", apart := false }
def FnExactChaStreamSaid : Prop := fnExactChaStreamRow.holds Try.pinned (OpenSpec.ofChange fnExactChaStreamSpec)

/-- ITS FALSE NEIGHBOUR: 'it returns false'. Refute it at one input. -/
def fnExactChaStreamWrong : ChangeSpec := { name := "fnExactChaStream", fn := fun _ => fun
  | [d1, d2, d3, d4] => { results := [.lit (.bool false)], args := [d1, d2, d3, d4] }
  | _ => none }
def FnExactChaStreamWrongFalsely : Prop := fnExactChaStreamRow.holds Try.pinned (OpenSpec.ofChange fnExactChaStreamWrong)

/-- 'laws.FnExactHideNumber': WHATEVER THE INPUT: true; the input reads as it did. -/
def fnExactHideNumberSpec : ChangeSpec := { name := "fnExactHideNumber", fn := fun _ => fun
  | [d1, d2, d3] => { results := [.lit (.bool true)], args := [d1, d2, d3] }
  | _ => none }
def fnExactHideNumberRow : OpenClaim := { program := "ytbmadanfpicmiaa", sum := "b8ca5dcb80fe015c8cfa157d11e43d66527021551b3a17ba153dea24b8e4e218", func := "loop.example/g00466/laws.FnExactHideNumber", spec := "fnExactHideNumber", apart := false }
def FnExactHideNumberSaid : Prop := fnExactHideNumberRow.holds Try.pinned (OpenSpec.ofChange fnExactHideNumberSpec)

/-- ITS FALSE NEIGHBOUR: 'it returns false'. Refute it at one input. -/
def fnExactHideNumberWrong : ChangeSpec := { name := "fnExactHideNumber", fn := fun _ => fun
  | [d1, d2, d3] => { results := [.lit (.bool false)], args := [d1, d2, d3] }
  | _ => none }
def FnExactHideNumberWrongFalsely : Prop := fnExactHideNumberRow.holds Try.pinned (OpenSpec.ofChange fnExactHideNumberWrong)

/-- 'laws.FnStreamsTold': WHATEVER THE INPUT: true; the input reads as it did. -/
def fnStreamsToldSpec : ChangeSpec := { name := "fnStreamsTold", fn := fun _ => fun
  | [d] => { results := [.lit (.bool true)], args := [d] }
  | _ => none }
def fnStreamsToldRow : OpenClaim := { program := "ytbmadanfpicmiaa", sum := "b8ca5dcb80fe015c8cfa157d11e43d66527021551b3a17ba153dea24b8e4e218", func := "loop.example/g00466/laws.FnStreamsTold", spec := "fnStreamsTold", apart := false }
def FnStreamsToldSaid : Prop := fnStreamsToldRow.holds Try.pinned (OpenSpec.ofChange fnStreamsToldSpec)

/-- ITS FALSE NEIGHBOUR: 'it returns false'. Refute it at one input. -/
def fnStreamsToldWrong : ChangeSpec := { name := "fnStreamsTold", fn := fun _ => fun
  | [d] => { results := [.lit (.bool false)], args := [d] }
  | _ => none }
def FnStreamsToldWrongFalsely : Prop := fnStreamsToldRow.holds Try.pinned (OpenSpec.ofChange fnStreamsToldWrong)

/- THE SECOND FORM. 'bulk': how many values and letters a reading holds, each counted each time it is reached (what is shared counts as often as it is met; a slice's spare places count too). A statement '..UptoSaid' is the law's where the arguments, and the package variables that the reading takes, are together of bulk at most 1048576: NARROWER than '..Said'. Prove '..Said' where nothing that the law and all that it calls make is longer than what came in: it says more and counts as full. Else prove '..UptoSaid'. A law counts once. -/
mutual
def uptoBulk {H : Type} : DataW H → Nat
  | .lit (.string bytes) => bytes.length + 1
  | .lit _ => 1
  | .nil => 1
  | .ptr d => uptoBulk d + 1
  | .slice elems spare => uptoBulkAll elems + uptoBulkAll spare + 1
  | .agg parts => uptoBulkAll parts + 1
  | .iface _ d => uptoBulk d + 1
  | .map entries => uptoBulkEntries entries + 1
  | .held _ => 1
def uptoBulkAll {H : Type} : List (DataW H) → Nat
  | [] => 0
  | d :: r => uptoBulk d + uptoBulkAll r
def uptoBulkEntries {H : Type} : List (Lit × DataW H) → Nat
  | [] => 0
  | x :: r => uptoBulkEntry x + uptoBulkEntries r
def uptoBulkEntry {H : Type} : Lit × DataW H → Nat
  | (.string bytes, d) => bytes.length + uptoBulk d + 1
  | (_, d) => uptoBulk d + 1
 end
def uptoSmall : (H : Type) → List (DataW H) → Bool := fun _ ds => decide (uptoBulkAll ds ≤ 1048576)
def OpenSpec.upto (s : _root_.Go.ChangeSpec) : _root_.Go.OpenSpec := { _root_.Go.OpenSpec.ofChange s with cond := some uptoSmall }

/-- 'laws.FnStreams', WHERE WHAT IT READS IS OF BULK AT MOST 1048576: true; the input reads as it did. -/
def fnStreamsUptoRow : OpenClaim := { program := "ytbmadanfpicmiaa", sum := "b8ca5dcb80fe015c8cfa157d11e43d66527021551b3a17ba153dea24b8e4e218", func := "loop.example/g00466/laws.FnStreams", spec := "fnStreams", apart := false, narrowed := true }
def FnStreamsUptoSaid : Prop := fnStreamsUptoRow.holds Try.pinned (OpenSpec.upto fnStreamsSpec)

/-- 'laws.FnExactQuarterTurn', WHERE WHAT IT READS IS OF BULK AT MOST 1048576: true; the input reads as it did. -/
def fnExactQuarterTurnUptoRow : OpenClaim := { program := "ytbmadanfpicmiaa", sum := "b8ca5dcb80fe015c8cfa157d11e43d66527021551b3a17ba153dea24b8e4e218", func := "loop.example/g00466/laws.FnExactQuarterTurn", spec := "fnExactQuarterTurn", apart := false, narrowed := true }
def FnExactQuarterTurnUptoSaid : Prop := fnExactQuarterTurnUptoRow.holds Try.pinned (OpenSpec.upto fnExactQuarterTurnSpec)

/-- 'laws.FnExactChaStart', WHERE WHAT IT READS IS OF BULK AT MOST 1048576: true; the input reads as it did. -/
def fnExactChaStartUptoRow : OpenClaim := { program := "ytbmadanfpicmiaa", sum := "b8ca5dcb80fe015c8cfa157d11e43d66527021551b3a17ba153dea24b8e4e218", func := "loop.example/g00466/laws.FnExactChaStart", spec := "fnExactChaStart", apart := false, narrowed := true }
def FnExactChaStartUptoSaid : Prop := fnExactChaStartUptoRow.holds Try.pinned (OpenSpec.upto fnExactChaStartSpec)

/-- 'laws.FnExactChaBlock', WHERE WHAT IT READS IS OF BULK AT MOST 1048576: true; the input reads as it did. -/
def fnExactChaBlockUptoRow : OpenClaim := { program := "ytbmadanfpicmiaa", sum := "b8ca5dcb80fe015c8cfa157d11e43d66527021551b3a17ba153dea24b8e4e218", func := "loop.example/g00466/laws.FnExactChaBlock", spec := "fnExactChaBlock", apart := false, narrowed := true }
def FnExactChaBlockUptoSaid : Prop := fnExactChaBlockUptoRow.holds Try.pinned (OpenSpec.upto fnExactChaBlockSpec)

/-- 'laws.FnExactChaStream', WHERE WHAT IT READS IS OF BULK AT MOST 1048576: true; the input reads as it did. -/
def fnExactChaStreamUptoRow : OpenClaim := { program := "ytbmadanfpicmiaa", sum := "b8ca5dcb80fe015c8cfa157d11e43d66527021551b3a17ba153dea24b8e4e218", func := "loop.example/g00466/laws.FnExactChaStream", spec := "fnExactChaStream", apart := false, narrowed := true }
def FnExactChaStreamUptoSaid : Prop := fnExactChaStreamUptoRow.holds Try.pinned (OpenSpec.upto fnExactChaStreamSpec)

/-- 'laws.FnExactHideNumber', WHERE WHAT IT READS IS OF BULK AT MOST 1048576: true; the input reads as it did. -/
def fnExactHideNumberUptoRow : OpenClaim := { program := "ytbmadanfpicmiaa", sum := "b8ca5dcb80fe015c8cfa157d11e43d66527021551b3a17ba153dea24b8e4e218", func := "loop.example/g00466/laws.FnExactHideNumber", spec := "fnExactHideNumber", apart := false, narrowed := true }
def FnExactHideNumberUptoSaid : Prop := fnExactHideNumberUptoRow.holds Try.pinned (OpenSpec.upto fnExactHideNumberSpec)

/-- 'laws.FnStreamsTold', WHERE WHAT IT READS IS OF BULK AT MOST 1048576: true; the input reads as it did. -/
def fnStreamsToldUptoRow : OpenClaim := { program := "ytbmadanfpicmiaa", sum := "b8ca5dcb80fe015c8cfa157d11e43d66527021551b3a17ba153dea24b8e4e218", func := "loop.example/g00466/laws.FnStreamsTold", spec := "fnStreamsTold", apart := false, narrowed := true }
def FnStreamsToldUptoSaid : Prop := fnStreamsToldUptoRow.holds Try.pinned (OpenSpec.upto fnStreamsToldSpec)

end Rows
end Go.Proofs.Ytbmadanfpicmiaa
