/-
  DERIVED. GIVEN WITH THE SEED: THE CARDS: each row of YtfgmmklljibbiaaDoorRows.lean that lists a variable, with what it lists TIED to the program's text (the seventh form; the later family's looks); each row that meets fmt, with fmt's text TOLD by the authors' own Lean function (tested against real Go, not proved from fmt's source: count such statements apart). THE CARD IS WHAT COUNTS. Prove the row's statement (the work); the ties are given (YtfgmmklljibbiaaDoorTie.lean); close each card by the builder's one call (the guide's Derived/Test/ToyasCard.lean, 'card_holds'). Laid BY PROGRAM, IN A SANDBOX (cutbox-door.mjs). By AI agents, Wed Nov 11 2026. No macro, syntax, notation, axiom, sorry.
-/
import Derived.Test.YtfgmmklljibbiaaDoorRows
import GoSem.ClaimSeven
namespace Go.Proofs.YtfgmmklljibbiaaDoor
namespace Rows

/-- THE TIED CARD OF 'laws.FnExactShowClient'. -/
def fnExactShowClientCard : Claim7 := { stood := { row := fnExactShowClientRow, standIns := [], harness := (true, "bcb3b7472f203badeca4134a2aab41fbb5695a669b37ddb11b6de8faedaf186b"), looks := false }, kinds := [], alts := [], laidByText := true, laidKinds := [.data, .data, .data], laidTests := true, laidLooks := .later }
def FnExactShowClientCardSaid : Prop := Claim7.holds Tryd.pinned (.plain (OpenSpec.ofChange fnExactShowClientSpec)) fnExactShowClientCard

/-- THE TIED CARD OF 'laws.FnExactShowTerm'. -/
def fnExactShowTermCard : Claim7 := { stood := { row := fnExactShowTermRow, standIns := [], harness := (true, "bcb3b7472f203badeca4134a2aab41fbb5695a669b37ddb11b6de8faedaf186b"), looks := false }, kinds := [], alts := [], laidByText := true, laidKinds := [.data, .data, .data], laidTests := true, laidLooks := .later }
def FnExactShowTermCardSaid : Prop := Claim7.holds Tryd.pinned (.plain (OpenSpec.ofChange fnExactShowTermSpec)) fnExactShowTermCard

/-- THE TIED CARD OF 'laws.FnExactShowGate'. -/
def fnExactShowGateCard : Claim7 := { stood := { row := fnExactShowGateRow, standIns := [], harness := (true, "bcb3b7472f203badeca4134a2aab41fbb5695a669b37ddb11b6de8faedaf186b"), looks := false }, kinds := [], alts := [], laidByText := true, laidKinds := [.data, .data, .data], laidTests := true, laidLooks := .later }
def FnExactShowGateCardSaid : Prop := Claim7.holds Tryd.pinned (.plain (OpenSpec.ofChange fnExactShowGateSpec)) fnExactShowGateCard

/-- THE TIED CARD OF 'laws.FnExactShowWorld'. -/
def fnExactShowWorldCard : Claim7 := { stood := { row := fnExactShowWorldRow, standIns := [], harness := (true, "bcb3b7472f203badeca4134a2aab41fbb5695a669b37ddb11b6de8faedaf186b"), looks := false }, kinds := [], alts := [], laidByText := true, laidKinds := [.data, .data, .data], laidTests := true, laidLooks := .later }
def FnExactShowWorldCardSaid : Prop := Claim7.holds Tryd.pinned (.plain (OpenSpec.ofChange fnExactShowWorldSpec)) fnExactShowWorldCard

/-- THE SECOND FORM's CARD OF 'laws.FnExactShowClient'. -/
def fnExactShowClientUptoCard : Claim7 := { stood := { row := fnExactShowClientUptoRow, standIns := [], harness := (true, "bcb3b7472f203badeca4134a2aab41fbb5695a669b37ddb11b6de8faedaf186b"), looks := false }, kinds := [], alts := [], laidByText := true, laidKinds := [.data, .data, .data], laidTests := true, laidLooks := .later }
def FnExactShowClientUptoCardSaid : Prop := Claim7.holds Tryd.pinned (.plain (OpenSpec.upto fnExactShowClientSpec)) fnExactShowClientUptoCard

/-- THE SECOND FORM's CARD OF 'laws.FnExactShowTerm'. -/
def fnExactShowTermUptoCard : Claim7 := { stood := { row := fnExactShowTermUptoRow, standIns := [], harness := (true, "bcb3b7472f203badeca4134a2aab41fbb5695a669b37ddb11b6de8faedaf186b"), looks := false }, kinds := [], alts := [], laidByText := true, laidKinds := [.data, .data, .data], laidTests := true, laidLooks := .later }
def FnExactShowTermUptoCardSaid : Prop := Claim7.holds Tryd.pinned (.plain (OpenSpec.upto fnExactShowTermSpec)) fnExactShowTermUptoCard

/-- THE SECOND FORM's CARD OF 'laws.FnExactShowGate'. -/
def fnExactShowGateUptoCard : Claim7 := { stood := { row := fnExactShowGateUptoRow, standIns := [], harness := (true, "bcb3b7472f203badeca4134a2aab41fbb5695a669b37ddb11b6de8faedaf186b"), looks := false }, kinds := [], alts := [], laidByText := true, laidKinds := [.data, .data, .data], laidTests := true, laidLooks := .later }
def FnExactShowGateUptoCardSaid : Prop := Claim7.holds Tryd.pinned (.plain (OpenSpec.upto fnExactShowGateSpec)) fnExactShowGateUptoCard

/-- THE SECOND FORM's CARD OF 'laws.FnExactShowWorld'. -/
def fnExactShowWorldUptoCard : Claim7 := { stood := { row := fnExactShowWorldUptoRow, standIns := [], harness := (true, "bcb3b7472f203badeca4134a2aab41fbb5695a669b37ddb11b6de8faedaf186b"), looks := false }, kinds := [], alts := [], laidByText := true, laidKinds := [.data, .data, .data], laidTests := true, laidLooks := .later }
def FnExactShowWorldUptoCardSaid : Prop := Claim7.holds Tryd.pinned (.plain (OpenSpec.upto fnExactShowWorldSpec)) fnExactShowWorldUptoCard
end Rows
end Go.Proofs.YtfgmmklljibbiaaDoor
