/-
  DERIVED. GIVEN WITH THE SEED: THE CARDS: each row of YticbabpajligbaaDoorRows.lean that lists a variable, with what it lists TIED to the program's text (the seventh form; the later family's looks); each row that meets fmt, with fmt's text TOLD by the authors' own Lean function (tested against real Go, not proved from fmt's source: count such statements apart). THE CARD IS WHAT COUNTS. Prove the row's statement (the work); the ties are given (YticbabpajligbaaDoorTie.lean); close each card by the builder's one call (the guide's Derived/Test/ToyasCard.lean, 'card_holds'). Laid BY PROGRAM, IN A SANDBOX (cutbox-door.mjs). By AI agents, Wed Nov 11 2026. No macro, syntax, notation, axiom, sorry.
-/
import Derived.Test.YticbabpajligbaaDoorRows
import GoSem.ClaimSeven
namespace Go.Proofs.YticbabpajligbaaDoor
namespace Rows

/-- THE TIED CARD OF 'laws.FnExactFormatWord'. -/
def fnExactFormatWordCard : Claim7 := { stood := { row := fnExactFormatWordRow, standIns := [], harness := (true, "32245a34af45a6dc326a58c61aa00cc012c372ff2737b4f7b68ab21e784144bd"), looks := false }, kinds := [], alts := [], laidByText := true, laidKinds := [.data, .data, .data], laidTests := true, laidLooks := .later }
def FnExactFormatWordCardSaid : Prop := Claim7.holds Tryd.pinned (.plain (OpenSpec.ofChange fnExactFormatWordSpec)) fnExactFormatWordCard

/-- THE TIED CARD OF 'laws.FnExactFormatNotation'. -/
def fnExactFormatNotationCard : Claim7 := { stood := { row := fnExactFormatNotationRow, standIns := [], harness := (true, "32245a34af45a6dc326a58c61aa00cc012c372ff2737b4f7b68ab21e784144bd"), looks := false }, kinds := [], alts := [], laidByText := true, laidKinds := [.data, .data, .data], laidTests := true, laidLooks := .later }
def FnExactFormatNotationCardSaid : Prop := Claim7.holds Tryd.pinned (.plain (OpenSpec.ofChange fnExactFormatNotationSpec)) fnExactFormatNotationCard

/-- THE TIED CARD OF 'laws.FnNotationRoundTrip'. -/
def fnNotationRoundTripCard : Claim7 := { stood := { row := fnNotationRoundTripRow, standIns := [], harness := (true, "32245a34af45a6dc326a58c61aa00cc012c372ff2737b4f7b68ab21e784144bd"), looks := false }, kinds := [], alts := [], laidByText := true, laidKinds := [.data, .data, .data], laidTests := true, laidLooks := .later }
def FnNotationRoundTripCardSaid : Prop := Claim7.holds Tryd.pinned (.plain (OpenSpec.ofChange fnNotationRoundTripSpec)) fnNotationRoundTripCard

/-- THE TIED CARD OF 'laws.FnNotationExpansion'. -/
def fnNotationExpansionCard : Claim7 := { stood := { row := fnNotationExpansionRow, standIns := [], harness := (true, "32245a34af45a6dc326a58c61aa00cc012c372ff2737b4f7b68ab21e784144bd"), looks := false }, kinds := [], alts := [], laidByText := true, laidKinds := [.data, .data, .data], laidTests := true, laidLooks := .later }
def FnNotationExpansionCardSaid : Prop := Claim7.holds Tryd.pinned (.plain (OpenSpec.ofChange fnNotationExpansionSpec)) fnNotationExpansionCard

/-- THE TIED CARD OF 'laws.FnSimplifyWord'. -/
def fnSimplifyWordCard : Claim7 := { stood := { row := fnSimplifyWordRow, standIns := [], harness := (true, "32245a34af45a6dc326a58c61aa00cc012c372ff2737b4f7b68ab21e784144bd"), looks := false }, kinds := [], alts := [], laidByText := true, laidKinds := [.data, .data, .data], laidTests := true, laidLooks := .later }
def FnSimplifyWordCardSaid : Prop := Claim7.holds Tryd.pinned (.plain (OpenSpec.ofChange fnSimplifyWordSpec)) fnSimplifyWordCard

/-- THE SECOND FORM's CARD OF 'laws.FnExactFormatWord'. -/
def fnExactFormatWordUptoCard : Claim7 := { stood := { row := fnExactFormatWordUptoRow, standIns := [], harness := (true, "32245a34af45a6dc326a58c61aa00cc012c372ff2737b4f7b68ab21e784144bd"), looks := false }, kinds := [], alts := [], laidByText := true, laidKinds := [.data, .data, .data], laidTests := true, laidLooks := .later }
def FnExactFormatWordUptoCardSaid : Prop := Claim7.holds Tryd.pinned (.plain (OpenSpec.upto fnExactFormatWordSpec)) fnExactFormatWordUptoCard

/-- THE SECOND FORM's CARD OF 'laws.FnExactFormatNotation'. -/
def fnExactFormatNotationUptoCard : Claim7 := { stood := { row := fnExactFormatNotationUptoRow, standIns := [], harness := (true, "32245a34af45a6dc326a58c61aa00cc012c372ff2737b4f7b68ab21e784144bd"), looks := false }, kinds := [], alts := [], laidByText := true, laidKinds := [.data, .data, .data], laidTests := true, laidLooks := .later }
def FnExactFormatNotationUptoCardSaid : Prop := Claim7.holds Tryd.pinned (.plain (OpenSpec.upto fnExactFormatNotationSpec)) fnExactFormatNotationUptoCard

/-- THE SECOND FORM's CARD OF 'laws.FnNotationRoundTrip'. -/
def fnNotationRoundTripUptoCard : Claim7 := { stood := { row := fnNotationRoundTripUptoRow, standIns := [], harness := (true, "32245a34af45a6dc326a58c61aa00cc012c372ff2737b4f7b68ab21e784144bd"), looks := false }, kinds := [], alts := [], laidByText := true, laidKinds := [.data, .data, .data], laidTests := true, laidLooks := .later }
def FnNotationRoundTripUptoCardSaid : Prop := Claim7.holds Tryd.pinned (.plain (OpenSpec.upto fnNotationRoundTripSpec)) fnNotationRoundTripUptoCard

/-- THE SECOND FORM's CARD OF 'laws.FnNotationExpansion'. -/
def fnNotationExpansionUptoCard : Claim7 := { stood := { row := fnNotationExpansionUptoRow, standIns := [], harness := (true, "32245a34af45a6dc326a58c61aa00cc012c372ff2737b4f7b68ab21e784144bd"), looks := false }, kinds := [], alts := [], laidByText := true, laidKinds := [.data, .data, .data], laidTests := true, laidLooks := .later }
def FnNotationExpansionUptoCardSaid : Prop := Claim7.holds Tryd.pinned (.plain (OpenSpec.upto fnNotationExpansionSpec)) fnNotationExpansionUptoCard

/-- THE SECOND FORM's CARD OF 'laws.FnSimplifyWord'. -/
def fnSimplifyWordUptoCard : Claim7 := { stood := { row := fnSimplifyWordUptoRow, standIns := [], harness := (true, "32245a34af45a6dc326a58c61aa00cc012c372ff2737b4f7b68ab21e784144bd"), looks := false }, kinds := [], alts := [], laidByText := true, laidKinds := [.data, .data, .data], laidTests := true, laidLooks := .later }
def FnSimplifyWordUptoCardSaid : Prop := Claim7.holds Tryd.pinned (.plain (OpenSpec.upto fnSimplifyWordSpec)) fnSimplifyWordUptoCard
end Rows
end Go.Proofs.YticbabpajligbaaDoor
