/-
  DERIVED. GIVEN WITH THE SEED: THE CARDS: each row of YtpffmolibjimgaaGreatDoorRows.lean that lists a variable, with what it lists TIED to the program's text (the seventh form; the later family's looks); each row that meets fmt, with fmt's text TOLD by the authors' own Lean function (tested against real Go, not proved from fmt's source: count such statements apart). THE CARD IS WHAT COUNTS. Prove the row's statement (the work); the ties are given (YtpffmolibjimgaaGreatDoorTie.lean); close each card by the builder's one call (the guide's Derived/Test/ToyasCard.lean, 'card_holds'). Laid BY PROGRAM, IN A SANDBOX (cutbox-door.mjs). By AI agents, Wed Nov 11 2026. No macro, syntax, notation, axiom, sorry.
-/
import Derived.Test.YtpffmolibjimgaaGreatDoorRows
import GoSem.ClaimSeven
namespace Go.Proofs.YtpffmolibjimgaaGreatDoor
namespace Rows

/-- THE TIED CARD OF 'laws.FnExactKnownPuzzle'. -/
def fnExactKnownPuzzleCard : Claim7 := { stood := { row := fnExactKnownPuzzleRow, standIns := [], harness := (true, "83497394b41e8bbbbe187dae4c8fe22619c08b87c4e3836e9cb599c75271beec"), looks := true }, kinds := [], alts := [], laidByText := true, laidKinds := [.data, .data, .data, .data, .sentinel, .sentinel, .pinned], laidTests := true, laidLooks := .later }
def FnExactKnownPuzzleCardSaid : Prop := Claim7.holds Tryz.pinned (.plain (OpenSpec.ofChange fnExactKnownPuzzleSpec)) fnExactKnownPuzzleCard

/-- THE TIED CARD OF 'laws.FnCycleTexts'. -/
def fnCycleTextsCard : Claim7 := { stood := { row := fnCycleTextsRow, standIns := [], harness := (true, "83497394b41e8bbbbe187dae4c8fe22619c08b87c4e3836e9cb599c75271beec"), looks := true }, kinds := [], alts := [], laidByText := true, laidKinds := [.data, .data, .data, .data, .sentinel, .sentinel, .pinned], laidTests := true, laidLooks := .later }
def FnCycleTextsCardSaid : Prop := Claim7.holds Tryz.pinned (.plain (OpenSpec.ofChange fnCycleTextsSpec)) fnCycleTextsCard

/-- THE TIED CARD OF 'laws.FnKnownPuzzles'. -/
def fnKnownPuzzlesCard : Claim7 := { stood := { row := fnKnownPuzzlesRow, standIns := [], harness := (true, "83497394b41e8bbbbe187dae4c8fe22619c08b87c4e3836e9cb599c75271beec"), looks := true }, kinds := [], alts := [], laidByText := true, laidKinds := [.data, .data, .data, .data, .sentinel, .sentinel, .pinned], laidTests := true, laidLooks := .later }
def FnKnownPuzzlesCardSaid : Prop := Claim7.holds Tryz.pinned (.plain (OpenSpec.ofChange fnKnownPuzzlesSpec)) fnKnownPuzzlesCard

/-- THE SECOND FORM's CARD OF 'laws.FnExactKnownPuzzle'. -/
def fnExactKnownPuzzleUptoCard : Claim7 := { stood := { row := fnExactKnownPuzzleUptoRow, standIns := [], harness := (true, "83497394b41e8bbbbe187dae4c8fe22619c08b87c4e3836e9cb599c75271beec"), looks := true }, kinds := [], alts := [], laidByText := true, laidKinds := [.data, .data, .data, .data, .sentinel, .sentinel, .pinned], laidTests := true, laidLooks := .later }
def FnExactKnownPuzzleUptoCardSaid : Prop := Claim7.holds Tryz.pinned (.plain (OpenSpec.upto fnExactKnownPuzzleSpec)) fnExactKnownPuzzleUptoCard

/-- THE SECOND FORM's CARD OF 'laws.FnCycleTexts'. -/
def fnCycleTextsUptoCard : Claim7 := { stood := { row := fnCycleTextsUptoRow, standIns := [], harness := (true, "83497394b41e8bbbbe187dae4c8fe22619c08b87c4e3836e9cb599c75271beec"), looks := true }, kinds := [], alts := [], laidByText := true, laidKinds := [.data, .data, .data, .data, .sentinel, .sentinel, .pinned], laidTests := true, laidLooks := .later }
def FnCycleTextsUptoCardSaid : Prop := Claim7.holds Tryz.pinned (.plain (OpenSpec.upto fnCycleTextsSpec)) fnCycleTextsUptoCard

/-- THE SECOND FORM's CARD OF 'laws.FnKnownPuzzles'. -/
def fnKnownPuzzlesUptoCard : Claim7 := { stood := { row := fnKnownPuzzlesUptoRow, standIns := [], harness := (true, "83497394b41e8bbbbe187dae4c8fe22619c08b87c4e3836e9cb599c75271beec"), looks := true }, kinds := [], alts := [], laidByText := true, laidKinds := [.data, .data, .data, .data, .sentinel, .sentinel, .pinned], laidTests := true, laidLooks := .later }
def FnKnownPuzzlesUptoCardSaid : Prop := Claim7.holds Tryz.pinned (.plain (OpenSpec.upto fnKnownPuzzlesSpec)) fnKnownPuzzlesUptoCard
end Rows
end Go.Proofs.YtpffmolibjimgaaGreatDoor
