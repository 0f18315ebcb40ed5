/-
  DERIVED. GIVEN WITH THE SEED: THE CARDS: each row of YtcociflljbaicaaDoorRows.lean that lists a variable, with what it lists TIED to the program's text (the seventh form; the later family's looks); each row that meets fmt, with fmt's text TOLD by the authors' own Lean function (tested against real Go, not proved from fmt's source: count such statements apart). THE CARD IS WHAT COUNTS. Prove the row's statement (the work); the ties are given (YtcociflljbaicaaDoorTie.lean); close each card by the builder's one call (the guide's Derived/Test/ToyasCard.lean, 'card_holds'). Laid BY PROGRAM, IN A SANDBOX (cutbox-door.mjs). By AI agents, Wed Nov 11 2026. No macro, syntax, notation, axiom, sorry.
-/
import Derived.Test.YtcociflljbaicaaDoorRows
import GoSem.ClaimSeven
namespace Go.Proofs.YtcociflljbaicaaDoor
namespace Rows

/-- THE TIED CARD OF 'causewaylaw07.TextPrefixes'. -/
def textPrefixesCard : Claim7 := { stood := { row := textPrefixesRow, standIns := [], harness := (true, "067dee2791658efd6bea98e50ce8b2a006f040529db685112932328a28b72edf"), looks := true }, kinds := [], alts := [], laidByText := true, laidKinds := [.data, .data, .data, .data, .sentinel, .sentinel, .pinned], laidTests := true, laidLooks := .later }
def TextPrefixesCardSaid : Prop := Claim7.holds Tryd.pinned (.plain (OpenSpec.ofChange textPrefixesSpec)) textPrefixesCard

/-- THE TIED CARD OF 'causewaylaw07.TextReadEdits'. -/
def textReadEditsCard : Claim7 := { stood := { row := textReadEditsRow, standIns := [], harness := (true, "067dee2791658efd6bea98e50ce8b2a006f040529db685112932328a28b72edf"), looks := true }, kinds := [], alts := [], laidByText := true, laidKinds := [.data, .data, .data, .data, .sentinel, .sentinel, .pinned], laidTests := true, laidLooks := .later }
def TextReadEditsCardSaid : Prop := Claim7.holds Tryd.pinned (.plain (OpenSpec.ofChange textReadEditsSpec)) textReadEditsCard

/-- THE SECOND FORM's CARD OF 'causewaylaw07.TextPrefixes'. -/
def textPrefixesUptoCard : Claim7 := { stood := { row := textPrefixesUptoRow, standIns := [], harness := (true, "067dee2791658efd6bea98e50ce8b2a006f040529db685112932328a28b72edf"), looks := true }, kinds := [], alts := [], laidByText := true, laidKinds := [.data, .data, .data, .data, .sentinel, .sentinel, .pinned], laidTests := true, laidLooks := .later }
def TextPrefixesUptoCardSaid : Prop := Claim7.holds Tryd.pinned (.plain (OpenSpec.upto textPrefixesSpec)) textPrefixesUptoCard

/-- THE SECOND FORM's CARD OF 'causewaylaw07.TextReadEdits'. -/
def textReadEditsUptoCard : Claim7 := { stood := { row := textReadEditsUptoRow, standIns := [], harness := (true, "067dee2791658efd6bea98e50ce8b2a006f040529db685112932328a28b72edf"), looks := true }, kinds := [], alts := [], laidByText := true, laidKinds := [.data, .data, .data, .data, .sentinel, .sentinel, .pinned], laidTests := true, laidLooks := .later }
def TextReadEditsUptoCardSaid : Prop := Claim7.holds Tryd.pinned (.plain (OpenSpec.upto textReadEditsSpec)) textReadEditsUptoCard
end Rows
end Go.Proofs.YtcociflljbaicaaDoor
