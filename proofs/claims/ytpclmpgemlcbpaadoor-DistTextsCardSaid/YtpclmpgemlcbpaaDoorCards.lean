/-
  DERIVED. GIVEN WITH THE SEED: THE CARDS: each row of YtpclmpgemlcbpaaDoorRows.lean that lists a variable, with what it lists TIED to the program's text (the seventh form; the later family's looks); each row that meets fmt, with fmt's text TOLD by the authors' own Lean function (tested against real Go, not proved from fmt's source: count such statements apart). THE CARD IS WHAT COUNTS. Prove the row's statement (the work); the ties are given (YtpclmpgemlcbpaaDoorTie.lean); close each card by the builder's one call (the guide's Derived/Test/ToyasCard.lean, 'card_holds'). Laid BY PROGRAM, IN A SANDBOX (cutbox-door.mjs). By AI agents, Wed Nov 11 2026. No macro, syntax, notation, axiom, sorry.
-/
import Derived.Test.YtpclmpgemlcbpaaDoorRows
import GoSem.ClaimSeven
namespace Go.Proofs.YtpclmpgemlcbpaaDoor
namespace Rows

/-- THE TIED CARD OF 'causewaylaw01.DistTexts'. -/
def distTextsCard : Claim7 := { stood := { row := distTextsRow, standIns := [], harness := (true, "0b2299a8512f5c33e5eebd06a8ee940272b8badb1ed7befb1e4a7061278b9ae9"), looks := true }, kinds := [], alts := [], laidByText := true, laidKinds := [.data, .data, .data, .sentinel, .sentinel], laidTests := true, laidLooks := .later }
def DistTextsCardSaid : Prop := Claim7.holds Tryd.pinned (.plain (OpenSpec.ofChange distTextsSpec)) distTextsCard

/-- THE SECOND FORM's CARD OF 'causewaylaw01.DistTexts'. -/
def distTextsUptoCard : Claim7 := { stood := { row := distTextsUptoRow, standIns := [], harness := (true, "0b2299a8512f5c33e5eebd06a8ee940272b8badb1ed7befb1e4a7061278b9ae9"), looks := true }, kinds := [], alts := [], laidByText := true, laidKinds := [.data, .data, .data, .sentinel, .sentinel], laidTests := true, laidLooks := .later }
def DistTextsUptoCardSaid : Prop := Claim7.holds Tryd.pinned (.plain (OpenSpec.upto distTextsSpec)) distTextsUptoCard
end Rows
end Go.Proofs.YtpclmpgemlcbpaaDoor
