/-
  DERIVED. GIVEN WITH THE SEED: THE CARDS: each row of YthhinchifegofaaDoorRows.lean that lists a variable, with what it lists TIED to the program's text (the seventh form; the later family's looks); each row that meets fmt, with fmt's text TOLD by the authors' own Lean function (tested against real Go, not proved from fmt's source: count such statements apart). THE CARD IS WHAT COUNTS. Prove the row's statement (the work); the ties are given (YthhinchifegofaaDoorTie.lean); close each card by the builder's one call (the guide's Derived/Test/ToyasCard.lean, 'card_holds'). Laid BY PROGRAM, IN A SANDBOX (cutbox-door.mjs). By AI agents, Wed Nov 11 2026. No macro, syntax, notation, axiom, sorry.
-/
import Derived.Test.YthhinchifegofaaDoorRows
import GoSem.ClaimSeven
namespace Go.Proofs.YthhinchifegofaaDoor
namespace Rows

/-- THE TIED CARD OF 'causewaylaw03.BitsEach'. -/
def bitsEachCard : Claim7 := { stood := { row := bitsEachRow, standIns := [], harness := (true, "ced3985e3b703df2aa047946f1c422c15d6361d54698e58268ca05bc5f58d322"), looks := true }, kinds := [], alts := [], laidByText := true, laidKinds := [.data], laidTests := true, laidLooks := .later }
def BitsEachCardSaid : Prop := Claim7.holds Tryd.pinned (.plain (OpenSpec.ofChange bitsEachSpec)) bitsEachCard

/-- THE TIED CARD OF 'causewaylaw03.BitsTwos'. -/
def bitsTwosCard : Claim7 := { stood := { row := bitsTwosRow, standIns := [], harness := (true, "ced3985e3b703df2aa047946f1c422c15d6361d54698e58268ca05bc5f58d322"), looks := true }, kinds := [], alts := [], laidByText := true, laidKinds := [.data], laidTests := true, laidLooks := .later }
def BitsTwosCardSaid : Prop := Claim7.holds Tryd.pinned (.plain (OpenSpec.ofChange bitsTwosSpec)) bitsTwosCard

/-- THE TIED CARD OF 'causewaylaw03.BitsTexts'. -/
def bitsTextsCard : Claim7 := { stood := { row := bitsTextsRow, standIns := [], harness := (true, "ced3985e3b703df2aa047946f1c422c15d6361d54698e58268ca05bc5f58d322"), looks := true }, kinds := [], alts := [], laidByText := true, laidKinds := [.data, .data, .data, .data, .sentinel, .sentinel, .pinned], laidTests := true, laidLooks := .later }
def BitsTextsCardSaid : Prop := Claim7.holds Tryd.pinned (.plain (OpenSpec.ofChange bitsTextsSpec)) bitsTextsCard

/-- THE SECOND FORM's CARD OF 'causewaylaw03.BitsEach'. -/
def bitsEachUptoCard : Claim7 := { stood := { row := bitsEachUptoRow, standIns := [], harness := (true, "ced3985e3b703df2aa047946f1c422c15d6361d54698e58268ca05bc5f58d322"), looks := true }, kinds := [], alts := [], laidByText := true, laidKinds := [.data], laidTests := true, laidLooks := .later }
def BitsEachUptoCardSaid : Prop := Claim7.holds Tryd.pinned (.plain (OpenSpec.upto bitsEachSpec)) bitsEachUptoCard

/-- THE SECOND FORM's CARD OF 'causewaylaw03.BitsTwos'. -/
def bitsTwosUptoCard : Claim7 := { stood := { row := bitsTwosUptoRow, standIns := [], harness := (true, "ced3985e3b703df2aa047946f1c422c15d6361d54698e58268ca05bc5f58d322"), looks := true }, kinds := [], alts := [], laidByText := true, laidKinds := [.data], laidTests := true, laidLooks := .later }
def BitsTwosUptoCardSaid : Prop := Claim7.holds Tryd.pinned (.plain (OpenSpec.upto bitsTwosSpec)) bitsTwosUptoCard

/-- THE SECOND FORM's CARD OF 'causewaylaw03.BitsTexts'. -/
def bitsTextsUptoCard : Claim7 := { stood := { row := bitsTextsUptoRow, standIns := [], harness := (true, "ced3985e3b703df2aa047946f1c422c15d6361d54698e58268ca05bc5f58d322"), looks := true }, kinds := [], alts := [], laidByText := true, laidKinds := [.data, .data, .data, .data, .sentinel, .sentinel, .pinned], laidTests := true, laidLooks := .later }
def BitsTextsUptoCardSaid : Prop := Claim7.holds Tryd.pinned (.plain (OpenSpec.upto bitsTextsSpec)) bitsTextsUptoCard
end Rows
end Go.Proofs.YthhinchifegofaaDoor
