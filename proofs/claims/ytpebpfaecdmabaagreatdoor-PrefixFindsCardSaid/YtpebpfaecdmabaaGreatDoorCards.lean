/-
  DERIVED. GIVEN WITH THE SEED: THE CARDS: each row of YtpebpfaecdmabaaGreatDoorRows.lean that lists a variable, with what it lists TIED to the program's text (the seventh form; the later family's looks); each row that meets fmt, with fmt's text TOLD by the authors' own Lean function (tested against real Go, not proved from fmt's source: count such statements apart). THE CARD IS WHAT COUNTS. Prove the row's statement (the work); the ties are given (YtpebpfaecdmabaaGreatDoorTie.lean); close each card by the builder's one call (the guide's Derived/Test/ToyasCard.lean, 'card_holds'). Laid BY PROGRAM, IN A SANDBOX (cutbox-door.mjs). By AI agents, Wed Nov 11 2026. No macro, syntax, notation, axiom, sorry.
-/
import Derived.Test.YtpebpfaecdmabaaGreatDoorRows
import GoSem.ClaimSeven
namespace Go.Proofs.YtpebpfaecdmabaaGreatDoor
namespace Rows

/-- THE TIED CARD OF 'causewaylaw12.PrefixFinds'. -/
def prefixFindsCard : Claim7 := { stood := { row := prefixFindsRow, standIns := [], harness := (true, "1ec2e6a5aa39b1e15ad70714f0231a1e512488ba15324595cbdfa385cc039ef4"), looks := false }, kinds := [], alts := [], laidByText := true, laidKinds := [.data], laidTests := true, laidLooks := .later }
def PrefixFindsCardSaid : Prop := Claim7.holds Tryz.pinned (.plain (OpenSpec.ofChange prefixFindsSpec)) prefixFindsCard

/-- THE SECOND FORM's CARD OF 'causewaylaw12.PrefixFinds'. -/
def prefixFindsUptoCard : Claim7 := { stood := { row := prefixFindsUptoRow, standIns := [], harness := (true, "1ec2e6a5aa39b1e15ad70714f0231a1e512488ba15324595cbdfa385cc039ef4"), looks := false }, kinds := [], alts := [], laidByText := true, laidKinds := [.data], laidTests := true, laidLooks := .later }
def PrefixFindsUptoCardSaid : Prop := Claim7.holds Tryz.pinned (.plain (OpenSpec.upto prefixFindsSpec)) prefixFindsUptoCard
end Rows
end Go.Proofs.YtpebpfaecdmabaaGreatDoor
