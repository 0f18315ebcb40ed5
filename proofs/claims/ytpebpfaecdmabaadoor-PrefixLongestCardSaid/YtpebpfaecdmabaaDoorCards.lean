/-
  DERIVED. GIVEN WITH THE SEED: THE CARDS: each row of YtpebpfaecdmabaaDoorRows.lean that lists a variable, with what it lists TIED to the program's text (the seventh form; the later family's looks); each row that meets fmt, with fmt's text TOLD by the authors' own Lean function (tested against real Go, not proved from fmt's source: count such statements apart). THE CARD IS WHAT COUNTS. Prove the row's statement (the work); the ties are given (YtpebpfaecdmabaaDoorTie.lean); close each card by the builder's one call (the guide's Derived/Test/ToyasCard.lean, 'card_holds'). Laid BY PROGRAM, IN A SANDBOX (cutbox-door.mjs). By AI agents, Wed Nov 11 2026. No macro, syntax, notation, axiom, sorry.
-/
import Derived.Test.YtpebpfaecdmabaaDoorRows
import GoSem.ClaimSeven
namespace Go.Proofs.YtpebpfaecdmabaaDoor
namespace Rows

/-- THE TIED CARD OF 'causewaylaw12.PrefixOnes'. -/
def prefixOnesCard : Claim7 := { stood := { row := prefixOnesRow, standIns := [], harness := (true, "5bc551b685121e4693e701690916b6acd8de627aed46cd8280465d57dd100620"), looks := false }, kinds := [], alts := [], laidByText := true, laidKinds := [.data], laidTests := true, laidLooks := .later }
def PrefixOnesCardSaid : Prop := Claim7.holds Tryd.pinned (.plain (OpenSpec.ofChange prefixOnesSpec)) prefixOnesCard

/-- THE TIED CARD OF 'causewaylaw12.PrefixLongest'. -/
def prefixLongestCard : Claim7 := { stood := { row := prefixLongestRow, standIns := [], harness := (true, "5bc551b685121e4693e701690916b6acd8de627aed46cd8280465d57dd100620"), looks := false }, kinds := [], alts := [], laidByText := true, laidKinds := [.data], laidTests := true, laidLooks := .later }
def PrefixLongestCardSaid : Prop := Claim7.holds Tryd.pinned (.plain (OpenSpec.ofChange prefixLongestSpec)) prefixLongestCard

/-- THE SECOND FORM's CARD OF 'causewaylaw12.PrefixOnes'. -/
def prefixOnesUptoCard : Claim7 := { stood := { row := prefixOnesUptoRow, standIns := [], harness := (true, "5bc551b685121e4693e701690916b6acd8de627aed46cd8280465d57dd100620"), looks := false }, kinds := [], alts := [], laidByText := true, laidKinds := [.data], laidTests := true, laidLooks := .later }
def PrefixOnesUptoCardSaid : Prop := Claim7.holds Tryd.pinned (.plain (OpenSpec.upto prefixOnesSpec)) prefixOnesUptoCard

/-- THE SECOND FORM's CARD OF 'causewaylaw12.PrefixLongest'. -/
def prefixLongestUptoCard : Claim7 := { stood := { row := prefixLongestUptoRow, standIns := [], harness := (true, "5bc551b685121e4693e701690916b6acd8de627aed46cd8280465d57dd100620"), looks := false }, kinds := [], alts := [], laidByText := true, laidKinds := [.data], laidTests := true, laidLooks := .later }
def PrefixLongestUptoCardSaid : Prop := Claim7.holds Tryd.pinned (.plain (OpenSpec.upto prefixLongestSpec)) prefixLongestUptoCard
end Rows
end Go.Proofs.YtpebpfaecdmabaaDoor
