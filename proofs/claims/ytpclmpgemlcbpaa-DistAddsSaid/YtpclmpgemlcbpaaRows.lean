/-
  No cell of these rows narrows 'for every input' (looked for: loops, veiled, ifaces, maps, wideKeys, modest, calm, conditions, laid).
  DERIVED. THE GIVEN ROWS OF THIS SEAT. 3 by the template 'for every input the law returns true; each argument reads behind the call as it read before'; 0 by the template 'total and deterministic' (their statements: YtpclmpgemlcbpaaTotals.lean).
  GIVEN WITH THE SEED: the statements are not yours to turn. If you find one false, say at which input.
  Laid BY PROGRAM, IN A SANDBOX (cutbox-rows.mjs): the forced cells as the released guide's own fill.sh prints them over the translation e5fa2850948c6ddc… (all of the seat's roots in one cut). By AI agents, Wed Nov 11 2026. No macro, syntax, notation, axiom, sorry.
-/
import Derived.Test.YtpclmpgemlcbpaaChecked
import GoSem.Claim
import GoSem.ClaimJoined
import GoSem.ClaimMapViews
import Derived.JoinedTies
import Derived.KernelRfl
namespace Go.Proofs.Ytpclmpgemlcbpaa
/- THE CELL 'sum', in the pinned program and in every row, IS THE sha256 OF THE DUMP (.gsa) THAT YtpclmpgemlcbpaaProg.lean LOADS. Nothing in Lean hashes anything: it is a label: what it is worth is what the hold of that sum in a sandbox is worth. -/
noncomputable def Try.pinned : Pinned := { name := "ytpclmpgemlcbpaa", sum := "e5fa2850948c6ddc25185ab891be4eb9ee3ab6217195830f253a0f34804b9bfa", checked := Try.checked }
namespace Rows
def none {H : Type} : Left H := { results := [], args := [] }

/-- 'causewaylaw01.DistSums': WHATEVER THE INPUT: true; the input reads as it did. -/
def distSumsSpec : ChangeSpec := { name := "distSums", fn := fun _ => fun
  | [d1, d2] => { results := [.lit (.bool true)], args := [d1, d2] }
  | _ => none }
def distSumsRow : OpenClaim := { program := "ytpclmpgemlcbpaa", sum := "e5fa2850948c6ddc25185ab891be4eb9ee3ab6217195830f253a0f34804b9bfa", func := "causeway/causewaylaw01.DistSums", spec := "distSums", apart := false }
def DistSumsSaid : Prop := distSumsRow.holds Try.pinned (OpenSpec.ofChange distSumsSpec)

/-- ITS FALSE NEIGHBOUR: 'it returns false'. Refute it at one input. -/
def distSumsWrong : ChangeSpec := { name := "distSums", fn := fun _ => fun
  | [d1, d2] => { results := [.lit (.bool false)], args := [d1, d2] }
  | _ => none }
def DistSumsWrongFalsely : Prop := distSumsRow.holds Try.pinned (OpenSpec.ofChange distSumsWrong)

/-- 'causewaylaw01.DistLeast': WHATEVER THE INPUT: true; the input reads as it did. -/
def distLeastSpec : ChangeSpec := { name := "distLeast", fn := fun _ => fun
  | [d] => { results := [.lit (.bool true)], args := [d] }
  | _ => none }
def distLeastRow : OpenClaim := { program := "ytpclmpgemlcbpaa", sum := "e5fa2850948c6ddc25185ab891be4eb9ee3ab6217195830f253a0f34804b9bfa", func := "causeway/causewaylaw01.DistLeast", spec := "distLeast", apart := false }
def DistLeastSaid : Prop := distLeastRow.holds Try.pinned (OpenSpec.ofChange distLeastSpec)

/-- ITS FALSE NEIGHBOUR: 'it returns false'. Refute it at one input. -/
def distLeastWrong : ChangeSpec := { name := "distLeast", fn := fun _ => fun
  | [d] => { results := [.lit (.bool false)], args := [d] }
  | _ => none }
def DistLeastWrongFalsely : Prop := distLeastRow.holds Try.pinned (OpenSpec.ofChange distLeastWrong)

/-- 'causewaylaw01.DistAdds': WHATEVER THE INPUT: true; the input reads as it did. -/
def distAddsSpec : ChangeSpec := { name := "distAdds", fn := fun _ => fun
  | [d1, d2, d3, d4, d5, d6] => { results := [.lit (.bool true)], args := [d1, d2, d3, d4, d5, d6] }
  | _ => none }
def distAddsRow : OpenClaim := { program := "ytpclmpgemlcbpaa", sum := "e5fa2850948c6ddc25185ab891be4eb9ee3ab6217195830f253a0f34804b9bfa", func := "causeway/causewaylaw01.DistAdds", spec := "distAdds", apart := false }
def DistAddsSaid : Prop := distAddsRow.holds Try.pinned (OpenSpec.ofChange distAddsSpec)

/-- ITS FALSE NEIGHBOUR: 'it returns false'. Refute it at one input. -/
def distAddsWrong : ChangeSpec := { name := "distAdds", fn := fun _ => fun
  | [d1, d2, d3, d4, d5, d6] => { results := [.lit (.bool false)], args := [d1, d2, d3, d4, d5, d6] }
  | _ => none }
def DistAddsWrongFalsely : Prop := distAddsRow.holds Try.pinned (OpenSpec.ofChange distAddsWrong)

/- THE SECOND FORM. 'bulk': how many values and letters a reading holds, each counted each time it is reached (what is shared counts as often as it is met; a slice's spare places count too). A statement '..UptoSaid' is the law's where the arguments, and the package variables that the reading takes, are together of bulk at most 1048576: NARROWER than '..Said'. Prove '..Said' where nothing that the law and all that it calls make is longer than what came in: it says more and counts as full. Else prove '..UptoSaid'. A law counts once. -/
mutual
def uptoBulk {H : Type} : DataW H → Nat
  | .lit (.string bytes) => bytes.length + 1
  | .lit _ => 1
  | .nil => 1
  | .ptr d => uptoBulk d + 1
  | .slice elems spare => uptoBulkAll elems + uptoBulkAll spare + 1
  | .agg parts => uptoBulkAll parts + 1
  | .iface _ d => uptoBulk d + 1
  | .map entries => uptoBulkEntries entries + 1
  | .held _ => 1
def uptoBulkAll {H : Type} : List (DataW H) → Nat
  | [] => 0
  | d :: r => uptoBulk d + uptoBulkAll r
def uptoBulkEntries {H : Type} : List (Lit × DataW H) → Nat
  | [] => 0
  | x :: r => uptoBulkEntry x + uptoBulkEntries r
def uptoBulkEntry {H : Type} : Lit × DataW H → Nat
  | (.string bytes, d) => bytes.length + uptoBulk d + 1
  | (_, d) => uptoBulk d + 1
 end
def uptoSmall : (H : Type) → List (DataW H) → Bool := fun _ ds => decide (uptoBulkAll ds ≤ 1048576)
def OpenSpec.upto (s : _root_.Go.ChangeSpec) : _root_.Go.OpenSpec := { _root_.Go.OpenSpec.ofChange s with cond := some uptoSmall }

/-- 'causewaylaw01.DistSums', WHERE WHAT IT READS IS OF BULK AT MOST 1048576: true; the input reads as it did. -/
def distSumsUptoRow : OpenClaim := { program := "ytpclmpgemlcbpaa", sum := "e5fa2850948c6ddc25185ab891be4eb9ee3ab6217195830f253a0f34804b9bfa", func := "causeway/causewaylaw01.DistSums", spec := "distSums", apart := false, narrowed := true }
def DistSumsUptoSaid : Prop := distSumsUptoRow.holds Try.pinned (OpenSpec.upto distSumsSpec)

/-- 'causewaylaw01.DistLeast', WHERE WHAT IT READS IS OF BULK AT MOST 1048576: true; the input reads as it did. -/
def distLeastUptoRow : OpenClaim := { program := "ytpclmpgemlcbpaa", sum := "e5fa2850948c6ddc25185ab891be4eb9ee3ab6217195830f253a0f34804b9bfa", func := "causeway/causewaylaw01.DistLeast", spec := "distLeast", apart := false, narrowed := true }
def DistLeastUptoSaid : Prop := distLeastUptoRow.holds Try.pinned (OpenSpec.upto distLeastSpec)

/-- 'causewaylaw01.DistAdds', WHERE WHAT IT READS IS OF BULK AT MOST 1048576: true; the input reads as it did. -/
def distAddsUptoRow : OpenClaim := { program := "ytpclmpgemlcbpaa", sum := "e5fa2850948c6ddc25185ab891be4eb9ee3ab6217195830f253a0f34804b9bfa", func := "causeway/causewaylaw01.DistAdds", spec := "distAdds", apart := false, narrowed := true }
def DistAddsUptoSaid : Prop := distAddsUptoRow.holds Try.pinned (OpenSpec.upto distAddsSpec)

end Rows
end Go.Proofs.Ytpclmpgemlcbpaa
