/- The tied card of the law PrefixOnes. -/
import Derived.Test.YtpebpfaecdmabaaDoorZOPrefixOnes
import Derived.Test.YtpebpfaecdmabaaDoorCards
import Derived.Test.YtpebpfaecdmabaaDoorTie
import Derived.SevenTiedAt
namespace Go.Proofs.YtpebpfaecdmabaaDoor.prefixOnesCard
open Go

theorem proved : Rows.PrefixOnesCardSaid :=
  Claim7.holds_tied_plain_at .later [] [.data] true (true, "5bc551b685121e4693e701690916b6acd8de627aed46cd8280465d57dd100620") false
    prefixOnes.proved (fun _ h => by cases h) (by kernel_rfl) (fun _ h => by cases h) prefixOnes_row_tie rfl ⟨rfl, rfl⟩ (by kernel_rfl) rfl
    (fun f fn hf hfn => by
      obtain rfl : f = 3 := Option.some.inj ((show Tryd.prog.funcNamed "causeway/causewaylaw12.PrefixOnes" = some 3 by kernel_rfl).symm.trans hf) |>.symm
      obtain rfl : fn = Tryd.f3 := (Option.some.inj (Tryd.func3.symm.trans hfn)).symm
      exact ⟨by kernel_rfl, fun j t ht => by
          rw [Tryd.params3] at ht
          rcases j with _ | j
          · have ht' : t = 24 := by simpa using ht.symm
            subst ht'
            exact (show Tryd.prog.wantsStandIn 24 = false by kernel_rfl)
          rcases j with _ | j
          · have ht' : t = 24 := by simpa using ht.symm
            subst ht'
            exact (show Tryd.prog.wantsStandIn 24 = false by kernel_rfl)
          simp at ht⟩)
    (by kernel_rfl)
#print axioms proved
end Go.Proofs.YtpebpfaecdmabaaDoor.prefixOnesCard
