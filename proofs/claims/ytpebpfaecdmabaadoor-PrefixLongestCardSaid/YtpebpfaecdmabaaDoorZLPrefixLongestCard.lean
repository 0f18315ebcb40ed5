/- The tied card of the law PrefixLongest. -/
import Derived.Test.YtpebpfaecdmabaaDoorZLPrefixLongest
import Derived.Test.YtpebpfaecdmabaaDoorCards
import Derived.Test.YtpebpfaecdmabaaDoorTie
import Derived.SevenTiedAt
namespace Go.Proofs.YtpebpfaecdmabaaDoor.prefixLongestCard
open Go

theorem proved : Rows.PrefixLongestCardSaid :=
  Claim7.holds_tied_plain_at .later [] [.data] true (true, "5bc551b685121e4693e701690916b6acd8de627aed46cd8280465d57dd100620") false
    prefixLongest.proved (fun _ h => by cases h) (by kernel_rfl) (fun _ h => by cases h) prefixLongest_row_tie rfl ⟨rfl, rfl⟩ (by kernel_rfl) rfl
    (fun f fn hf hfn => by
      obtain rfl : f = 4 := Option.some.inj ((show Tryd.prog.funcNamed "causeway/causewaylaw12.PrefixLongest" = some 4 by kernel_rfl).symm.trans hf) |>.symm
      obtain rfl : fn = Tryd.f4 := (Option.some.inj (Tryd.func4.symm.trans hfn)).symm
      exact ⟨by kernel_rfl, fun j t ht => by
          rw [Tryd.params4] at ht
          rcases j with _ | j
          · have ht' : t = 29 := by simpa using ht.symm
            subst ht'
            exact (show Tryd.prog.wantsStandIn 29 = false by kernel_rfl)
          rcases j with _ | j
          · have ht' : t = 22 := by simpa using ht.symm
            subst ht'
            exact (show Tryd.prog.wantsStandIn 22 = false by kernel_rfl)
          simp at ht⟩)
    (by kernel_rfl)
#print axioms proved
end Go.Proofs.YtpebpfaecdmabaaDoor.prefixLongestCard
