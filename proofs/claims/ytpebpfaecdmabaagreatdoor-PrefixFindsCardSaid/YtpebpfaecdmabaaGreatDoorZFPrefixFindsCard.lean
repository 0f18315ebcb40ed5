/- The tied card of the law PrefixFinds. -/
import Derived.Test.YtpebpfaecdmabaaGreatDoorZFPrefixFinds
import Derived.Test.YtpebpfaecdmabaaGreatDoorCards
import Derived.Test.YtpebpfaecdmabaaGreatDoorTie
import Derived.SevenTiedAt
namespace Go.Proofs.YtpebpfaecdmabaaGreatDoor.prefixFindsCard
open Go

theorem proved : Rows.PrefixFindsCardSaid :=
  Claim7.holds_tied_plain_at .later [] [.data] true (true, "1ec2e6a5aa39b1e15ad70714f0231a1e512488ba15324595cbdfa385cc039ef4") false
    prefixFinds.proved (fun _ h => by cases h) (by kernel_rfl) (fun _ h => by cases h) prefixFinds_row_tie rfl ⟨rfl, rfl⟩ (by kernel_rfl) rfl
    (fun f fn hf hfn => by
      obtain rfl : f = 3 := Option.some.inj ((show Tryz.prog.funcNamed "causeway/causewaylaw12.PrefixFinds" = some 3 by kernel_rfl).symm.trans hf) |>.symm
      obtain rfl : fn = Tryz.f3 := (Option.some.inj (Tryz.func3.symm.trans hfn)).symm
      exact ⟨by kernel_rfl, fun j t ht => by
          rw [Tryz.params3] at ht
          rcases j with _ | j
          · have ht' : t = 22 := by simpa using ht.symm
            subst ht'
            exact (show Tryz.prog.wantsStandIn 22 = false by kernel_rfl)
          rcases j with _ | j
          · have ht' : t = 25 := by simpa using ht.symm
            subst ht'
            exact (show Tryz.prog.wantsStandIn 25 = false by kernel_rfl)
          rcases j with _ | j
          · have ht' : t = 23 := by simpa using ht.symm
            subst ht'
            exact (show Tryz.prog.wantsStandIn 23 = false by kernel_rfl)
          simp at ht⟩)
    (by kernel_rfl)
#print axioms proved
end Go.Proofs.YtpebpfaecdmabaaGreatDoor.prefixFindsCard
