/- The tied card of the law DistTexts. -/
import Derived.Test.YtpclmpgemlcbpaaDoorDistTexts
import Derived.Test.YtpclmpgemlcbpaaDoorCards
import Derived.Test.YtpclmpgemlcbpaaDoorTie
import Derived.SevenTiedAt
namespace Go.Proofs.YtpclmpgemlcbpaaDoor.distTextsCard
open Go

theorem proved : Rows.DistTextsCardSaid :=
  Claim7.holds_tied_plain_at .later [] [.data, .data, .data, .sentinel, .sentinel] true (true, "0b2299a8512f5c33e5eebd06a8ee940272b8badb1ed7befb1e4a7061278b9ae9") true
    distTexts.proved (fun _ h => by cases h) (by kernel_rfl) (fun _ h => by cases h) distTexts_row_tie rfl ⟨rfl, rfl⟩ (by kernel_rfl) rfl
    (fun f fn hf hfn => by
      obtain rfl : f = 3 := Option.some.inj ((show Tryd.prog.funcNamed "causeway/causewaylaw01.DistTexts" = some 3 by kernel_rfl).symm.trans hf) |>.symm
      obtain rfl : fn = Tryd.f3 := (Option.some.inj (Tryd.func3.symm.trans hfn)).symm
      exact ⟨by kernel_rfl, fun j t ht => by
          rw [Tryd.params3] at ht
          rcases j with _ | j
          · have ht' : t = 3 := by simpa using ht.symm
            subst ht'
            exact (show Tryd.prog.wantsStandIn 3 = false by kernel_rfl)
          rcases j with _ | j
          · have ht' : t = 9 := by simpa using ht.symm
            subst ht'
            exact (show Tryd.prog.wantsStandIn 9 = false by kernel_rfl)
          simp at ht⟩)
    (by kernel_rfl)
#print axioms proved
end Go.Proofs.YtpclmpgemlcbpaaDoor.distTextsCard
