/- The tied card of the law BitsTexts, where what it reads is of bulk at most 1048576. -/
import Derived.Test.YthhinchifegofaaDoorBitsTexts
import Derived.Test.YthhinchifegofaaDoorCards
import Derived.Test.YthhinchifegofaaDoorTie
import Derived.SevenTiedAt
namespace Go.Proofs.YthhinchifegofaaDoor.bitsTextsCard
open Go

theorem proved : Rows.BitsTextsUptoCardSaid :=
  Claim7.holds_tied_plain_at .later [] _ _ _ _
    bitsTexts.proved (fun _ h => by cases h) (by kernel_rfl) (fun _ h => by cases h) bitsTextsUpto_row_tie rfl ⟨rfl, rfl⟩ (by kernel_rfl) rfl
    (fun f fn hf hfn => by
      obtain rfl : f = 5 := Option.some.inj ((show Tryd.prog.funcNamed "causeway/causewaylaw03.BitsTexts" = some 5 by kernel_rfl).symm.trans hf) |>.symm
      obtain rfl : fn = Tryd.f5 := (Option.some.inj (Tryd.func5.symm.trans hfn)).symm
      exact ⟨by kernel_rfl, fun j t ht => by
          rw [Tryd.params5] at ht
          rcases j with _ | j
          · have ht' : t = 24 := by simpa using ht.symm
            subst ht'
            exact (show Tryd.prog.wantsStandIn 24 = false by kernel_rfl)
          rcases j with _ | j
          · have ht' : t = 9 := by simpa using ht.symm
            subst ht'
            exact (show Tryd.prog.wantsStandIn 9 = false by kernel_rfl)
          simp at ht⟩)
    (by kernel_rfl)
#print axioms proved
end Go.Proofs.YthhinchifegofaaDoor.bitsTextsCard
