/- The tied card of the law TextPrefixes, where what it reads is of bulk at most 1048576. -/
import Derived.Test.YtcociflljbaicaaDoorTextPrefixes
import Derived.Test.YtcociflljbaicaaDoorCards
import Derived.Test.YtcociflljbaicaaDoorTie
import Derived.SevenTiedAt
namespace Go.Proofs.YtcociflljbaicaaDoor.textPrefixesCard
open Go

theorem proved : Rows.TextPrefixesUptoCardSaid :=
  Claim7.holds_tied_plain_at .later [] _ _ _ _
    textPrefixes.proved (fun _ h => by cases h) (by kernel_rfl) (fun _ h => by cases h) textPrefixesUpto_row_tie rfl ⟨rfl, rfl⟩ (by kernel_rfl) rfl
    (fun f fn hf hfn => by
      obtain rfl : f = 3 := Option.some.inj ((show Tryd.prog.funcNamed "causeway/causewaylaw07.TextPrefixes" = some 3 by kernel_rfl).symm.trans hf) |>.symm
      obtain rfl : fn = Tryd.f3 := (Option.some.inj (Tryd.func3.symm.trans hfn)).symm
      exact ⟨by kernel_rfl, fun j t ht => by
          rw [Tryd.params3] at ht
          rcases j with _ | j
          · have ht' : t = 24 := by simpa using ht.symm
            subst ht'
            exact (show Tryd.prog.wantsStandIn 24 = false by kernel_rfl)
          rcases j with _ | j
          · have ht' : t = 9 := by simpa using ht.symm
            subst ht'
            exact (show Tryd.prog.wantsStandIn 9 = false by kernel_rfl)
          simp at ht⟩)
    (by kernel_rfl)
#print axioms proved
end Go.Proofs.YtcociflljbaicaaDoor.textPrefixesCard
