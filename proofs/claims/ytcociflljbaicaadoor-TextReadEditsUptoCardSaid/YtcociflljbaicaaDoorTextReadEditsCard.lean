/- The tied card of the law TextReadEdits, where what it reads is of bulk at most 1048576. -/
import Derived.Test.YtcociflljbaicaaDoorTextReadEdits
import Derived.Test.YtcociflljbaicaaDoorCards
import Derived.Test.YtcociflljbaicaaDoorTie
import Derived.SevenTiedAt
namespace Go.Proofs.YtcociflljbaicaaDoor.textReadEditsCard
open Go

theorem proved : Rows.TextReadEditsUptoCardSaid :=
  Claim7.holds_tied_plain_at .later [] _ _ _ _
    textReadEdits.proved (fun _ h => by cases h) (by kernel_rfl) (fun _ h => by cases h) textReadEditsUpto_row_tie rfl ⟨rfl, rfl⟩ (by kernel_rfl) rfl
    (fun f fn hf hfn => by
      obtain rfl : f = 4 := Option.some.inj ((show Tryd.prog.funcNamed "causeway/causewaylaw07.TextReadEdits" = some 4 by kernel_rfl).symm.trans hf) |>.symm
      obtain rfl : fn = Tryd.f4 := (Option.some.inj (Tryd.func4.symm.trans hfn)).symm
      exact ⟨by kernel_rfl, fun j t ht => by
          rw [Tryd.params4] at ht
          rcases j with _ | j
          · have ht' : t = 9 := by simpa using ht.symm
            subst ht'
            exact (show Tryd.prog.wantsStandIn 9 = false by kernel_rfl)
          simp at ht⟩)
    (by kernel_rfl)
#print axioms proved
end Go.Proofs.YtcociflljbaicaaDoor.textReadEditsCard
