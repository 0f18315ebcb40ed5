/- The tied card of the law BitsEach. -/
import Derived.Test.YthhinchifegofaaDoorBitsEach
import Derived.Test.YthhinchifegofaaDoorCards
import Derived.Test.YthhinchifegofaaDoorTie
import Derived.SevenTiedAt
namespace Go.Proofs.YthhinchifegofaaDoor.bitsEachCard
open Go

theorem proved : Rows.BitsEachCardSaid :=
  Claim7.holds_tied_plain_at .later [] [.data] true (true, "ced3985e3b703df2aa047946f1c422c15d6361d54698e58268ca05bc5f58d322") true
    bitsEach.proved (fun _ h => by cases h) (by kernel_rfl) (fun _ h => by cases h) bitsEach_row_tie rfl ⟨rfl, rfl⟩ (by kernel_rfl) rfl
    (fun f fn hf hfn => by
      obtain rfl : f = 3 := Option.some.inj ((show Tryd.prog.funcNamed "causeway/causewaylaw03.BitsEach" = some 3 by kernel_rfl).symm.trans hf) |>.symm
      obtain rfl : fn = Tryd.f3 := (Option.some.inj (Tryd.func3.symm.trans hfn)).symm
      exact ⟨by kernel_rfl, fun j t ht => by
          rw [Tryd.params3] at ht
          rcases j with _ | j
          · have ht' : t = 24 := by simpa using ht.symm
            subst ht'
            exact (show Tryd.prog.wantsStandIn 24 = false by kernel_rfl)
          rcases j with _ | j
          · have ht' : t = 3 := by simpa using ht.symm
            subst ht'
            exact (show Tryd.prog.wantsStandIn 3 = false by kernel_rfl)
          simp at ht⟩)
    (by kernel_rfl)
#print axioms proved
end Go.Proofs.YthhinchifegofaaDoor.bitsEachCard
