/- The tied card of the law BitsTwos. -/
import Derived.Test.YthhinchifegofaaDoorBitsTwos
import Derived.Test.YthhinchifegofaaDoorCards
import Derived.Test.YthhinchifegofaaDoorTie
import Derived.SevenTiedAt
namespace Go.Proofs.YthhinchifegofaaDoor.bitsTwosCard
open Go

theorem proved : Rows.BitsTwosCardSaid :=
  Claim7.holds_tied_plain_at .later [] [.data] true (true, "ced3985e3b703df2aa047946f1c422c15d6361d54698e58268ca05bc5f58d322") true
    bitsTwos.proved (fun _ h => by cases h) (by kernel_rfl) (fun _ h => by cases h) bitsTwos_row_tie rfl ⟨rfl, rfl⟩ (by kernel_rfl) rfl
    (fun f fn hf hfn => by
      obtain rfl : f = 4 := Option.some.inj ((show Tryd.prog.funcNamed "causeway/causewaylaw03.BitsTwos" = some 4 by kernel_rfl).symm.trans hf) |>.symm
      obtain rfl : fn = Tryd.f4 := (Option.some.inj (Tryd.func4.symm.trans hfn)).symm
      exact ⟨by kernel_rfl, fun j t ht => by
          rw [Tryd.params4] at ht
          rcases j with _ | j
          · have ht' : t = 24 := by simpa using ht.symm
            subst ht'
            exact (show Tryd.prog.wantsStandIn 24 = false by kernel_rfl)
          rcases j with _ | j
          · have ht' : t = 24 := by simpa using ht.symm
            subst ht'
            exact (show Tryd.prog.wantsStandIn 24 = false by kernel_rfl)
          simp at ht⟩)
    (by kernel_rfl)
#print axioms proved
end Go.Proofs.YthhinchifegofaaDoor.bitsTwosCard
