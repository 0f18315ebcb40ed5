/- Each: what it hands back, and the contract of what it hands back. -/
import Derived.Test.YthhinchifegofaaDoorX1
namespace Go.Proofs.YthhinchifegofaaDoor
open Go.RowKit

theorem each_stops (n : Nat) (hn : 1 ≤ n) (Bs n₀ : Nat) (h0n : 0 < n₀) (s : Bt) (w : World) (hB0 : w.cell? ⟨Bs, 0, none⟩ = some (.int .u64 (u s.1))) (hB1 : w.cell? ⟨Bs, 1, none⟩ = some (.int .u64 (u s.2))) (hT : TabW w) :
    SeqStopsK Fence.wide n Tryd.prog 23 #[.pointer (some ⟨Bs, 0, none⟩)] (fun x : Int => #[Value.int .i64 x]) (Below n₀) (fun ys => ys = eachL s) (fun pre => pre <+: eachL s) 128 w := fun l J Jx W hW _ _ hY h0 =>
  each1_in n hn l Bs n₀ h0n s J Jx hY W ((hW.cell (World.block_lt_of_cell? _ _ hB0)).trans hB0) ((hW.cell (World.block_lt_of_cell? _ _ hB1)).trans hB1) (hT.below hW) h0
theorem Each_any (s : Bt) (w : World) : Calls Tryd.prog 6 #[bv s] w fun e w' => e = .returned (.func (.func 23) #[] #[.pointer (some ⟨w.heap.size, 0, none⟩)]) ∧ w' = w.alloc (.cells #[.int .u64 (u s.1), .int .u64 (u s.2)] 24) := by
  unfold bv
  go_enter Tryd.func6, Tryd.ntmps6
  go_wp2
  go_ret
  exact ⟨rfl, rfl⟩
theorem placesL_all (s : Bt) : listP (hasB s) 128 = eachL s := by
  unfold listP eachL onesI placesL
  rw [show (128 : Nat) = 64 + 64 from rfl, List.range_add, List.filter_append, List.map_append, List.filter_map, List.map_map]
  have e1 : (List.range 64).filter (hasB s) = (List.range 64).filter fun i => s.1.toNat.testBit i := by
    apply List.filter_congr
    intro i hi
    rw [List.mem_range] at hi
    unfold hasB
    rw [if_pos hi]
  have e2 : (List.range 64).filter (hasB s ∘ fun x => 64 + x) = (List.range 64).filter fun i => s.2.toNat.testBit i := by
    apply List.filter_congr
    intro i _
    simp only [Function.comp]
    unfold hasB
    rw [if_neg (by omega), Nat.add_sub_cancel_left]
  rw [e1, e2]
  congr 1
  apply List.map_congr_left
  intro i _
  simp
end Go.Proofs.YthhinchifegofaaDoor
