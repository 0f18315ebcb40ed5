/- The laws of sets. -/
import Derived.Test.YthhinchifegofaaDoorB
import Derived.Test.YthhinchifegofaaDoorM
import Derived.BigQuiet
namespace Go.Proofs.YthhinchifegofaaDoor
open Go.RowKit

theorem cells24 : Tryd.prog.cellsOf 24 = 2 := by kernel_rfl
theorem cells22 : Tryd.prog.cellsOf 22 = 1 := by kernel_rfl
theorem eq_bt (x y : Bt) (w : World) : (Op.equalIn 10000 24 (bv x) (bv y)).run Tryd.prog w = .ok (x == y) w := by
  obtain ⟨i, hi⟩ := Option.isSome_iff_exists.1 (show (Tryd.prog.info? 22).isSome = true by kernel_rfl)
  exact run_equalIn_bt Tryd.underlying24 Tryd.underlying22 hi cells22 x y 9998 w
theorem eq_bt4 (x1 x2 y1 y2 : UInt64) (w : World) : (Op.equalIn 10000 24 (.agg #[.int .u64 (u x1), .int .u64 (u x2)]) (.agg #[.int .u64 (u y1), .int .u64 (u y2)])).run Tryd.prog w = .ok ((x1, x2) == (y1, y2)) w :=
  eq_bt (x1, x2) (y1, y2) w

set_option maxHeartbeats 1000000 in
set_option maxRecDepth 100000 in
theorem awake_true (w : World) :
    Calls Tryd.prog 7 #[] w fun e w' => e = .returned (.bool true) ∧ Below w.heap.size w w' := by
  have e : ∀ w, (Op.equalIn 10000 24 (.agg #[.int .u64 (u 9), .int .u64 (u 1)]) (.agg #[.int .u64 9, .int .u64 1])).run Tryd.prog w = .ok true w := fun w => eq_bt4 9 1 9 1 w
  have el : lenB (9, 1) = 3 := by decide +kernel
  have eo : ofR [0, 64, 3] (0,0) = ((9, 1), 0) := by decide +kernel
  go_enter Tryd.func7, Tryd.ntmps7
  go_wp2_with fail
  have hs : SlR (w.alloc (.cells #[.int .i64 0, .int .i64 64, .int .i64 3] 3)) 1 (.slice (some ⟨w.heap.size, 0, none⟩) 3 3) 3 (ints [0, 64, 3]) := by
    have := World.ownsRow_lit (base := 0) (e := 3) (size := 1) w #[.int .i64 0, .int .i64 64, .int .i64 3] 3 (Nat.zero_le _) (by simp [maxLen]) rfl
    exact SlR.of_owns this
  refine (Of_any _ 3 [0, 64, 3] _ hs).mono ?_
  rintro e w1 ⟨rfl, hb⟩
  rw [eo]
  generalize hw1 : w1 = w2
  go_wp2_with (go_at_call 17; refine (Len_any (9, 1) _).mono ?_; rintro e w3 ⟨rfl, hb3⟩)
  go_ret
  have b1 := ((Below.refl w.heap.size w).alloc (Nat.le_refl _) _).trans (hb.mono (by simp))
  subst hw1
  exact ⟨rfl, (b1.alloc b1.size _).trans (hb3.mono (by have := b1.size; simp; omega))⟩
/-- The three boxes that hold the law's arguments. -/
structure Boxes (w : World) (k : Nat) (a b c : Bt) : Prop where
  a0 : w.cell? ⟨k, 0, none⟩ = some (.int .u64 (u a.1))
  a1 : w.cell? ⟨k, 1, none⟩ = some (.int .u64 (u a.2))
  b0 : w.cell? ⟨k + 1, 0, none⟩ = some (.int .u64 (u b.1))
  b1 : w.cell? ⟨k + 1, 1, none⟩ = some (.int .u64 (u b.2))
  c0 : w.cell? ⟨k + 1 + 1, 0, none⟩ = some (.int .u64 (u c.1))
  c1 : w.cell? ⟨k + 1 + 1, 1, none⟩ = some (.int .u64 (u c.2))

theorem len_or_and (a b : Bt) : lenB (orB a b) + lenB (andB a b) = lenB a + lenB b := by
  have h1 := pc_or_and a.1 b.1
  have h2 := pc_or_and a.2 b.2
  simp only [lenB, orB, andB]
  omega
theorem ring1 (a b c : UInt64) : a &&& ~~~(b ||| c) = a &&& ~~~b &&& (a &&& ~~~c) := by
  apply UInt64.eq_of_toBitVec_eq
  ext i hi
  simp
  cases a.toBitVec[i] <;> cases b.toBitVec[i] <;> cases c.toBitVec[i] <;> rfl
theorem ring2 (a b c : UInt64) : a &&& (b ||| c) = a &&& b ||| a &&& c := by
  apply UInt64.eq_of_toBitVec_eq
  ext i hi
  simp
  cases a.toBitVec[i] <;> cases b.toBitVec[i] <;> cases c.toBitVec[i] <;> rfl
theorem ring3 (a b : UInt64) : a &&& ~~~b ||| a &&& b = a := by
  apply UInt64.eq_of_toBitVec_eq
  ext i hi
  simp
  cases a.toBitVec[i] <;> cases b.toBitVec[i] <;> rfl

end Go.Proofs.YthhinchifegofaaDoor
