/- The laws of sets. -/
import Derived.Test.YtbbiakpieakfoaaPB
import Derived.Test.YtbbiakpieakfoaaM
import Derived.BigQuiet
namespace Go.Proofs.Ytbbiakpieakfoaa.Port
open Go.RowKit

theorem cells24 : Try.prog.cellsOf 24 = 2 := by kernel_rfl
theorem cells22 : Try.prog.cellsOf 22 = 1 := by kernel_rfl
theorem eq_bt (x y : Bt) (w : World) : (Op.equalIn 10000 24 (bv x) (bv y)).run Try.prog w = .ok (x == y) w := by
  obtain ⟨i, hi⟩ := Option.isSome_iff_exists.1 (show (Try.prog.info? 22).isSome = true by kernel_rfl)
  exact run_equalIn_bt Try.underlying24 Try.underlying22 hi cells22 x y 9998 w
theorem eq_bt4 (x1 x2 y1 y2 : UInt64) (w : World) : (Op.equalIn 10000 24 (.agg #[.int .u64 (u x1), .int .u64 (u x2)]) (.agg #[.int .u64 (u y1), .int .u64 (u y2)])).run Try.prog w = .ok ((x1, x2) == (y1, y2)) w :=
  eq_bt (x1, x2) (y1, y2) w

/-- The three boxes that hold the law's arguments. -/
structure Boxes (w : World) (k : Nat) (a b c : Bt) : Prop where
  a0 : w.cell? ⟨k, 0, none⟩ = some (.int .u64 (u a.1))
  a1 : w.cell? ⟨k, 1, none⟩ = some (.int .u64 (u a.2))
  b0 : w.cell? ⟨k + 1, 0, none⟩ = some (.int .u64 (u b.1))
  b1 : w.cell? ⟨k + 1, 1, none⟩ = some (.int .u64 (u b.2))
  c0 : w.cell? ⟨k + 1 + 1, 0, none⟩ = some (.int .u64 (u c.1))
  c1 : w.cell? ⟨k + 1 + 1, 1, none⟩ = some (.int .u64 (u c.2))

theorem len_or_and (a b : Bt) : lenB (orB a b) + lenB (andB a b) = lenB a + lenB b := by
  have h1 := pc_or_and a.1 b.1
  have h2 := pc_or_and a.2 b.2
  simp only [lenB, orB, andB]
  omega
theorem ring1 (a b c : UInt64) : a &&& ~~~(b ||| c) = a &&& ~~~b &&& (a &&& ~~~c) := by
  apply UInt64.eq_of_toBitVec_eq
  ext i hi
  simp
  cases a.toBitVec[i] <;> cases b.toBitVec[i] <;> cases c.toBitVec[i] <;> rfl
theorem ring2 (a b c : UInt64) : a &&& (b ||| c) = a &&& b ||| a &&& c := by
  apply UInt64.eq_of_toBitVec_eq
  ext i hi
  simp
  cases a.toBitVec[i] <;> cases b.toBitVec[i] <;> cases c.toBitVec[i] <;> rfl
theorem ring3 (a b : UInt64) : a &&& ~~~b ||| a &&& b = a := by
  apply UInt64.eq_of_toBitVec_eq
  ext i hi
  simp
  cases a.toBitVec[i] <;> cases b.toBitVec[i] <;> rfl

end Go.Proofs.Ytbbiakpieakfoaa.Port
