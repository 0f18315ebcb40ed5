/- The machine's words: Or, And, Minus, and the count of a word's ones. -/
import Derived.Test.YthhinchifegofaaDoorRows
import Derived.Test.YthhinchifegofaaDoorR
import Derived.Test.YthhinchifegofaaDoorU
import Derived.Test.YthhinchifegofaaDoorQ
import Derived.Test.YthhinchifegofaaDoorP
import Derived.Laws.Bits128
namespace Go.Proofs.YthhinchifegofaaDoor
open Go.RowKit

def orB (a b : Bt) : Bt := (a.1 ||| b.1, a.2 ||| b.2)
def andB (a b : Bt) : Bt := (a.1 &&& b.1, a.2 &&& b.2)
def minusB (a b : Bt) : Bt := (a.1 &&& ~~~b.1, a.2 &&& ~~~b.2)

set_option maxHeartbeats 400000 in
theorem Or_any (a b : Bt) (w : World) :
    Calls Tryd.prog 11 #[bv a, bv b] w fun e w' => e = .returned (bv (orB a b)) ∧ Below w.heap.size w w' := by
  have h1 := u_or a.1 b.1
  have h2 := u_or a.2 b.2
  go_enter Tryd.func11, Tryd.ntmps11
  go_wp2
  exact bodyPost_ret (v := bv (orB a b)) (by simp [results, Tryd.results11, go_sem, orB]) rfl ⟨rfl, (((Below.refl _ _).alloc (Nat.le_refl _) _).alloc (by simp) _).alloc (by simp; omega) _⟩

set_option maxHeartbeats 400000 in
theorem And_any (a b : Bt) (w : World) :
    Calls Tryd.prog 13 #[bv a, bv b] w fun e w' => e = .returned (bv (andB a b)) ∧ Below w.heap.size w w' := by
  have h1 := u_and a.1 b.1
  have h2 := u_and a.2 b.2
  go_enter Tryd.func13, Tryd.ntmps13
  go_wp2
  exact bodyPost_ret (v := bv (andB a b)) (by simp [results, Tryd.results13, go_sem, andB]) rfl ⟨rfl, (((Below.refl _ _).alloc (Nat.le_refl _) _).alloc (by simp) _).alloc (by simp; omega) _⟩

set_option maxHeartbeats 400000 in
theorem Minus_any (a b : Bt) (w : World) :
    Calls Tryd.prog 15 #[bv a, bv b] w fun e w' => e = .returned (bv (minusB a b)) ∧ Below w.heap.size w w' := by
  have h1 := u_andNot a.1 b.1
  have h2 := u_andNot a.2 b.2
  go_enter Tryd.func15, Tryd.ntmps15
  go_wp2
  exact bodyPost_ret (v := bv (minusB a b)) (by simp [results, Tryd.results15, go_sem, minusB]) rfl ⟨rfl, (((Below.refl _ _).alloc (Nat.le_refl _) _).alloc (by simp) _).alloc (by simp; omega) _⟩

theorem ex_int (n : Int) : ∃ m : Int, n = m := ⟨n, rfl⟩
theorem wrap_nat (n : Nat) (h : n < 18446744073709551616) : IntKind.u64.wrap (n : Int) = (n : Int) := by
  simp [IntKind.wrap, IntKind.signed, go_sem]
  omega
theorem wrap_nat_i (n : Nat) (h : n < 9223372036854775808) : IntKind.i64.wrap (n : Int) = (n : Int) := by
  simp [IntKind.wrap, IntKind.signed, go_sem]
  omega

set_option maxHeartbeats 1000000 in
theorem OnesCount_any (x : UInt64) (w : World) :
    Calls Tryd.prog 28 #[.int .u64 (u x)] w fun e w' => e = .returned (.int .i64 (pc x)) ∧ w = w' := by
  obtain ⟨p1, hp1⟩ := ex_int (bits .and .u64 (u x / 2) 6148914691236517205)
  obtain ⟨q1, hq1⟩ := ex_int (bits .and .u64 (u x) 6148914691236517205)
  obtain ⟨y1, hy1⟩ := ex_int (IntKind.u64.wrap (p1 + q1))
  obtain ⟨p2, hp2⟩ := ex_int (bits .and .u64 (y1 / 4) 3689348814741910323)
  obtain ⟨q2, hq2⟩ := ex_int (bits .and .u64 y1 3689348814741910323)
  obtain ⟨y2, hy2⟩ := ex_int (IntKind.u64.wrap (p2 + q2))
  obtain ⟨y3, hy3⟩ := ex_int (IntKind.u64.wrap (y2 / 16 + y2))
  obtain ⟨z, hz⟩ := ex_int (bits .and .u64 y3 1085102592571150095)
  obtain ⟨z1, hz1⟩ := ex_int (IntKind.u64.wrap (z + z / 256))
  obtain ⟨z2, hz2⟩ := ex_int (IntKind.u64.wrap (z1 + z1 / 65536))
  obtain ⟨z3, hz3⟩ := ex_int (IntKind.u64.wrap (z2 + z2 / 4294967296))
  obtain ⟨z4, hz4⟩ := ex_int (IntKind.i64.wrap z3)
  obtain ⟨z5, hz5⟩ := ex_int (bits .and .i64 z4 127)
  have key : z5 = (pc x : Int) := by
    obtain ⟨Y1, Y2, Z, r1, r2, r3, b1, b2, b3, fin⟩ := swar x.toNat (UInt64.toNat_lt x)
    have k1 : p1 = ((x.toNat / 2 &&& 6148914691236517205 : Nat) : Int) := by
      rw [← hp1, ← u64_and_nat _ _ (by have := UInt64.toNat_lt x; omega) (by decide)]; rfl
    have k2 : q1 = ((x.toNat &&& 6148914691236517205 : Nat) : Int) := by
      rw [← hq1, ← u64_and_nat _ _ (UInt64.toNat_lt x) (by decide)]; rfl
    have k3 : y1 = (Y1 : Int) := by
      rw [← hy1, k1, k2, ← Int.natCast_add, ← r1, wrap_nat _ b1]
    have k4 : p2 = ((Y1 / 4 &&& 3689348814741910323 : Nat) : Int) := by
      rw [← hp2, k3, ← u64_and_nat _ _ (by omega) (by decide)]; rfl
    have k5 : q2 = ((Y1 &&& 3689348814741910323 : Nat) : Int) := by
      rw [← hq2, k3, ← u64_and_nat _ _ b1 (by decide)]; rfl
    have k6 : y2 = (Y2 : Int) := by
      rw [← hy2, k4, k5, ← Int.natCast_add, ← r2, wrap_nat _ (by omega)]
    have k7 : y3 = ((Y2 / 16 + Y2 : Nat) : Int) := by
      rw [← hy3, k6, ← wrap_nat _ b2]; rfl
    have k8 : z = (Z : Int) := by
      rw [← hz, k7, r3, ← u64_and_nat _ _ b2 (by decide)]; rfl
    have k9 : z1 = ((Z + Z / 256 : Nat) : Int) := by
      rw [← hz1, k8, ← wrap_nat (Z + Z / 256) (by omega)]; rfl
    have k10 : z2 = (((Z + Z / 256) + (Z + Z / 256) / 65536 : Nat) : Int) := by
      rw [← hz2, k9, ← wrap_nat ((Z + Z / 256) + (Z + Z / 256) / 65536) (by omega)]; rfl
    have k11 : z3 = (((Z + Z / 256) + (Z + Z / 256) / 65536 + ((Z + Z / 256) + (Z + Z / 256) / 65536) / 4294967296 : Nat) : Int) := by
      rw [← hz3, k10, ← wrap_nat ((Z + Z / 256) + (Z + Z / 256) / 65536 + ((Z + Z / 256) + (Z + Z / 256) / 65536) / 4294967296) (by omega)]; rfl
    have k12 : z4 = z3 := by
      rw [← hz4, k11, wrap_nat_i _ (by omega)]
    rw [← hz5, k12, k11, i64_and127]
    unfold pc
    rw [← fin]
    omega
  subst key
  go_enter Tryd.func28, Tryd.ntmps28
  go_wp2
  go_ret
  exact ⟨rfl, rfl⟩
end Go.Proofs.YthhinchifegofaaDoor
