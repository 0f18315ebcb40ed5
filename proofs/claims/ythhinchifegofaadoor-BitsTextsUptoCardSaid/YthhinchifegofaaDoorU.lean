/- Sets of nodes as two words of 64 bits. No program stands in it. -/
import Derived.Test.YthhinchifegofaaDoorL
namespace Go.Proofs.YthhinchifegofaaDoor
open Go.RowKit

/-- A set: its two words. -/
abbrev Bt := UInt64 × UInt64
/-- A word as the machine's number. -/
def u (x : UInt64) : Int := (x.toNat : Int)
theorem u_inj {a b : UInt64} (h : u a = u b) : a = b := by
  unfold u at h
  exact UInt64.toNat_inj.1 (by omega)
theorem u_beq (a b : UInt64) : (u a == u b) = (a == b) := by
  rw [Bool.eq_iff_iff, beq_iff_eq, beq_iff_eq]
  exact ⟨u_inj, fun h => by rw [h]⟩
theorem u_or (a b : UInt64) : bits .or .u64 (u a) (u b) = u (a ||| b) := by
  unfold u
  rw [u64_or_nat _ _ (UInt64.toNat_lt a) (UInt64.toNat_lt b), UInt64.toNat_or]
theorem u_and (a b : UInt64) : bits .and .u64 (u a) (u b) = u (a &&& b) := by
  unfold u
  rw [u64_and_nat _ _ (UInt64.toNat_lt a) (UInt64.toNat_lt b), UInt64.toNat_and]
theorem u_andNot (a b : UInt64) : bits .andNot .u64 (u a) (u b) = u (a &&& ~~~b) := by
  unfold u
  rw [u64_andNot_nat _ _ (UInt64.toNat_lt a) (UInt64.toNat_lt b), UInt64.toNat_and, UInt64.toNat_not]
  rfl
theorem u_nat {n : Int} (h0 : 0 ≤ n) (h1 : n < 18446744073709551616) : ∃ x : UInt64, n = u x := by
  refine ⟨UInt64.ofNat n.toNat, ?_⟩
  unfold u
  rw [UInt64.toNat_ofNat']
  omega
/-- A set's cells, and its value. -/
def bc (s : Bt) : List Value := [.int .u64 (u s.1), .int .u64 (u s.2)]
abbrev bv (s : Bt) : Value := .agg #[.int .u64 (u s.1), .int .u64 (u s.2)]
theorem bc_one (s : Bt) : ∀ x ∈ bc s, x.oneCell' = true := by
  intro x hx
  simp [bc] at hx
  rcases hx with rfl | rfl <;> rfl
end Go.Proofs.YthhinchifegofaaDoor
