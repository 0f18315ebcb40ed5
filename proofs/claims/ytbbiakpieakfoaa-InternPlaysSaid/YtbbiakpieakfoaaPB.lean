/- Len, in, Of. -/
import Derived.Test.YtbbiakpieakfoaaPA
import Derived.StillTailTactics
import Derived.BigRegion
import Derived.Deep.RegionHeld3
namespace Go.Proofs.Ytbbiakpieakfoaa.Port
open Go.RowKit

def lenB (s : Bt) : Nat := pc s.1 + pc s.2
theorem lenB_le (s : Bt) : lenB s ≤ 128 := by
  have h1 := pc_le s.1
  have h2 := pc_le s.2
  unfold lenB
  omega

def inN (n : Int) : Bool := decide (0 ≤ n) && decide (n ≤ 127)
/-- A node's bit in its word. -/
def bit (k : Nat) : UInt64 := UInt64.ofNat (2 ^ k)
/-- A set and one node more. -/
def addB (s : Bt) (n : Nat) : Bt := if n < 64 then (s.1 ||| bit n, s.2) else (s.1, s.2 ||| bit (n - 64))
/-- The set of a list; a number outside makes an error. -/
def ofB : List Int → Bt → Option Bt
  | [], s => some s
  | n :: r, s => if inN n then ofB r (addB s n.toNat) else none

/-- A set's two cells in a block. -/
def Arr (w : World) (B : Nat) (s : Bt) : Prop :=
  w.cell? ⟨B, 0, none⟩ = some (.int .u64 (u s.1)) ∧ w.cell? ⟨B, 1, none⟩ = some (.int .u64 (u s.2)) ∧ w.frozen? ⟨B, 0, none⟩ = false ∧ w.frozen? ⟨B, 1, none⟩ = false

theorem Arr.set0 {w : World} {B : Nat} {s : Bt} (h : Arr w B s) (x : UInt64) : Arr (w.setCell ⟨B, 0, none⟩ (.int .u64 (u x))) B (x, s.2) := by
  obtain ⟨h0, h1, f0, f1⟩ := h
  exact ⟨World.cell?_setCell_same _ _ _ h0, (World.cell?_setCell_other _ _ _ _ (by simp)).trans h1, by simpa using f0, by simpa using f1⟩
theorem Arr.set1 {w : World} {B : Nat} {s : Bt} (h : Arr w B s) (x : UInt64) : Arr (w.setCell ⟨B, 1, none⟩ (.int .u64 (u x))) B (s.1, x) := by
  obtain ⟨h0, h1, f0, f1⟩ := h
  exact ⟨(World.cell?_setCell_other _ _ _ _ (by simp)).trans h0, World.cell?_setCell_same _ _ _ h1, by simpa using f0, by simpa using f1⟩
theorem Arr.far {w : World} {B : Nat} {s : Bt} (h : Arr w B s) (p : Addr) (v : Value) (hp : p.block ≠ B) : Arr (w.setCell p v) B s := by
  obtain ⟨h0, h1, f0, f1⟩ := h
  exact ⟨(World.cell?_setCell_far w p _ v hp).trans h0, (World.cell?_setCell_far w p _ v hp).trans h1, by simpa using f0, by simpa using f1⟩
theorem Arr.drew {w : World} {B : Nat} {s : Bt} (h : Arr w B s) : Arr w.drew B s := h
theorem Arr.alloc {w : World} {B : Nat} {s : Bt} (h : Arr w B s) (hB : B < w.heap.size) (o : Obj) : Arr (w.alloc o) B s := by
  obtain ⟨h0, h1, f0, f1⟩ := h
  exact ⟨(World.cell?_alloc_past _ _ _ hB).trans h0, (World.cell?_alloc_past _ _ _ hB).trans h1, by rw [World.frozen?_alloc_past _ _ _ hB]; exact f0, by rw [World.frozen?_alloc_past _ _ _ hB]; exact f1⟩
theorem Arr.new (w : World) (s : Bt) : Arr (w.alloc (.cells #[.int .u64 (u s.1), .int .u64 (u s.2)] 24)) w.heap.size s := by
  have h := heap_alloc_new w (.cells #[.int .u64 (u s.1), .int .u64 (u s.2)] 24)
  exact ⟨by simp only [World.cell?, h]; rfl, by simp only [World.cell?, h]; rfl, by simp only [World.frozen?, h]; rfl, by simp only [World.frozen?, h]; rfl⟩

theorem shl_bit (n : Int) (h : n.toNat < 64) : IntKind.u64.wrap (2 ^ n.toNat) = u (bit n.toNat) := by
  have h2 : 2 ^ n.toNat < 18446744073709551616 := by
    have := Nat.pow_lt_pow_right (a := 2) (by decide) h
    simpa using this
  have := wrap_nat (2 ^ n.toNat) h2
  rw [Int.natCast_pow] at this
  unfold u bit
  rw [UInt64.toNat_ofNat', Nat.mod_eq_of_lt h2, Int.natCast_pow]
  exact this

/-- What Of answers, from a set on. -/
def ofR (ns : List Int) (s : Bt) : Bt × Nat := match ofB ns s with
  | some s => (s, 0)
  | none => ((0, 0), 2)
theorem ofR_nil (s : Bt) : ofR [] s = (s, 0) := rfl
theorem ofR_in (n : Int) (r : List Int) (s : Bt) (h : inN n = true) : ofR (n :: r) s = ofR r (addB s n.toNat) := by simp [ofR, ofB, h]
theorem ofR_out (n : Int) (r : List Int) (s : Bt) (h : inN n = false) : ofR (n :: r) s = ((0, 0), 2) := by simp [ofR, ofB, h]

end Go.Proofs.Ytbbiakpieakfoaa.Port
