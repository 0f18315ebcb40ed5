/- The law BitsEach: its outer loop; printed by genX4.py. -/
import Derived.Test.YthhinchifegofaaDoorX2
import Derived.Test.YthhinchifegofaaDoorI
import Derived.Sort.LoopGhostIn
namespace Go.Proofs.YthhinchifegofaaDoor
open Go.RowKit
attribute [local go_sem] Oper.semAt_some

/-- What lies while the loop runs. -/
structure EW (wr : World) (s : Bt) (stop : Int) (S L Kb : Nat) (la : Option Addr) (n lc k : Nat) : Prop where
  t : wr.cell? ⟨S + 1, 0, none⟩ = some (.int .i64 stop)
  r : ∃ x, wr.cell? ⟨S + 1 + 1, 0, none⟩ = some (.bool x)
  fr : wr.frozen? ⟨S + 1 + 1, 0, none⟩ = false
  c0 : wr.cell? ⟨S + 1 + 1 + 1, 0, none⟩ = some (.int .u64 (u s.1))
  c1 : wr.cell? ⟨S + 1 + 1 + 1, 1, none⟩ = some (.int .u64 (u s.2))
  l : wr.cell? ⟨L, 0, none⟩ = some (.slice la n lc)
  sl : SlR wr 1 (.slice la n lc) n (ints (eachL s))
  kc : wr.cell? ⟨Kb, 0, none⟩ = some (.int .i64 k)
  fk : wr.frozen? ⟨Kb, 0, none⟩ = false
  tab : TabW wr
theorem EW.below {wr w' : World} {s : Bt} {stop : Int} {S L Kb : Nat} {la : Option Addr} {n lc k : Nat} (h : EW wr s stop S L Kb la n lc k) (b : Below wr.heap.size wr w') : EW w' s stop S L Kb la n lc k := by
  have q : ∀ {p : Addr} {v : Value}, wr.cell? p = some v → w'.cell? p = some v := fun h => (b.cell (World.block_lt_of_cell? _ _ h)).trans h
  obtain ⟨x, hx⟩ := h.r
  exact ⟨q h.t, ⟨x, q hx⟩, (b.frozen (p := ⟨S + 1 + 1, 0, none⟩) (World.block_lt_of_cell? _ _ hx)).trans h.fr, q h.c0, q h.c1, q h.l, h.sl.below b, q h.kc, (b.frozen (p := ⟨Kb, 0, none⟩) (World.block_lt_of_cell? _ _ h.kc)).trans h.fk, h.tab.below b⟩
/-- The marks of the ranges that are over: each hands no call over. -/
def MarksOk (S : Nat) : List Deferred → World → Prop
  | [], _ => True
  | d :: ds, wr => (∃ D, d = { target := .collected D, args := #[] } ∧ S ≤ D ∧ wr.heap[D]? = some (.deferred (some [])) ∧ ∀ d' ∈ ds, d' ≠ d) ∧ MarksOk S ds wr
theorem MarksOk.below {S : Nat} {wr w' : World} (b : Below wr.heap.size wr w') : ∀ {ds : List Deferred}, MarksOk S ds wr → MarksOk S ds w'
  | [], _ => trivial
  | d :: ds, ⟨⟨D, h1, h2, h3, h4⟩, h⟩ => ⟨⟨D, h1, h2, by rw [b.block D (Array.getElem?_eq_some_iff.1 h3).1]; exact h3, h4⟩, h.below b⟩
theorem MarksOk.mem {S : Nat} {wr : World} : ∀ {ds : List Deferred}, MarksOk S ds wr → ∀ d ∈ ds, ∃ D, d = { target := .collected D, args := #[] } ∧ D < wr.heap.size
  | [], _, d, h => by cases h
  | d :: ds, ⟨⟨D, h1, h2, h3, h4⟩, h⟩, d', hd => by
    rcases List.mem_cons.1 hd with rfl | hd
    · exact ⟨D, h1, (Array.getElem?_eq_some_iff.1 h3).1⟩
    · exact h.mem d' hd
/-- The loop's invariant over frame and world. -/
def LoopI (s : Bt) (stop : Int) (w : World) (S L : Nat) (la : Option Addr) (n lc k : Nat) (a : Act) (wr : World) : Prop :=
  ∃ (Kb : Nat) (j8 j9 j20 j21 j22 j23 j24 j25 j26 j27 j28 j29 j30 j31 j32 j33 j34 j35 j36 j37 j38 j39 j40 j41 j42 j43 j44 j45 j46 j47 j48 j49 j50 j51 j52 j53 j54 j55 j56 j57 j58 j59 j60 j61 j62 j63 j64 j65 : Value) (ds : List Deferred), a = { tmps := #[.agg #[.int .u64 (u s.1), .int .u64 (u s.2)], .int .i64 stop, .pointer (some ⟨S, 0, none⟩), .pointer (some ⟨S + 1, 0, none⟩), .pointer (some ⟨S + 1 + 1, 0, none⟩), .func (.func 23) #[] #[.pointer (some ⟨S + 1 + 1 + 1, 0, none⟩)], .pointer (some ⟨L, 0, none⟩), .pointer (some ⟨Kb, 0, none⟩), j8, j9, .agg #[.int .u64 (u s.1), .int .u64 (u s.2)], .func (.func 23) #[] #[.pointer (some ⟨S + 1 + 1 + 1, 0, none⟩)], .bool true, .bool false, .bool false, .func (.func 23) #[] #[.pointer (some ⟨S + 1 + 1 + 1, 0, none⟩)], .bool false, .bool false, .agg #[.int .u64 (u s.1), .int .u64 (u s.2)], .slice la n lc, j20, j21, j22, j23, j24, j25, j26, j27, j28, j29, j30, j31, j32, j33, j34, j35, j36, j37, j38, j39, j40, j41, j42, j43, j44, j45, j46, j47, j48, j49, j50, j51, j52, j53, j54, j55, j56, j57, j58, j59, j60, j61, j62, j63, j64, j65], defers := ds } ∧ EW wr s stop S L Kb la n lc k ∧ S + 1 + 1 + 1 < L ∧ L < Kb ∧ Below S w wr ∧ MarksOk S ds wr
end Go.Proofs.YthhinchifegofaaDoor
