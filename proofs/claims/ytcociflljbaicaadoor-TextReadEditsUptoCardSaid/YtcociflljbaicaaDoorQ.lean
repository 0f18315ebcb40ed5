/- Regions that draw their order, whose operations only read, and whose callees at most make memory: one walk in the order of the text. No program stands in it. -/
import Derived.Test.YtcociflljbaicaaDoorL
import Derived.Deep.Quiet
namespace Go.Proofs.YtcociflljbaicaaDoor
open Go.RowKit

/-- The worlds that extend a world: all that was there is as it was. -/
structure ExtW (w : World) where
  out : World
  ext : Below w.heap.size w out
instance (w : World) : Nonempty (ExtW w) := ⟨⟨w, Below.refl _ _⟩⟩
/-- The world itself. -/
def exw {w : World} (n : ExtW w) : World := n.out
theorem exw_below {w : World} (n : ExtW w) : Below w.heap.size w (exw n) := n.ext
theorem exw_cell {w : World} {a : Addr} {v : Value} (h : w.cell? a = some v) (n : ExtW w) : (exw n).cell? a = some v :=
  (n.ext.cell (World.block_lt_of_cell? w a h)).trans h
theorem exw_sl {w : World} {sz : Nat} {v : Value} {m : Nat} {cs : List Value} (h : SlR w sz v m cs) (n : ExtW w) : SlR (exw n) sz v m cs := h.below n.ext

theorem region_ext {P : Program} {id : Nat} {Q : Exit → Act → World → Prop} {a : Act} {w : World} {l : List Oper} (hm : P.follows .mixedOrders = true) (hB : Region.lexB .any l.toArray = true)
    (h : wpQuiet P l.toArray (fun w' => ∃ n : ExtW w, w' = exw n) (fun a' => ∀ w', (∃ n : ExtW w, w' = exw n) → Q .normal a' w') l a) : (Code.region id l.toArray true).wp P Q a w :=
  wp_region_quiet (C := fun w' => ∃ n : ExtW w, w' = exw n) hm hB ⟨⟨_, (Below.refl _ w).drew⟩, rfl⟩ (by simpa using h)

/-- A callee that at most makes memory. -/
theorem ext_call {P : Program} {f : FuncId} {args : Array Value} {w : World} {n : ExtW w} {v : Value}
    (h : Calls P f args (exw n) fun e w' => e = .returned v ∧ Below (exw n).heap.size (exw n) w') : Calls P f args (exw n) fun e w'' => e = .returned v ∧ ∃ m : ExtW w, w'' = exw m :=
  h.mono fun _ w' ⟨he, hm⟩ => ⟨he, ⟨w', n.ext.trans (hm.mono n.ext.size)⟩, rfl⟩
theorem ext_same {P : Program} {f : FuncId} {args : Array Value} {w : World} {n : ExtW w} {v : Value}
    (h : Calls P f args (exw n) fun e w' => e = .returned v ∧ exw n = w') : Calls P f args (exw n) fun e w'' => e = .returned v ∧ ∃ m : ExtW w, w'' = exw m :=
  h.mono fun _ w' ⟨he, hm⟩ => ⟨he, n, hm.symm⟩
end Go.Proofs.YtcociflljbaicaaDoor
