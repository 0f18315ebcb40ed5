/- The laid table, read. -/
import Derived.Test.YthhinchifegofaaDoorI
import Derived.ProofKit
import Derived.LaidMore
import Derived.OpenShut
import Derived.Stop.Joined
namespace Go.Proofs.YthhinchifegofaaDoor
open Go.ChangeShapes Go.WideShapes Go.ChangeAt Go.WideMaps Go.WideElems Go.RowKit

def laidTab {H : Type} : List (String × DataW H) := [("math/bits.deBruijn64tab", Rows.laid_math_bits_deBruijn64tab)]
theorem gTab : Tryd.prog.globalNamed "math/bits.deBruijn64tab" = some 0 := by kernel_rfl
theorem tTab : (Tryd.prog.globals[0]?).map (·.type) = some 59 := by kernel_rfl
theorem tab_data {H : Type} : (Rows.laid_math_bits_deBruijn64tab : DataW H) = .agg (tzTab.map fun (k : Nat) => .lit (.int .u8 (k : Int))) := rfl

theorem of_laid {W : World} (h : laidMetH Tryd.prog laidTab W) : TabW W := by
  rw [MakeChecks.laidMetH_plain _ _ _ (by kernel_rfl)] at h
  obtain ⟨ps, ⟨g0, t0, cs0, f0, p0, q0, hg0, ht0, hv0, hd0, _⟩, _, _⟩ := h
  obtain rfl := Option.some.inj (gTab.symm.trans hg0)
  obtain rfl := Option.some.inj (tTab.symm.trans ht0)
  obtain ⟨xs, m1, rfl, hx1, hlen, hn3, hel⟩ := DataW.trod_array Tryd.underlying59 hd0
  rw [tab_data] at hx1
  simp only [Prod.mk.injEq, DataW.agg.injEq] at hx1
  have c5 : Tryd.prog.cellsOf 5 = 1 := by kernel_rfl
  refine ⟨fun i k hk => ?_⟩
  have hi : i < 64 := by
    have := (List.getElem?_eq_some_iff.1 hk).1
    exact Nat.lt_of_lt_of_eq this (by decide)
  have h1 := hel i hi
  rw [c5, Nat.mul_one] at h1
  obtain ⟨x, hx⟩ : ∃ x, xs[i]? = some x := ⟨xs[i], List.getElem?_eq_getElem (by omega)⟩
  rw [hx] at h1
  obtain ⟨n, e1, e2, _⟩ := DataW.trod_int Tryd.underlying5 h1
  have hm : (xs.map (·.1))[i]? = some (.lit (.int .u8 n)) := by rw [List.getElem?_map, hx, e2]; rfl
  rw [← hx1.1, List.getElem?_map, hk] at hm
  have hnk : n = (k : Int) := by simpa using hm.symm
  subst hnk
  rw [World.var?_cell hg0 hv0 i, ← Array.getElem?_toList]
  have h2 : cs0.toList[i]? = (cs0.toList.drop i)[0]? := by rw [List.getElem?_drop]; rfl
  have h3 : ((cs0.toList.drop i).take 1)[0]? = (cs0.toList.drop i)[0]? := by rw [List.getElem?_take]; rfl
  rw [h2, ← h3, e1]
  rfl
end Go.Proofs.YthhinchifegofaaDoor
