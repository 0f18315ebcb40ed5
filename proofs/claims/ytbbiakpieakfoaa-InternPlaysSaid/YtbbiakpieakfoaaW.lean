/- A step of a script, out of its reading. -/
import Derived.Test.YtbbiakpieakfoaaS
import Derived.Test.YtbbiakpieakfoaaV
namespace Go.Proofs.Ytbbiakpieakfoaa
open Go.RowKit Go.ChangeShapes Go.WideShapes Go.ChangeAt

theorem cells45 : Try.prog.cellsOf 45 = 6 := by kernel_rfl
theorem cells3 : Try.prog.cellsOf 3 = 1 := by kernel_rfl
theorem op_parse {H : Type} {enc : TypeId × Value → H} {W : World} {base : Nat} {sp : Nat → Bool} {hd : Bool} {fuel : Nat} {cs : List Value} {x : DataW H × List MemPlace} (h : DataW.trod enc Try.prog W base sp hd fuel 45 cs = some x) : ∃ o : OpD, cs = oc o := by
  obtain ⟨ys, n, _, _, hl, hly, hf⟩ := DataW.trod_struct Try.underlying45 h
  have h0 : ∃ y, DataW.trod enc Try.prog W base sp hd n 3 ((cs.drop 0).take (Try.prog.cellsOf 3)) = some y := ⟨_, (hf 0 _ rfl).trans (List.getElem?_eq_getElem (by rw [hly]; decide))⟩
  have h1 : ∃ y, DataW.trod enc Try.prog W base sp hd n 3 ((cs.drop 1).take (Try.prog.cellsOf 3)) = some y := ⟨_, (hf 1 _ rfl).trans (List.getElem?_eq_getElem (by rw [hly]; decide))⟩
  have h2 : ∃ y, DataW.trod enc Try.prog W base sp hd n 24 ((cs.drop 2).take (Try.prog.cellsOf 24)) = some y := ⟨_, (hf 2 _ rfl).trans (List.getElem?_eq_getElem (by rw [hly]; decide))⟩
  have h3 : ∃ y, DataW.trod enc Try.prog W base sp hd n 3 ((cs.drop 4).take (Try.prog.cellsOf 3)) = some y := ⟨_, (hf 3 _ rfl).trans (List.getElem?_eq_getElem (by rw [hly]; decide))⟩
  have h4 : ∃ y, DataW.trod enc Try.prog W base sp hd n 3 ((cs.drop 5).take (Try.prog.cellsOf 3)) = some y := ⟨_, (hf 4 _ rfl).trans (List.getElem?_eq_getElem (by rw [hly]; decide))⟩
  rw [cells3] at h0 h1 h3 h4
  rw [cells24] at h2
  obtain ⟨_, h0⟩ := h0
  obtain ⟨_, h1⟩ := h1
  obtain ⟨_, h2⟩ := h2
  obtain ⟨_, h3⟩ := h3
  obtain ⟨_, h4⟩ := h4
  obtain ⟨a0, e0, _⟩ := DataW.trod_int Try.underlying3 h0
  obtain ⟨a1, e1, _⟩ := DataW.trod_int Try.underlying3 h1
  obtain ⟨s, e2⟩ := trod_bt Try.underlying24 Try.underlying22 cells22 cells24 h2
  obtain ⟨a3, e3, _⟩ := DataW.trod_int Try.underlying3 h3
  obtain ⟨a4, e4, _⟩ := DataW.trod_int Try.underlying3 h4
  rw [cells45] at hl
  match cs, hl with
  | [c0, c1, c2, c3, c4, c5], _ =>
    simp [bc] at e0 e1 e2 e3 e4
    exact ⟨⟨a0, a1, s, a3, a4⟩, by simp [oc, e0, e1, e2, e3, e4]⟩
end Go.Proofs.Ytbbiakpieakfoaa
