/- A step of a script, out of its reading. -/
import Derived.Test.YtpapknmkiampgaaR
import Derived.Test.YtpapknmkiampgaaPX
namespace Go.Proofs.Ytpapknmkiampgaa
open Go.RowKit Go.ChangeShapes Go.WideShapes Go.ChangeAt

theorem cells44 : Try.prog.cellsOf 44 = 3 := by kernel_rfl
theorem cells3 : Try.prog.cellsOf 3 = 1 := by kernel_rfl
theorem op_parse {H : Type} {enc : TypeId × Value → H} {W : World} {base : Nat} {sp : Nat → Bool} {hd : Bool} {fuel : Nat} {cs : List Value} {x : DataW H × List MemPlace} (h : DataW.trod enc Try.prog W base sp hd fuel 44 cs = some x) : ∃ o : OpD, cs = oc o := by
  obtain ⟨ys, n, _, _, hl, hly, hf⟩ := DataW.trod_struct Try.underlying44 h
  have h0 : ∃ y, DataW.trod enc Try.prog W base sp hd n 3 ((cs.drop 0).take (Try.prog.cellsOf 3)) = some y := ⟨_, (hf 0 _ rfl).trans (List.getElem?_eq_getElem (by rw [hly]; decide))⟩
  have h1 : ∃ y, DataW.trod enc Try.prog W base sp hd n 3 ((cs.drop 1).take (Try.prog.cellsOf 3)) = some y := ⟨_, (hf 1 _ rfl).trans (List.getElem?_eq_getElem (by rw [hly]; decide))⟩
  have h2 : ∃ y, DataW.trod enc Try.prog W base sp hd n 3 ((cs.drop 2).take (Try.prog.cellsOf 3)) = some y := ⟨_, (hf 2 _ rfl).trans (List.getElem?_eq_getElem (by rw [hly]; decide))⟩
  rw [cells3] at h0 h1 h2
  obtain ⟨_, h0⟩ := h0
  obtain ⟨_, h1⟩ := h1
  obtain ⟨_, h2⟩ := h2
  obtain ⟨a0, e0, _⟩ := DataW.trod_int Try.underlying3 h0
  obtain ⟨a1, e1, _⟩ := DataW.trod_int Try.underlying3 h1
  obtain ⟨a2, e2, _⟩ := DataW.trod_int Try.underlying3 h2
  rw [cells44] at hl
  match cs, hl with
  | [c0, c1, c2], _ =>
    simp at e0 e1 e2
    exact ⟨⟨a0, a1, a2⟩, by simp [oc, e0, e1, e2]⟩
end Go.Proofs.Ytpapknmkiampgaa
