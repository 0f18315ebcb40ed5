/- A route, out of its reading. -/
import Derived.Test.YtpebpfaecdmabaaDoorZL21
namespace Go.Proofs.YtpebpfaecdmabaaDoor
open Go.RowKit Go.ChangeShapes Go.WideShapes Go.ChangeAt

theorem c34 : Tryd.prog.cellsOf 34 = 7 := by kernel_rfl
theorem c32 : Tryd.prog.cellsOf 32 = 2 := by kernel_rfl
theorem c30 : Tryd.prog.cellsOf 30 = 1 := by kernel_rfl
set_option maxRecDepth 100000 in
theorem trod_pfx {H : Type} {enc : TypeId × Value → H} {W : World} {base : Nat} {sp : Nat → Bool} {hd : Bool} {fuel : Nat} {cs : List Value} {x : DataW H × List MemPlace} (h : DataW.trod enc Tryd.prog W base sp hd fuel 24 cs = some x) :
    ∃ a n : Int, 0 ≤ a ∧ a < 4294967296 ∧ cs = [.int .u32 a, .int .i64 n] := by
  obtain ⟨y0, y1, m, _, hl, h0, h1⟩ := trod_struct2 Tryd.underlying24 h
  obtain ⟨x0, e0, _, w0⟩ := DataW.trod_int Tryd.underlying22 h0
  obtain ⟨x1, e1, _, w1⟩ := DataW.trod_int Tryd.underlying3 h1
  rw [c22] at e0
  rw [c3] at e1
  rw [c24] at hl
  have w0' : 0 ≤ x0 ∧ x0 < 4294967296 := by
    simp [Lit.wf, IntKind.min, IntKind.max, IntKind.signed, IntKind.bits] at w0
    omega
  match cs, hl with
  | [c0, c1], _ =>
    simp [c22] at e0 e1
    exact ⟨x0, x1, w0'.1, w0'.2, by rw [e0, e1]⟩
set_option maxRecDepth 100000 in
theorem rt_parse {H : Type} {enc : TypeId × Value → H} {W : World} {base : Nat} {sp : Nat → Bool} {hd : Bool} {fuel : Nat} {cs : List Value} {x : DataW H × List MemPlace} (h : DataW.trod enc Tryd.prog W base sp hd fuel 34 cs = some x) : ∃ r : Rt, cs = r.cs ∧ r.in32 := by
  obtain ⟨ys, n, _, _, hl, hly, hf⟩ := DataW.trod_struct Tryd.underlying34 h
  have h0 : ∃ y, DataW.trod enc Tryd.prog W base sp hd n 24 ((cs.drop 0).take (Tryd.prog.cellsOf 24)) = some y := ⟨_, (hf 0 _ rfl).trans (List.getElem?_eq_getElem (by rw [hly]; decide))⟩
  have h1 : ∃ y, DataW.trod enc Tryd.prog W base sp hd n 3 ((cs.drop 2).take (Tryd.prog.cellsOf 3)) = some y := ⟨_, (hf 1 _ rfl).trans (List.getElem?_eq_getElem (by rw [hly]; decide))⟩
  have h2 : ∃ y, DataW.trod enc Tryd.prog W base sp hd n 32 ((cs.drop 3).take (Tryd.prog.cellsOf 32)) = some y := ⟨_, (hf 2 _ rfl).trans (List.getElem?_eq_getElem (by rw [hly]; decide))⟩
  have h3 : ∃ y, DataW.trod enc Tryd.prog W base sp hd n 32 ((cs.drop 5).take (Tryd.prog.cellsOf 32)) = some y := ⟨_, (hf 3 _ rfl).trans (List.getElem?_eq_getElem (by rw [hly]; decide))⟩
  rw [c24] at h0
  rw [c3] at h1
  rw [c32] at h2 h3
  obtain ⟨_, h0⟩ := h0
  obtain ⟨_, h1⟩ := h1
  obtain ⟨_, h2⟩ := h2
  obtain ⟨_, h3⟩ := h3
  obtain ⟨a, m, ha, ha2, e0⟩ := trod_pfx h0
  obtain ⟨k, e1, _⟩ := DataW.trod_int Tryd.underlying3 h1
  obtain ⟨s, e2⟩ := trod_bt Tryd.underlying32 Tryd.underlying30 c30 c32 h2
  obtain ⟨t, e3⟩ := trod_bt Tryd.underlying32 Tryd.underlying30 c30 c32 h3
  rw [c34] at hl
  match cs, hl with
  | [c0, c1, c2, c3, c4, c5, c6], _ =>
    simp [bc] at e0 e1 e2 e3
    exact ⟨⟨a, m, k, s.1, s.2, t.1, t.2⟩, by simp [Rt.cs, e0, e1, e2, e3], ha, ha2⟩
theorem PrefixLongest_row (v : Value) (rs : List Rt) (ad : Int) (w : World) (hTab : Bs.TabW w) (h : SlR w 7 v rs.length (rs.flatMap Rt.cs)) (hr : ∀ r ∈ rs, r.in32) (hl : rs.length * 56 ≤ 140737488351232) (ha : (Lit.int .u32 ad).wf = true) :
    Calls Tryd.prog 4 #[v, .int .u32 ad] w fun e w' => e = .returned (.bool true) ∧ Below w.heap.size w w' := by
  have w0' : 0 ≤ ad ∧ ad < 4294967296 := by
    simp [Lit.wf, IntKind.min, IntKind.max, IntKind.signed, IntKind.bits] at ha
    omega
  exact PrefixLongest_walk v rs ad w hTab h (by omega) hr w0'.1 w0'.2
end Go.Proofs.YtpebpfaecdmabaaDoor
