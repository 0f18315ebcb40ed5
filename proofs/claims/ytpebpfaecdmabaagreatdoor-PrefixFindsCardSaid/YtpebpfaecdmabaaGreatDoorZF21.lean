/- Parts of this proof, joined. -/
import Derived.Test.YtpebpfaecdmabaaGreatDoorZF00
import Derived.Test.YtpebpfaecdmabaaGreatDoorZF04
import Derived.Test.YtpebpfaecdmabaaGreatDoorZF20
import Derived.Test.YtpebpfaecdmabaaGreatDoorZF13
/- A set of nodes (an array of two words) as a law's argument. No program stands in it. -/
namespace Go.Proofs.YtpebpfaecdmabaaGreatDoor
open Go.RowKit Go.ChangeShapes Go.WideShapes Go.ChangeAt

theorem u64_word {a : Int} (h : (Lit.int .u64 a).wf = true) : ∃ x : UInt64, a = u x := by
  have h1 : IntKind.u64.min = 0 := rfl
  have h2 : IntKind.u64.max = 18446744073709551615 := rfl
  simp only [Lit.wf, Bool.and_eq_true, decide_eq_true_eq, h1, h2] at h
  exact u_nat h.1 (by omega)

/-- The cells of a set, out of its reading. -/
theorem trod_bt {H : Type} {enc : TypeId × Value → H} {P : Program} {W : World} {base : Nat} {sp : Nat → Bool} {hd : Bool} {t e fuel : Nat} {cs : List Value} {x : DataW H × List MemPlace} (ht : P.underlying t = some (.array 2 e)) (he : P.underlying e = some (.int .u64)) (hc : P.cellsOf e = 1) (hct : P.cellsOf t = 2)
    (h : DataW.trod enc P W base sp hd fuel t cs = some x) : ∃ s : Bt, cs = bc s := by
  cases fuel with
  | zero => simp [DataW.trod] at h
  | succ fuel =>
    unfold DataW.trod at h
    rw [ht] at h
    simp only at h
    split at h
    · rename_i hl
      simp only [Option.map_eq_some_iff] at h
      obtain ⟨xs, hm, _⟩ := h
      simp only [List.range_succ, List.range_zero, List.nil_append, List.cons_append, List.mapM_cons, List.mapM_nil, hc, Nat.mul_one, bind, Option.bind_eq_some_iff, pure] at hm
      obtain ⟨a, ha, b, ⟨c, hc', _⟩, _⟩ := hm
      obtain ⟨m, hm1, _, hm2⟩ := DataW.trod_int he ha
      obtain ⟨n, hn1, _, hn2⟩ := DataW.trod_int he hc'
      obtain ⟨x1, rfl⟩ := u64_word hm2
      obtain ⟨x2, rfl⟩ := u64_word hn2
      rw [hct] at hl
      match cs, hl, hm1, hn1 with
      | [c0, c1], _, hm1, hn1 =>
        simp at hm1 hn1
        exact ⟨(x1, x2), by rw [hm1, hn1]; rfl⟩
    · cases h

theorem open_bt {H : Type} {enc : TypeId × Value → H} {P : Program} {W : World} {t e b : Nat} {v : Value} {d : DataW H} {p : List MemPlace} (ht : P.underlying t = some (.array 2 e)) (he : P.underlying e = some (.int .u64)) (hc : P.cellsOf e = 1) (hct : P.cellsOf t = 2)
    (hok : Value.okWide P W .any b t v) (h : DataW.Trod enc P W 0 (fun _ => true) true t v d p) : ∃ s : Bt, v = bv s := by
  simp only [Value.okWide, ht] at hok
  obtain ⟨cs, rfl, _, _⟩ := hok
  obtain ⟨fuel, hf⟩ := h
  obtain ⟨s, hs⟩ := trod_bt ht he hc hct hf
  refine ⟨s, ?_⟩
  simp only [Value.cells] at hs
  simp only [bc] at hs
  congr 1
  apply Array.toList_inj.1
  rw [hs]
end Go.Proofs.YtpebpfaecdmabaaGreatDoor
/- A route, out of its reading. -/
namespace Go.Proofs.YtpebpfaecdmabaaGreatDoor
open Go.RowKit Go.ChangeShapes Go.WideShapes Go.ChangeAt

theorem c34 : Tryz.prog.cellsOf 30 = 7 := by kernel_rfl
theorem c32 : Tryz.prog.cellsOf 28 = 2 := by kernel_rfl
theorem c30 : Tryz.prog.cellsOf 26 = 1 := by kernel_rfl
set_option maxRecDepth 100000 in
theorem trod_pfx {H : Type} {enc : TypeId × Value → H} {W : World} {base : Nat} {sp : Nat → Bool} {hd : Bool} {fuel : Nat} {cs : List Value} {x : DataW H × List MemPlace} (h : DataW.trod enc Tryz.prog W base sp hd fuel 25 cs = some x) :
    ∃ a n : Int, 0 ≤ a ∧ a < 4294967296 ∧ cs = [.int .u32 a, .int .i64 n] := by
  obtain ⟨y0, y1, m, _, hl, h0, h1⟩ := trod_struct2 Tryz.underlying25 h
  obtain ⟨x0, e0, _, w0⟩ := DataW.trod_int Tryz.underlying23 h0
  obtain ⟨x1, e1, _, w1⟩ := DataW.trod_int Tryz.underlying3 h1
  rw [c22] at e0
  rw [c3] at e1
  rw [c24] at hl
  have w0' : 0 ≤ x0 ∧ x0 < 4294967296 := by
    simp [Lit.wf, IntKind.min, IntKind.max, IntKind.signed, IntKind.bits] at w0
    omega
  match cs, hl with
  | [c0, c1], _ =>
    simp [c22] at e0 e1
    exact ⟨x0, x1, w0'.1, w0'.2, by rw [e0, e1]⟩
set_option maxRecDepth 100000 in
theorem rt_parse {H : Type} {enc : TypeId × Value → H} {W : World} {base : Nat} {sp : Nat → Bool} {hd : Bool} {fuel : Nat} {cs : List Value} {x : DataW H × List MemPlace} (h : DataW.trod enc Tryz.prog W base sp hd fuel 30 cs = some x) : ∃ r : Rt, cs = r.cs ∧ r.in32 := by
  obtain ⟨ys, n, _, _, hl, hly, hf⟩ := DataW.trod_struct Tryz.underlying30 h
  have h0 : ∃ y, DataW.trod enc Tryz.prog W base sp hd n 25 ((cs.drop 0).take (Tryz.prog.cellsOf 25)) = some y := ⟨_, (hf 0 _ rfl).trans (List.getElem?_eq_getElem (by rw [hly]; decide))⟩
  have h1 : ∃ y, DataW.trod enc Tryz.prog W base sp hd n 3 ((cs.drop 2).take (Tryz.prog.cellsOf 3)) = some y := ⟨_, (hf 1 _ rfl).trans (List.getElem?_eq_getElem (by rw [hly]; decide))⟩
  have h2 : ∃ y, DataW.trod enc Tryz.prog W base sp hd n 28 ((cs.drop 3).take (Tryz.prog.cellsOf 28)) = some y := ⟨_, (hf 2 _ rfl).trans (List.getElem?_eq_getElem (by rw [hly]; decide))⟩
  have h3 : ∃ y, DataW.trod enc Tryz.prog W base sp hd n 28 ((cs.drop 5).take (Tryz.prog.cellsOf 28)) = some y := ⟨_, (hf 3 _ rfl).trans (List.getElem?_eq_getElem (by rw [hly]; decide))⟩
  rw [c24] at h0
  rw [c3] at h1
  rw [c32] at h2 h3
  obtain ⟨_, h0⟩ := h0
  obtain ⟨_, h1⟩ := h1
  obtain ⟨_, h2⟩ := h2
  obtain ⟨_, h3⟩ := h3
  obtain ⟨a, m, ha, ha2, e0⟩ := trod_pfx h0
  obtain ⟨k, e1, _⟩ := DataW.trod_int Tryz.underlying3 h1
  obtain ⟨s, e2⟩ := trod_bt Tryz.underlying28 Tryz.underlying26 c30 c32 h2
  obtain ⟨t, e3⟩ := trod_bt Tryz.underlying28 Tryz.underlying26 c30 c32 h3
  rw [c34] at hl
  match cs, hl with
  | [c0, c1, c2, c3, c4, c5, c6], _ =>
    simp [bc] at e0 e1 e2 e3
    exact ⟨⟨a, m, k, s.1, s.2, t.1, t.2⟩, by simp [Rt.cs, e0, e1, e2, e3], ha, ha2⟩
end Go.Proofs.YtpebpfaecdmabaaGreatDoor
/- The law PrefixFinds, by its arguments. -/
namespace Go.Proofs.YtpebpfaecdmabaaGreatDoor
open Go.RowKit

theorem PrefixFinds_row (v : Value) (rs : List Rt) (a n ad : Int) (w : World) (hTab : Bs.TabW w) (h : SlR w 7 v rs.length (rs.flatMap Rt.cs)) (hr : ∀ r ∈ rs, r.in32) (hl : rs.length * 56 ≤ 140737488351232) (ha : 0 ≤ a) (ha2 : a < 4294967296) (hd : (Lit.int .u32 ad).wf = true) :
    Calls Tryz.prog 3 #[v, pfx a n, .int .u32 ad] w fun e w' => e = .returned (.bool true) ∧ Below w.heap.size w w' := by
  have w0' : 0 ≤ ad ∧ ad < 4294967296 := by
    simp [Lit.wf, IntKind.min, IntKind.max, IntKind.signed, IntKind.bits] at hd
    omega
  exact PrefixFinds_walk v rs a n ad w awake_true hTab h hl hr ha ha2 w0'.1 w0'.2
end Go.Proofs.YtpebpfaecdmabaaGreatDoor
