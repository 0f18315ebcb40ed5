/- A set of nodes (an array of two words) as a law's argument. No program stands in it. -/
import Derived.Test.YthhinchifegofaaDoorR
import Derived.Test.YthhinchifegofaaDoorU
namespace Go.Proofs.YthhinchifegofaaDoor
open Go.RowKit Go.ChangeShapes Go.WideShapes Go.ChangeAt

theorem u64_word {a : Int} (h : (Lit.int .u64 a).wf = true) : ∃ x : UInt64, a = u x := by
  have h1 : IntKind.u64.min = 0 := rfl
  have h2 : IntKind.u64.max = 18446744073709551615 := rfl
  simp only [Lit.wf, Bool.and_eq_true, decide_eq_true_eq, h1, h2] at h
  exact u_nat h.1 (by omega)

/-- The cells of a set, out of its reading. -/
theorem trod_bt {H : Type} {enc : TypeId × Value → H} {P : Program} {W : World} {base : Nat} {sp : Nat → Bool} {hd : Bool} {t e fuel : Nat} {cs : List Value} {x : DataW H × List MemPlace} (ht : P.underlying t = some (.array 2 e)) (he : P.underlying e = some (.int .u64)) (hc : P.cellsOf e = 1) (hct : P.cellsOf t = 2)
    (h : DataW.trod enc P W base sp hd fuel t cs = some x) : ∃ s : Bt, cs = bc s := by
  cases fuel with
  | zero => simp [DataW.trod] at h
  | succ fuel =>
    unfold DataW.trod at h
    rw [ht] at h
    simp only at h
    split at h
    · rename_i hl
      simp only [Option.map_eq_some_iff] at h
      obtain ⟨xs, hm, _⟩ := h
      simp only [List.range_succ, List.range_zero, List.nil_append, List.cons_append, List.mapM_cons, List.mapM_nil, hc, Nat.mul_one, bind, Option.bind_eq_some_iff, pure] at hm
      obtain ⟨a, ha, b, ⟨c, hc', _⟩, _⟩ := hm
      obtain ⟨m, hm1, _, hm2⟩ := DataW.trod_int he ha
      obtain ⟨n, hn1, _, hn2⟩ := DataW.trod_int he hc'
      obtain ⟨x1, rfl⟩ := u64_word hm2
      obtain ⟨x2, rfl⟩ := u64_word hn2
      rw [hct] at hl
      match cs, hl, hm1, hn1 with
      | [c0, c1], _, hm1, hn1 =>
        simp at hm1 hn1
        exact ⟨(x1, x2), by rw [hm1, hn1]; rfl⟩
    · cases h

theorem open_bt {H : Type} {enc : TypeId × Value → H} {P : Program} {W : World} {t e b : Nat} {v : Value} {d : DataW H} {p : List MemPlace} (ht : P.underlying t = some (.array 2 e)) (he : P.underlying e = some (.int .u64)) (hc : P.cellsOf e = 1) (hct : P.cellsOf t = 2)
    (hok : Value.okWide P W .any b t v) (h : DataW.Trod enc P W 0 (fun _ => true) true t v d p) : ∃ s : Bt, v = bv s := by
  simp only [Value.okWide, ht] at hok
  obtain ⟨cs, rfl, _, _⟩ := hok
  obtain ⟨fuel, hf⟩ := h
  obtain ⟨s, hs⟩ := trod_bt ht he hc hct hf
  refine ⟨s, ?_⟩
  simp only [Value.cells] at hs
  simp only [bc] at hs
  congr 1
  apply Array.toList_inj.1
  rw [hs]
end Go.Proofs.YthhinchifegofaaDoor
