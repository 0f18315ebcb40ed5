/- Opening what a law's arguments read as. No program stands in it. -/
import Derived.Test.YtcociflljbaicaaDoorL
import Derived.ProofKit
import Derived.SizedLaws
import Derived.Deep.Slices
namespace Go.Proofs.YtcociflljbaicaaDoor
open Go.RowKit Go.ChangeShapes Go.WideShapes Go.ChangeAt

theorem chunk_of_flatMap {α : Type} (F : Nat → List α) (sz n : Nat) (hF : ∀ i, i < n → (F i).length = sz) : ∀ i, i < n → (((List.range n).flatMap F).drop (i * sz)).take sz = F i := by
  have key : ∀ (m : Nat) (G : Nat → List α), (∀ i, i < m → (G i).length = sz) → ∀ i, i < m → (((List.range m).flatMap G).drop (i * sz)).take sz = G i := by
    intro m
    induction m with
    | zero => intro G _ i hi; omega
    | succ m ih =>
      intro G hG i hi
      rw [List.range_succ_eq_map, List.flatMap_cons, List.flatMap_map]
      cases i with
      | zero => simp [hG 0 (by omega)]
      | succ i =>
        have h0 := hG 0 (by omega)
        rw [List.drop_append, List.drop_of_length_le (by rw [h0, Nat.succ_mul]; omega), List.nil_append]
        rw [h0, show (i + 1) * sz - sz = i * sz by rw [Nat.succ_mul]; omega]
        exact ih (fun i => G (i + 1)) (fun j hj => hG (j + 1) (by omega)) i (by omega)
  exact key n F hF

theorem length_flatMap_range {α : Type} (F : Nat → List α) (sz n : Nat) (hF : ∀ i, i < n → (F i).length = sz) : ((List.range n).flatMap F).length = n * sz := by
  induction n with
  | zero => simp
  | succ n ih =>
    rw [List.range_succ, List.flatMap_append, List.length_append, ih (fun i hi => hF i (by omega))]
    simp [hF n (by omega), Nat.succ_mul]

/-- A slice of whatever elements (of sz cells each), opened. -/
theorem open_sl {H : Type} {enc : TypeId × Value → H} {P : Program} {W : World} {t e sz : Nat} {b : Nat} {v : Value} {d : DataW H} {p : List MemPlace} (ht : P.underlying t = some (.slice e)) (hc : P.cellsOf e = sz) (hsz : 0 < sz)
    (hok : Value.okWide P W .any b t v) (h : DataW.Trod enc P W 0 (fun _ => true) true t v d p) :
    ∃ n cs, SlR W sz v n cs ∧ (∀ i, i < n → ∃ fuel x, DataW.trod enc P W 0 (fun _ => true) true fuel e ((cs.drop (i * sz)).take sz) = some x) ∧ ((n = 0 ∧ d = .nil) ∨ ∃ elems sp, d = .slice elems sp ∧ elems.length = n) := by
  obtain ⟨a, len, cap, rfl⟩ := okWide_slice ht hok
  obtain ⟨fuel, hf⟩ := h
  rcases Deep.open_slice ht hf with ⟨hcs, hx⟩ | ⟨a', len', cap', m, k, D, Pl, hcs, _, hl, hm, hmm, hx, hel⟩
  · simp [Value.cells] at hcs
    obtain ⟨rfl, rfl, rfl⟩ := hcs
    simp only [Prod.mk.injEq] at hx
    exact ⟨0, [], SlR.nil _ _, fun i hi => by omega, .inl ⟨rfl, hx.1⟩⟩
  · simp [Value.cells] at hcs
    obtain ⟨rfl, rfl, rfl⟩ := hcs
    simp only [if_true] at hmm
    subst hmm
    rw [hc] at hel
    have hel' : ∀ i, i < m → ∃ cs', W.cells? 0 (a'.add (i * sz)) sz = some cs' ∧ DataW.trod enc P W 0 (fun _ => true) true k e cs' = some (D i, Pl i) := hel
    obtain ⟨F, hF⟩ := Deep.choose_lt (p := fun i cs' => W.cells? 0 (a'.add (i * sz)) sz = some cs' ∧ DataW.trod enc P W 0 (fun _ => true) true k e cs' = some (D i, Pl i)) hel'
    have hlen : ∀ i, i < len → (F i).length = sz := fun i hi => (World.cells?_some (hF i (by omega)).1).2.1
    refine ⟨len, (List.range len).flatMap F, ⟨length_flatMap_range F sz len hlen, by omega, some a', m, rfl, fun h => by simp at h, ?_⟩, ?_, .inr ⟨_, _, by simp only [Prod.mk.injEq] at hx; exact hx.1, by simp⟩⟩
    · by_cases h0 : len = 0
      · left; subst h0; rfl
      · right
        have hc0 := (World.cells?_some (hF 0 (by omega)).1).2.2 0 hsz
        have hspot : a'.spot = none := by
          have h1 : ∃ u, W.cell? a' = some u := by
            have : (F 0)[0]? ≠ none := by simp [hlen 0 (by omega)]; omega
            obtain ⟨u, hu⟩ := Option.ne_none_iff_exists'.1 this
            exact ⟨u, by rw [← hu, ← hc0]; simp [Addr.add]⟩
          obtain ⟨u, hu⟩ := h1
          unfold World.cell? at hu
          split at hu
          · split at hu
            · simp at hu
            · rename_i h; simpa using h
          · simp at hu
        obtain ⟨bb, off, sp⟩ := a'
        simp only at hspot
        subst hspot
        refine ⟨bb, off, rfl, fun j u hu => ?_⟩
        have hjl : j < len * sz := by
          have := (List.getElem?_eq_some_iff.1 hu).1
          rwa [length_flatMap_range F sz len hlen] at this
        have hi : j / sz < len := Nat.div_lt_of_lt_mul (by rw [Nat.mul_comm]; exact hjl)
        have hm2 : j % sz < sz := Nat.mod_lt _ hsz
        have hch := chunk_of_flatMap F sz len hlen (j / sz) hi
        have hF' := (World.cells?_some (hF (j / sz) (by omega)).1).2.2 (j % sz) hm2
        have hju : (F (j / sz))[j % sz]? = some u := by
          rw [← hch, List.getElem?_take, if_pos hm2, List.getElem?_drop, ← hu]
          congr 1
          rw [Nat.mul_comm]; exact Nat.div_add_mod j sz
        rw [hju, Deep.add_add, Addr.add_at] at hF'
        rw [← hF']
        congr 3
        rw [Nat.mul_comm]; exact (Nat.div_add_mod j sz).symm
    · intro i hi
      rw [chunk_of_flatMap F sz len hlen i hi]
      exact ⟨k, _, (hF i (by omega)).2⟩

theorem flatMap_one (xs : List Int) : xs.flatMap (fun x => [Value.int .i64 x]) = ints xs := by
  induction xs with
  | nil => rfl
  | cons x l ih => simp only [List.flatMap_cons, ih]; rfl

/-- From chunks to a list of structures. -/
theorem list_of_chunks {α : Type} (enc : α → List Value) (good : α → Prop) (sz : Nat) : ∀ (n : Nat) (cs : List Value), cs.length = n * sz → (∀ i, i < n → ∃ x, (cs.drop (i * sz)).take sz = enc x ∧ good x) → ∃ xs : List α, xs.length = n ∧ cs = xs.flatMap enc ∧ ∀ x ∈ xs, good x := by
  intro n
  induction n with
  | zero => intro cs hl _; exact ⟨[], rfl, List.eq_nil_of_length_eq_zero (by simpa using hl), by simp⟩
  | succ n ih =>
    intro cs hl h
    obtain ⟨x, hx, hg⟩ := h 0 (by omega)
    obtain ⟨xs, h1, h2, h3⟩ := ih (cs.drop sz) (by rw [List.length_drop, hl, Nat.succ_mul]; omega) (fun i hi => by
      obtain ⟨y, hy, hgy⟩ := h (i + 1) (by omega)
      exact ⟨y, by rw [List.drop_drop, ← hy, Nat.succ_mul, Nat.add_comm], hgy⟩)
    refine ⟨x :: xs, by simp [h1], ?_, ?_⟩
    · rw [List.flatMap_cons, ← h2, ← hx]; simp
    · intro y hy
      rcases List.mem_cons.1 hy with rfl | hy
      · exact hg
      · exact h3 y hy

theorem u16_nat {a : Int} (h : (Lit.int .u16 a).wf = true) : ∃ m : Nat, a = m ∧ m ≤ 65535 := by
  have h1 : IntKind.u16.min = 0 := rfl
  have h2 : IntKind.u16.max = 65535 := rfl
  simp only [Lit.wf, Bool.and_eq_true, decide_eq_true_eq, h1, h2] at h
  exact ⟨a.toNat, by omega, by omega⟩
theorem u8_nat {a : Int} (h : (Lit.int .u8 a).wf = true) : ∃ m : Nat, a = m ∧ m ≤ 255 := by
  have h1 : IntKind.u8.min = 0 := rfl
  have h2 : IntKind.u8.max = 255 := rfl
  simp only [Lit.wf, Bool.and_eq_true, decide_eq_true_eq, h1, h2] at h
  exact ⟨a.toNat, by omega, by omega⟩
theorem i64_bd {a : Int} (h : (Lit.int .i64 a).wf = true) : -9223372036854775808 ≤ a ∧ a ≤ 9223372036854775807 := by
  have h1 : IntKind.i64.min = -9223372036854775808 := rfl
  have h2 : IntKind.i64.max = 9223372036854775807 := rfl
  simp only [Lit.wf, Bool.and_eq_true, decide_eq_true_eq, h1, h2] at h
  exact h
end Go.Proofs.YtcociflljbaicaaDoor
