/- The table by definition, and copies. -/
import Derived.Test.YtbbiakpieakfoaaD
import Derived.Test.YtbbiakpieakfoaaPG
namespace Go.Proofs.Ytbbiakpieakfoaa
open Go.RowKit

/-- A table by definition: its list lies at the head of block G. -/
def RefT (w : World) (v : Value) (L : List Bt) (G : Nat) : Prop :=
  ∃ cap, v = .slice (some ⟨G, 0, none⟩) L.length cap ∧ w.ownsRow 0 24 2 (.slice (some ⟨G, 0, none⟩) L.length cap) L.length (L.flatMap bc)
theorem RefT.lt {w : World} {v : Value} {L : List Bt} {G : Nat} (h : RefT w v L G) : G < w.heap.size := by
  obtain ⟨cap, rfl, h⟩ := h
  exact (h.lt G rfl).2
theorem RefT.keep {w w' : World} {v : Value} {L : List Bt} {G : Nat} {S : Nat → Prop} (h : RefT w v L G) (k : Keep S w w') (hS : ¬ S G) : RefT w' v L G := by
  obtain ⟨cap, rfl, h⟩ := h
  exact ⟨cap, rfl, k.owns h (by intro j hj; simp [Value.ownBlock] at hj; subst hj; exact hS)⟩
theorem RefT.below {w w' : World} {v : Value} {L : List Bt} {G : Nat} (h : RefT w v L G) (hb : Below w.heap.size w w') : RefT w' v L G :=
  h.keep (Keep.of_below (S := fun _ => False) hb) (by simp)
theorem RefT.set_at {w : World} {v : Value} {L : List Bt} {G : Nat} (h : RefT w v L G) (i : Nat) (hi : i < L.length) : w.cell? ⟨G, i * 2, none⟩ = some (.int .u64 (u L[i].1)) ∧ w.cell? ⟨G, i * 2 + 1, none⟩ = some (.int .u64 (u L[i].2)) := by
  obtain ⟨cap, rfl, h⟩ := h
  have hc := h.cells (g := G) rfl
  have e := flatMap_bc_at L i hi
  have h1 := hc _ _ e.1
  have h2 := hc _ _ e.2
  rw [Addr.add_at, Nat.zero_add] at h1 h2
  exact ⟨h1, h2⟩

theorem refNew_any (w : World) :
    Calls Try.prog 13 #[] w fun e w' => ∃ v G, e = .returned (.agg #[v]) ∧ Below w.heap.size w w' ∧ RefT w' v [(0, 0)] G ∧ w.heap.size ≤ G := by
  go_enter Try.func13, Try.ntmps13
  go_wp2
  have ho := World.ownsRow_lit (base := 0) (e := 24) (size := 2) (w.alloc (.cells #[.slice (some ⟨w.heap.size + 1, 0, none⟩) 1 1] 41)) #[.int .u64 0, .int .u64 0] 1 (Nat.zero_le _) (by simp [maxLen]) rfl
  rw [World.size_alloc] at ho
  have hc : ((w.alloc (.cells #[.slice (some ⟨w.heap.size + 1, 0, none⟩) 1 1] 41)).alloc (.cells #[.int .u64 0, .int .u64 0] 24)).cell? ⟨w.heap.size, 0, none⟩ = some (.slice (some ⟨w.heap.size + 1, 0, none⟩) 1 1) := by
    rw [World.cell?_alloc_past _ _ _ (by simp)]
    simp only [World.cell?, heap_alloc_new]
    rfl
  exact bodyPost_ret (v := .agg #[.slice (some ⟨w.heap.size + 1, 0, none⟩) 1 1]) (by simp [results, Try.results13, go_sem, hc]) rfl ⟨_, w.heap.size + 1, rfl, ((Below.refl _ _).alloc (Nat.le_refl _) _).alloc (by simp) _, ⟨1, rfl, ho⟩, by omega⟩

set_option maxRecDepth 100000 in
theorem rest_any (n by' : Int) (w : World) (hb : 0 < by') (hb2 : by' ≤ 1100) :
    Calls Try.prog 14 #[.int .i64 n, .int .i64 by'] w fun e w' => e = .returned (.int .i64 (n % by')) ∧ w = w' := by
  have e := Int.tmod_eq_emod (a := n) (b := by')
  have l0 := Int.emod_nonneg n (show by' ≠ 0 by omega)
  have l1 := Int.emod_lt_of_pos n hb
  have hna : ((by'.natAbs : Nat) : Int) = by' := by omega
  obtain ⟨m, hm⟩ : ∃ m, n % by' = m := ⟨_, rfl⟩
  obtain ⟨t, ht⟩ : ∃ t, n.tmod by' = t := ⟨_, rfl⟩
  rw [ht, hm] at e
  replace e : t = m ∨ t = m - by' := by
    rw [e]
    split
    · left; simp
    · right; omega
  rw [hm] at l0 l1 ⊢
  clear hm hna
  have hw : t < 0 → IntKind.i64.wrap (t + by') = m := by
    intro h
    have : t + by' = m := by omega
    rw [this]
    simp [IntKind.wrap, IntKind.signed, go_sem]
    omega
  have hw2 : 0 ≤ t → t = m := by omega
  have hv : -9223372036854775808 ≤ t ∧ t ≤ 9223372036854775807 := by omega
  clear e
  by_cases hneg : t < 0
  · have e1 := hw hneg
    clear hw hw2
    go_enter Try.func14, Try.ntmps14
    go_wp2
    go_ret
    exact ⟨ret_int (by omega), rfl⟩
  · have e1 := hw2 (by omega)
    clear hw hw2
    go_enter Try.func14, Try.ntmps14
    go_wp2
    go_ret
    exact ⟨ret_int (by omega), rfl⟩

set_option maxRecDepth 100000 in
theorem refOr_any (a b : Bt) (w : World) :
    Calls Try.prog 20 #[bv a, bv b] w fun e w' => e = .returned (bv (orB a b)) ∧ Below w.heap.size w w' := by
  have hc := fun w' => Port.choose_2 a b 0 (orB a b) (fun i _ => Port.has_or a b i) w'
  go_enter Try.func20, Try.ntmps20
  go_wp2_with fail
  refine (hc _).mono ?_
  rintro e w5 ⟨rfl, hb5⟩
  have hr : Port.Arr (((w.alloc (.cells #[.int .u64 (u a.1), .int .u64 (u a.2)] 24)).alloc (.cells #[.int .u64 (u b.1), .int .u64 (u b.2)] 24)).alloc (.cells #[.int .u64 0, .int .u64 0] 24)) (w.heap.size + 1 + 1) (0, 0) := by
    have := Port.Arr.new ((w.alloc (.cells #[.int .u64 (u a.1), .int .u64 (u a.2)] 24)).alloc (.cells #[.int .u64 (u b.1), .int .u64 (u b.2)] 24)) (0, 0)
    rwa [World.size_alloc, World.size_alloc] at this
  have hB5 : Below w.heap.size w w5 := ((((Below.refl _ _).alloc (Nat.le_refl _) _).alloc (by simp) _).alloc (by simp; omega) _).trans (hb5.mono (by simp; omega))
  replace hr := hr.below hb5
  clear hb5 hc
  obtain ⟨a0, a1, af0, af1⟩ := id hr
  obtain ⟨t, ht⟩ : ∃ t, orB a b = t := ⟨_, rfl⟩
  rw [ht]
  go_wp2
  exact bodyPost_ret (v := bv t) (by simp [results, Try.results20, go_sem, a0, a1]) rfl ⟨by rw [ht], (hB5.setCell (by simp; omega) _).setCell (by simp; omega) _⟩
end Go.Proofs.Ytbbiakpieakfoaa
