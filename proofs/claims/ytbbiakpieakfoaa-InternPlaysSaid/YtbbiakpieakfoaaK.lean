/- The state of a script over two tables. -/
import Derived.Test.YtbbiakpieakfoaaJ
namespace Go.Proofs.Ytbbiakpieakfoaa
open Go.RowKit

def upd {A : Type} (f : Nat → A) (k : Nat) (x : A) : Nat → A := fun j => if j = k then x else f j
theorem upd_same {A : Type} (f : Nat → A) (k : Nat) (x : A) : upd f k x k = x := by simp [upd]
theorem upd_other {A : Type} (f : Nat → A) (k j : Nat) (x : A) (h : j ≠ k) : upd f k x j = f j := by simp [upd, h]

/-- Two tables and two tables by definition; LT, LR: what they hold. -/
structure St (w wr : World) (B3 B4 : Nat) (T M g G : Nat → Nat) (LT LR : Nat → List Bt) (v : Nat → Value) : Prop where
  b : Below w.heap.size w wr
  c3 : ∀ k, k < 2 → wr.cell? ⟨B3, k, none⟩ = some (.pointer (some ⟨T k, 0, none⟩))
  f3 : ∀ k, k < 2 → wr.frozen? ⟨B3, k, none⟩ = false
  c4 : ∀ k, k < 2 → wr.cell? ⟨B4, k, none⟩ = some (v k)
  f4 : ∀ k, k < 2 → wr.frozen? ⟨B4, k, none⟩ = false
  tab : ∀ k, k < 2 → Tab wr (T k) (M k) (g k) (LT k)
  ref : ∀ k, k < 2 → RefT wr (v k) (LR k) (G k)
  len : ∀ k, k < 2 → 0 < (LT k).length ∧ (LT k).length ≤ 1024
  lenR : ∀ k, k < 2 → 0 < (LR k).length ∧ (LR k).length ≤ 1024
  low : w.heap.size ≤ B3 ∧ w.heap.size ≤ B4 ∧ B3 ≠ B4 ∧ B3 < wr.heap.size ∧ B4 < wr.heap.size
  lowT : ∀ k, k < 2 → w.heap.size ≤ T k ∧ w.heap.size ≤ M k ∧ w.heap.size ≤ g k ∧ w.heap.size ≤ G k
  ap3 : ∀ k, k < 2 → T k ≠ B3 ∧ M k ≠ B3 ∧ g k ≠ B3 ∧ G k ≠ B3
  ap4 : ∀ k, k < 2 → T k ≠ B4 ∧ M k ≠ B4 ∧ g k ≠ B4 ∧ G k ≠ B4
  apG : ∀ j k, j < 2 → k < 2 → G j ≠ T k ∧ G j ≠ M k ∧ G j ≠ g k
  apT : ∀ j k, j < 2 → k < 2 → j ≠ k → T j ≠ T k ∧ T j ≠ M k ∧ T j ≠ g k ∧ M j ≠ M k ∧ M j ≠ g k ∧ g j ≠ g k

variable {w wr : World} {B3 B4 : Nat} {T M g G : Nat → Nat} {LT LR : Nat → List Bt} {v : Nat → Value}

theorem St.below {w2 : World} (h : St w wr B3 B4 T M g G LT LR v) (hb : Below wr.heap.size wr w2) : St w w2 B3 B4 T M g G LT LR v := by
  have k := Keep.of_below (S := fun _ => False) hb
  have hs := hb.size
  have hl := h.low
  exact { h with
    b := h.b.trans (hb.mono h.b.size)
    c3 := fun j hj => k.cell (h.c3 j hj) (by simp)
    f3 := fun j hj => k.unfrozen (World.block_lt_of_cell? _ _ (h.c3 j hj)) (h.f3 j hj) (by simp)
    c4 := fun j hj => k.cell (h.c4 j hj) (by simp)
    f4 := fun j hj => k.unfrozen (World.block_lt_of_cell? _ _ (h.c4 j hj)) (h.f4 j hj) (by simp)
    tab := fun j hj => (h.tab j hj).below hb
    ref := fun j hj => (h.ref j hj).below hb
    low := ⟨hl.1, hl.2.1, hl.2.2.1, by omega, by omega⟩ }
theorem St.alloc (h : St w wr B3 B4 T M g G LT LR v) (o : Obj) : St w (wr.alloc o) B3 B4 T M g G LT LR v := h.below ((Below.refl _ _).alloc (Nat.le_refl _) o)
theorem St.drew (h : St w wr B3 B4 T M g G LT LR v) : St w wr.drew B3 B4 T M g G LT LR v := h.below (below_drewN (Below.refl _ _) 1)

set_option maxHeartbeats 4000000 in
/-- A table takes a step. -/
theorem St.tabStep {w2 : World} {k g' : Nat} {L' : List Bt} (h : St w wr B3 B4 T M g G LT LR v) (hk : k < 2) (ht : Tab w2 (T k) (M k) g' L') (hK : Keep (fun b => b = T k ∨ b = M k ∨ b = g k) wr w2)
    (hg : g' = g k ∨ wr.heap.size ≤ g') (hl : 0 < L'.length ∧ L'.length ≤ 1024) : St w w2 B3 B4 T M (upd g k g') G (upd LT k L') LR v := by
  have hs := hK.size
  have hlow := h.low
  have l := h.lowT
  have a3 := h.ap3
  have a4 := h.ap4
  have aG := h.apG
  have aT := h.apT
  have lt := fun j hj => (h.tab j hj).lt
  have ltG := fun j hj => (h.ref j hj).lt
  have n3 : ¬ (B3 = T k ∨ B3 = M k ∨ B3 = g k) := by have := a3 k hk; omega
  have n4 : ¬ (B4 = T k ∨ B4 = M k ∨ B4 = g k) := by have := a4 k hk; omega
  have nG : ∀ j, j < 2 → ¬ (G j = T k ∨ G j = M k ∨ G j = g k) := fun j hj => by have := aG j k hj hk; omega
  have hlowk := l k hk
  have hbs := h.b.size
  exact {
    b := Below.keep h.b h.b.size hK (by intro i hi; omega)
    c3 := fun j hj => hK.cell (h.c3 j hj) n3
    f3 := fun j hj => hK.unfrozen (World.block_lt_of_cell? _ _ (h.c3 j hj)) (h.f3 j hj) n3
    c4 := fun j hj => hK.cell (h.c4 j hj) n4
    f4 := fun j hj => hK.unfrozen (World.block_lt_of_cell? _ _ (h.c4 j hj)) (h.f4 j hj) n4
    tab := fun j hj => by
      by_cases e : j = k
      · subst e; rw [upd_same, upd_same]; exact ht
      · rw [upd_other _ _ _ _ e, upd_other _ _ _ _ e]
        have := aT j k hj hk e
        have := aT k j hk hj (fun h => e h.symm)
        exact (h.tab j hj).keep hK (by omega) (by omega) (by omega)
    ref := fun j hj => (h.ref j hj).keep hK (nG j hj)
    len := fun j hj => by
      by_cases e : j = k
      · subst e; rw [upd_same]; exact hl
      · rw [upd_other _ _ _ _ e]; exact h.len j hj
    lenR := h.lenR
    low := ⟨hlow.1, hlow.2.1, hlow.2.2.1, by omega, by omega⟩
    lowT := fun j hj => by
      have := l j hj
      by_cases e : j = k
      · subst e; rw [upd_same]; omega
      · rw [upd_other _ _ _ _ e]; exact this
    ap3 := fun j hj => by
      have := a3 j hj
      by_cases e : j = k
      · subst e; rw [upd_same]; omega
      · rw [upd_other _ _ _ _ e]; exact this
    ap4 := fun j hj => by
      have := a4 j hj
      by_cases e : j = k
      · subst e; rw [upd_same]; omega
      · rw [upd_other _ _ _ _ e]; exact this
    apG := fun i j hi hj => by
      have := aG i j hi hj
      have := ltG i hi
      by_cases e : j = k
      · subst e; rw [upd_same]; omega
      · rw [upd_other _ _ _ _ e]; assumption
    apT := fun i j hi hj hij => by
      have := aT i j hi hj hij
      have := lt i hi
      have := lt j hj
      by_cases e : i = k
      · subst e
        rw [upd_same, upd_other _ _ _ _ (fun h => hij h.symm)]
        omega
      · rw [upd_other _ _ _ _ e]
        by_cases e2 : j = k
        · subst e2; rw [upd_same]; omega
        · rw [upd_other _ _ _ _ e2]; assumption }

set_option maxHeartbeats 4000000 in
/-- A table by definition takes a step: its answer is laid into the array. -/
theorem St.refStep {w2 : World} {k G' : Nat} {v' : Value} {L' : List Bt} (h : St w wr B3 B4 T M g G LT LR v) (hk : k < 2) (ht : RefT w2 v' L' G') (hb : Below wr.heap.size wr w2)
    (hG : (∃ j, j < 2 ∧ G' = G j) ∨ wr.heap.size ≤ G') (hl : 0 < L'.length ∧ L'.length ≤ 1024) : St w (w2.setCell ⟨B4, k, none⟩ v') B3 B4 T M g (upd G k G') LT (upd LR k L') (upd v k v') := by
  have h2 := h.below hb
  have hK : Keep (fun b => b = B4) w2 (w2.setCell ⟨B4, k, none⟩ v') := (Keep.refl (fun b => b = B4) w2).setCell _ _ (.inl rfl)
  have hlow := h2.low
  have l := h.lowT
  have a3 := h.ap3
  have a4 := h.ap4
  have aG := h.apG
  have lt := fun j hj => (h.tab j hj).lt
  have n3 : ¬ (B3 = B4) := hlow.2.2.1
  have hbs := h.b.size
  have hG4 : G' ≠ B4 := by
    rcases hG with ⟨j, hj, e⟩ | e
    · have := a4 j hj; omega
    · have := h.low; omega
  exact {
    b := h2.b.setCell hlow.2.1 _
    c3 := fun j hj => hK.cell (h2.c3 j hj) n3
    f3 := fun j hj => hK.unfrozen (World.block_lt_of_cell? _ _ (h2.c3 j hj)) (h2.f3 j hj) n3
    c4 := fun j hj => by
      by_cases e : j = k
      · subst e; rw [upd_same]; exact World.cell?_setCell_same _ _ _ (h2.c4 j hj)
      · rw [upd_other _ _ _ _ e]
        exact (World.cell?_setCell_other _ _ _ _ (by intro h; injection h with _ h; exact e h.symm)).trans (h2.c4 j hj)
    f4 := fun j hj => by rw [World.frozen?_setCell]; exact h2.f4 j hj
    tab := fun j hj => by have := a4 j hj; exact (h2.tab j hj).keep hK (by omega) (by omega) (by omega)
    ref := fun j hj => by
      by_cases e : j = k
      · subst e; rw [upd_same, upd_same, upd_same]; exact ht.keep hK hG4
      · rw [upd_other _ _ _ _ e, upd_other _ _ _ _ e, upd_other _ _ _ _ e]
        have := a4 j hj
        exact (h2.ref j hj).keep hK (by omega)
    len := h.len
    lenR := fun j hj => by
      by_cases e : j = k
      · subst e; rw [upd_same]; exact hl
      · rw [upd_other _ _ _ _ e]; exact h.lenR j hj
    low := ⟨hlow.1, hlow.2.1, hlow.2.2.1, by rw [World.size_setCell]; omega, by rw [World.size_setCell]; omega⟩
    lowT := fun j hj => by
      have := l j hj
      by_cases e : j = k
      · subst e
        rw [upd_same]
        rcases hG with ⟨i, hi, e⟩ | e
        · have := l i hi; omega
        · omega
      · rw [upd_other _ _ _ _ e]; exact this
    ap3 := fun j hj => by
      have := a3 j hj
      by_cases e : j = k
      · subst e
        rw [upd_same]
        rcases hG with ⟨i, hi, e⟩ | e
        · have := a3 i hi; omega
        · have := h.low; omega
      · rw [upd_other _ _ _ _ e]; exact this
    ap4 := fun j hj => by
      have := a4 j hj
      by_cases e : j = k
      · subst e; rw [upd_same]; omega
      · rw [upd_other _ _ _ _ e]; exact this
    apG := fun i j hi hj => by
      have := aG i j hi hj
      by_cases e : i = k
      · subst e
        rw [upd_same]
        rcases hG with ⟨i', hi', e⟩ | e
        · have := aG i' j hi' hj; omega
        · have := lt j hj; omega
      · rw [upd_other _ _ _ _ e]; exact this
    apT := h.apT }

set_option maxHeartbeats 4000000 in
/-- A table becomes a copy: its pointer is laid into the array. -/
theorem St.copyStep {w2 : World} {k T' M' g' : Nat} {L' : List Bt} (h : St w wr B3 B4 T M g G LT LR v) (hk : k < 2) (ht : Tab w2 T' M' g' L') (hb : Below wr.heap.size wr w2)
    (hT : wr.heap.size ≤ T') (hM : wr.heap.size ≤ M') (hg : wr.heap.size ≤ g') (hl : 0 < L'.length ∧ L'.length ≤ 1024) :
    St w (w2.setCell ⟨B3, k, none⟩ (.pointer (some ⟨T', 0, none⟩))) B3 B4 (upd T k T') (upd M k M') (upd g k g') G (upd LT k L') LR v := by
  have h2 := h.below hb
  have hK : Keep (fun b => b = B3) w2 (w2.setCell ⟨B3, k, none⟩ (.pointer (some ⟨T', 0, none⟩))) := (Keep.refl (fun b => b = B3) w2).setCell _ _ (.inl rfl)
  have hlow := h2.low
  have hlow0 := h.low
  have l := h.lowT
  have a3 := h.ap3
  have a4 := h.ap4
  have aG := h.apG
  have aT := h.apT
  have lt := fun j hj => (h.tab j hj).lt
  have ltG := fun j hj => (h.ref j hj).lt
  have n4 : ¬ (B4 = B3) := fun e => hlow.2.2.1 e.symm
  have hbs := h.b.size
  exact {
    b := h2.b.setCell hlow.1 _
    c3 := fun j hj => by
      by_cases e : j = k
      · subst e; rw [upd_same]; exact World.cell?_setCell_same _ _ _ (h2.c3 j hj)
      · rw [upd_other _ _ _ _ e]
        exact (World.cell?_setCell_other _ _ _ _ (by intro h; injection h with _ h; exact e h.symm)).trans (h2.c3 j hj)
    f3 := fun j hj => by rw [World.frozen?_setCell]; exact h2.f3 j hj
    c4 := fun j hj => hK.cell (h2.c4 j hj) n4
    f4 := fun j hj => hK.unfrozen (World.block_lt_of_cell? _ _ (h2.c4 j hj)) (h2.f4 j hj) n4
    tab := fun j hj => by
      by_cases e : j = k
      · subst e; rw [upd_same, upd_same, upd_same, upd_same]; exact ht.keep hK (by omega) (by omega) (by omega)
      · rw [upd_other _ _ _ _ e, upd_other _ _ _ _ e, upd_other _ _ _ _ e, upd_other _ _ _ _ e]
        have := a3 j hj
        exact (h2.tab j hj).keep hK (by omega) (by omega) (by omega)
    ref := fun j hj => by have := a3 j hj; exact (h2.ref j hj).keep hK (by omega)
    len := fun j hj => by
      by_cases e : j = k
      · subst e; rw [upd_same]; exact hl
      · rw [upd_other _ _ _ _ e]; exact h.len j hj
    lenR := h.lenR
    low := ⟨hlow.1, hlow.2.1, hlow.2.2.1, by rw [World.size_setCell]; omega, by rw [World.size_setCell]; omega⟩
    lowT := fun j hj => by
      have := l j hj
      by_cases e : j = k
      · subst e; rw [upd_same, upd_same, upd_same]; omega
      · rw [upd_other _ _ _ _ e, upd_other _ _ _ _ e, upd_other _ _ _ _ e]; exact this
    ap3 := fun j hj => by
      have := a3 j hj
      by_cases e : j = k
      · subst e; rw [upd_same, upd_same, upd_same]; omega
      · rw [upd_other _ _ _ _ e, upd_other _ _ _ _ e, upd_other _ _ _ _ e]; exact this
    ap4 := fun j hj => by
      have := a4 j hj
      by_cases e : j = k
      · subst e; rw [upd_same, upd_same, upd_same]; omega
      · rw [upd_other _ _ _ _ e, upd_other _ _ _ _ e, upd_other _ _ _ _ e]; exact this
    apG := fun i j hi hj => by
      have := aG i j hi hj
      have := ltG i hi
      by_cases e : j = k
      · subst e; rw [upd_same, upd_same, upd_same]; omega
      · rw [upd_other _ _ _ _ e, upd_other _ _ _ _ e, upd_other _ _ _ _ e]; assumption
    apT := fun i j hi hj hij => by
      have := aT i j hi hj hij
      have := lt i hi
      have := lt j hj
      have htt := ht.apart
      by_cases e : i = k
      · subst e
        have e2 : j ≠ i := fun h => hij h.symm
        rw [upd_same, upd_same, upd_same, upd_other _ _ _ _ e2, upd_other _ _ _ _ e2, upd_other _ _ _ _ e2]
        omega
      · rw [upd_other _ _ _ _ e, upd_other _ _ _ _ e, upd_other _ _ _ _ e]
        by_cases e2 : j = k
        · subst e2; rw [upd_same, upd_same, upd_same]; omega
        · rw [upd_other _ _ _ _ e2, upd_other _ _ _ _ e2, upd_other _ _ _ _ e2]; assumption }

theorem idRes_len (s : Bt) (L : List Bt) (h : 0 < L.length ∧ L.length ≤ 1024) : 0 < (idRes s L).2.2.length ∧ (idRes s L).2.2.length ≤ 1024 := by
  unfold idRes
  split
  · exact h
  · split
    · exact h
    · simp; omega
theorem unionR_len (L : List Bt) (a b : Int) (h : 0 < L.length ∧ L.length ≤ 1024) : 0 < (unionR L a b).2.2.length ∧ (unionR L a b).2.2.length ≤ 1024 := by
  unfold unionR
  split
  · exact idRes_len _ _ h
  · exact h
end Go.Proofs.Ytbbiakpieakfoaa
