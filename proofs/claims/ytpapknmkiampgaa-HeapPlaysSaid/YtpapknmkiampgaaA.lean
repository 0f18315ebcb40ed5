/- The heap: its state, and contracts of before, swap. -/
import Derived.Test.YtpapknmkiampgaaRows
import Derived.Test.YtpapknmkiampgaaL
import Derived.BigRegion
import Derived.StillTailTactics
import Derived.Deep.RegionHeld3
import Derived.Deep.RegionLaw
namespace Go.Proofs.Ytpapknmkiampgaa
open Go.RowKit

abbrev En := Int × Nat
def ec (e : En) : List Value := [.int .i64 e.1, .int .i64 e.2]
theorem ec_one (e : En) : ∀ u ∈ ec e, u.oneCell' = true := by
  intro u hu
  simp only [ec, List.mem_cons, List.not_mem_nil, or_false] at hu
  rcases hu with rfl | rfl <;> rfl
/-- Is the entry a ahead of b? -/
def be (a b : En) : Bool := decide (a.1 < b.1) || (decide (a.1 = b.1) && decide (a.2 < b.2))
def upd {A : Type} (f : Nat → A) (k : Nat) (x : A) : Nat → A := fun j => if j = k then x else f j

theorem ec_at (es : List En) : ∀ (i : Nat) (a : En), es[i]? = some a → (es.flatMap ec)[i * 2]? = some (.int .i64 a.1) ∧ (es.flatMap ec)[i * 2 + 1]? = some (.int .i64 a.2) := by
  induction es with
  | nil => intro i a h; simp at h
  | cons e es ih =>
    intro i a h
    cases i with
    | zero => simp at h; subst h; simp [ec]
    | succ i =>
      have := ih i a (by simpa using h)
      rw [List.flatMap_cons]
      rw [show (i + 1) * 2 = (i * 2) + 1 + 1 by omega]
      simpa [ec] using this
theorem ec_len (es : List En) : (es.flatMap ec).length = es.length * 2 := by
  induction es with
  | nil => rfl
  | cons e es ih => simp [List.flatMap_cons, ec, ih]; omega

/-- A heap: its struct in block H, its list v, the entries es, the places po. -/
structure HW (w : World) (H : Nat) (v : Value) (es : List En) (po : Nat → Nat) : Prop where
  c0 : w.cell? ⟨H, 0, none⟩ = some v
  f0 : w.frozen? ⟨H, 0, none⟩ = false
  at_ : ∀ n, n < 128 → w.cell? ⟨H, 1 + n, none⟩ = some (.int .i64 (po n))
  fa : ∀ n, n < 128 → w.frozen? ⟨H, 1 + n, none⟩ = false
  own : w.ownsRow 0 69 2 v es.length (es.flatMap ec)
  apart : v.ownBlock ≠ some H
  len : es.length ≤ 128
  small : ∀ n, po n ≤ 128
  node : ∀ e ∈ es, e.2 < 128

theorem HW.lt {w : World} {H : Nat} {v : Value} {es : List En} {po : Nat → Nat} (h : HW w H v es po) : H < w.heap.size := World.block_lt_of_cell? _ _ h.c0
theorem HW.row {w : World} {H : Nat} {v : Value} {es : List En} {po : Nat → Nat} (h : HW w H v es po) (hn : 0 < es.length) : ∃ G cap, v = .slice (some ⟨G, 0, none⟩) es.length cap ∧ G ≠ H ∧ G < w.heap.size ∧ es.length ≤ cap ∧ cap ≤ maxLen ∧
    ∀ i a, es[i]? = some a → w.cell? ⟨G, i * 2, none⟩ = some (.int .i64 a.1) ∧ w.cell? ⟨G, i * 2 + 1, none⟩ = some (.int .i64 a.2) ∧ w.frozen? ⟨G, i * 2, none⟩ = false ∧ w.frozen? ⟨G, i * 2 + 1, none⟩ = false := by
  have hl := h.own.lt
  have hc := fun g hg => h.own.cells (g := g) hg
  have hap := h.apart
  rcases h.own.2 with ⟨_, e⟩ | ⟨G, cap, cur, rfl, hb, hh, r⟩
  · omega
  · refine ⟨G, cap, rfl, ?_, (hl G rfl).2, r.1, r.2.1, fun i a ha => ?_⟩
    · simpa [Value.ownBlock] using hap
    · have h2 := ec_at es i a ha
      have hx := hc G rfl _ _ h2.1
      have hy := hc G rfl _ _ h2.2
      rw [Addr.add_at] at hx hy
      simp only [Nat.zero_add] at hx hy
      exact ⟨hx, hy, by simp [World.frozen?, hh], by simp [World.frozen?, hh]⟩

set_option maxHeartbeats 1000000 in
theorem before_any (H : Nat) (v : Value) (es : List En) (po : Nat → Nat) (i j : Nat) (a b : En) (w : World) (h : HW w H v es po) (hi : es[i]? = some a) (hj : es[j]? = some b) :
    Calls Try.prog 43 #[.pointer (some ⟨H, 0, none⟩), .int .i64 i, .int .i64 j] w fun e w' => e = .returned (.bool (be a b)) ∧ Below w.heap.size w w' := by
  have hil : i < es.length := (List.getElem?_eq_some_iff.1 hi).1
  have hjl : j < es.length := (List.getElem?_eq_some_iff.1 hj).1
  obtain ⟨G, cap, rfl, hG, hGl, hcap, hcm, hrow⟩ := h.row (by omega)
  obtain ⟨i0, i1, _, _⟩ := hrow i a hi
  obtain ⟨j0, j1, _, _⟩ := hrow j b hj
  have c0 := h.c0
  have hl := h.len
  have hH := h.lt
  clear hrow hi hj
  unfold maxLen at hcm
  go_enter Try.func43, Try.ntmps43
  go_wp2_with fail
  go_region
  all_goals
    go_wp2
    all_goals
      go_ret
      refine ⟨ret_bool ?_, below_drewN (((Below.refl _ w).alloc (Nat.le_refl _) _).alloc (by simp) _) 1⟩
      first | (simp [be]; omega) | simp [be, *]

theorem ec_set (es : List En) (c : En) : ∀ (i : Nat), i < es.length → ((es.flatMap ec).set (i * 2) (.int .i64 c.1)).set (i * 2 + 1) (.int .i64 c.2) = (es.set i c).flatMap ec := by
  induction es with
  | nil => intro i h; simp at h
  | cons e es ih =>
    intro i h
    cases i with
    | zero => simp [ec]
    | succ i =>
      have := ih i (by simpa using h)
      rw [show (i + 1) * 2 = i * 2 + 1 + 1 by omega, List.set_cons_succ, List.flatMap_cons, List.flatMap_cons, ← this]
      simp [ec]

theorem HW.setE {w : World} {H G cap : Nat} {es : List En} {po : Nat → Nat} (h : HW w H (.slice (some ⟨G, 0, none⟩) es.length cap) es po) (i : Nat) (c : En) (hi : i < es.length) (hc : c.2 < 128) :
    HW ((w.setCell ⟨G, i * 2, none⟩ (.int .i64 c.1)).setCell ⟨G, i * 2 + 1, none⟩ (.int .i64 c.2)) H (.slice (some ⟨G, 0, none⟩) (es.set i c).length cap) (es.set i c) po := by
  have hap : G ≠ H := by simpa [Value.ownBlock] using h.apart
  have K : Keep (fun k => k = G) w ((w.setCell ⟨G, i * 2, none⟩ (.int .i64 c.1)).setCell ⟨G, i * 2 + 1, none⟩ (.int .i64 c.2)) := ((Keep.refl (fun k => k = G) w).setCell _ _ (.inl rfl)).setCell _ _ (.inl rfl)
  have o1 := ((h.own.stored (i * 2) (.int .i64 c.1)).1.stored (i * 2 + 1) (.int .i64 c.2)).1
  rw [ec_set es c i hi] at o1
  rw [List.length_set]
  refine ⟨K.cell h.c0 (Ne.symm hap), K.unfrozen h.lt h.f0 (Ne.symm hap), fun n hn => K.cell (h.at_ n hn) (Ne.symm hap), fun n hn => K.unfrozen h.lt (h.fa n hn) (Ne.symm hap), ?_, h.apart, ?_, h.small, ?_⟩
  · rw [List.length_set]; exact o1
  · rw [List.length_set]; exact h.len
  · intro e he
    rcases List.mem_or_eq_of_mem_set he with he | rfl
    · exact h.node e he
    · exact hc

theorem HW.setP {w : World} {H : Nat} {v : Value} {es : List En} {po : Nat → Nat} (h : HW w H v es po) (n x : Nat) (hx : x ≤ 128) : HW (w.setCell ⟨H, 1 + n, none⟩ (.int .i64 x)) H v es (upd po n x) := by
  have K : Keep (fun k => k = H) w (w.setCell ⟨H, 1 + n, none⟩ (.int .i64 x)) := (Keep.refl _ w).setCell _ _ (.inl rfl)
  refine ⟨?_, ?_, fun m hm => ?_, fun m hm => ?_, K.owns h.own ?_, h.apart, h.len, ?_, h.node⟩
  · rw [World.cell?_setCell_other _ _ _ _ (by simp)]; exact h.c0
  · rw [World.frozen?_setCell]; exact h.f0
  · unfold upd
    split
    · subst m; exact World.cell?_setCell_same w _ _ (h.at_ n hm)
    · rename_i hne; rw [World.cell?_setCell_other _ _ _ _ (by intro e; injection e with e1 e2; omega)]; exact h.at_ m hm
  · rw [World.frozen?_setCell]; exact h.fa m hm
  · intro k hk e
    subst e
    exact h.apart hk
  · intro m
    unfold upd
    split
    · exact hx
    · exact h.small m
theorem HW.drew {w : World} {H : Nat} {v : Value} {es : List En} {po : Nat → Nat} (h : HW w H v es po) : HW w.drew H v es po := ⟨h.c0, h.f0, h.at_, h.fa, h.own, h.apart, h.len, h.small, h.node⟩
theorem HW.keep {w w' : World} {H : Nat} {v : Value} {es : List En} {po : Nat → Nat} {S : Nat → Prop} (h : HW w H v es po) (k : Keep S w w') (hH : ¬ S H) (hG : ∀ G, v.ownBlock = some G → ¬ S G) : HW w' H v es po :=
  ⟨k.cell h.c0 hH, k.unfrozen h.lt h.f0 hH, fun n hn => k.cell (h.at_ n hn) hH, fun n hn => k.unfrozen h.lt (h.fa n hn) hH, k.owns h.own hG, h.apart, h.len, h.small, h.node⟩
theorem HW.below {w w' : World} {H : Nat} {v : Value} {es : List En} {po : Nat → Nat} (h : HW w H v es po) (b : Below w.heap.size w w') : HW w' H v es po := h.keep (Keep.of_below (S := fun _ => False) b) (by simp) (by simp)

theorem set_at_i {es : List En} {i j : Nat} {a b : En} (hi : es[i]? = some a) (hj : es[j]? = some b) : ((es.set i b).set j a)[i]? = some b := by
  have hil : i < es.length := (List.getElem?_eq_some_iff.1 hi).1
  by_cases h : j = i
  · subst h
    rw [hi] at hj
    injection hj with hj
    subst hj
    simp [hil]
  · rw [List.getElem?_set_ne h]
    simp [hil]
theorem keep4 {S : Nat → Prop} (w : World) (G : Nat) (h : S G) (o1 o2 o3 o4 : Nat) (x1 x2 x3 x4 : Value) :
    Keep S w ((((w.setCell ⟨G, o1, none⟩ x1).setCell ⟨G, o2, none⟩ x2).setCell ⟨G, o3, none⟩ x3).setCell ⟨G, o4, none⟩ x4).drew :=
  (((((Keep.refl S w).setCell ⟨G, o1, none⟩ x1 (.inl h)).setCell ⟨G, o2, none⟩ x2 (.inl h)).setCell ⟨G, o3, none⟩ x3 (.inl h)).setCell ⟨G, o4, none⟩ x4 (.inl h)).drewN 1
theorem keep2 {S : Nat → Prop} {w w1 : World} (k : Keep S w w1) (G : Nat) (h : S G) (o1 o2 : Nat) (x1 x2 : Value) : Keep S w ((w1.setCell ⟨G, o1, none⟩ x1).setCell ⟨G, o2, none⟩ x2).drew :=
  ((k.setCell ⟨G, o1, none⟩ x1 (.inl h)).setCell ⟨G, o2, none⟩ x2 (.inl h)).drewN 1
theorem cell_some {w : World} {p q : Addr} {x v : Value} (h : w.cell? q = some v) : ∃ v', (w.setCell p x).cell? q = some v' := by
  by_cases e : p = q
  · subst e; exact ⟨x, World.cell?_setCell_same w p x h⟩
  · exact ⟨v, (World.cell?_setCell_other w p q x e).trans h⟩

set_option maxHeartbeats 2000000 in
theorem swap_any (H : Nat) (v : Value) (es : List En) (po : Nat → Nat) (i j : Nat) (a b : En) (w : World) (h : HW w H v es po) (hi : es[i]? = some a) (hj : es[j]? = some b) :
    Calls Try.prog 44 #[.pointer (some ⟨H, 0, none⟩), .int .i64 i, .int .i64 j] w fun e w' => e = .returned (.tuple #[]) ∧ HW w' H v ((es.set i b).set j a) (upd (upd po b.2 (i + 1)) a.2 (j + 1)) ∧
      Keep (fun k => k = H ∨ v.ownBlock = some k) w w' := by
  have hil : i < es.length := (List.getElem?_eq_some_iff.1 hi).1
  have hjl : j < es.length := (List.getElem?_eq_some_iff.1 hj).1
  obtain ⟨G, cap, rfl, hG, hGl, hcap, hcm, hrow⟩ := h.row (by omega)
  obtain ⟨i0, i1, fi0, fi1⟩ := hrow i a hi
  obtain ⟨j0, j1, fj0, fj1⟩ := hrow j b hj
  have c0 := h.c0
  have f0 := h.f0
  have hl := h.len
  have hH := h.lt
  have na : a.2 < 128 := h.node a (List.mem_of_getElem? hi)
  have nb : b.2 < 128 := h.node b (List.mem_of_getElem? hj)
  obtain ⟨x1, hx1⟩ := cell_some (p := ⟨G, i * 2, none⟩) (x := .int .i64 b.1) j0
  obtain ⟨x3, hx3⟩ := cell_some (p := ⟨G, i * 2, none⟩) (x := .int .i64 b.1) j1
  obtain ⟨x2, hx2⟩ := cell_some (p := ⟨G, i * 2 + 1, none⟩) (x := .int .i64 b.2) hx3
  clear hx3
  have hS := Lib.hid (((h.setE i b hil nb).setE j a (by simpa using hjl) na).drew)
  have HI := Lib.hid hi
  have HJ := Lib.hid hj
  clear hrow hi hj
  unfold maxLen at hcm
  go_enter Try.func44, Try.ntmps44
  go_wp2_with fail
  go_region
  obtain ⟨W1, hW1⟩ : ∃ W1, W1 = ((((w.setCell ⟨G, i * 2, none⟩ (.int .i64 b.1)).setCell ⟨G, i * 2 + 1, none⟩ (.int .i64 b.2)).setCell ⟨G, j * 2, none⟩ (.int .i64 a.1)).setCell ⟨G, j * 2 + 1, none⟩ (.int .i64 a.2)).drew := ⟨_, rfl⟩
  have K1 : Keep (fun k => k = H ∨ (Value.slice (some ⟨G, 0, none⟩) es.length cap).ownBlock = some k) w W1 := by
    rw [hW1]
    exact keep4 (S := fun k => k = H ∨ (Value.slice (some ⟨G, 0, none⟩) es.length cap).ownBlock = some k) w G (.inr rfl) _ _ _ _ _ _ _ _
  have hS1 : HW W1 H (.slice (some ⟨G, 0, none⟩) es.length cap) ((es.set i b).set j a) po := by
    have := hS.out
    rw [← hW1] at this
    simpa using this
  rw [← hW1]
  clear hW1 hS hx1 hx2 i0 i1 j0 j1 fi0 fi1 fj0 fj1 c0 f0
  obtain ⟨G', cap', hv', _, _, _, _, hrow⟩ := hS1.row (by simp; omega)
  have hlen : ((es.set i b).set j a).length = es.length := by simp
  rw [hlen] at hv'
  injection hv' with e1 e2 e3
  injection e1 with e1
  injection e1 with e1
  subst e1 e3
  obtain ⟨_, i1, _, _⟩ := hrow i b (set_at_i HI.out HJ.out)
  obtain ⟨_, j1, _, _⟩ := hrow j a (by simp [hjl])
  have c0 := hS1.c0
  have ca := hS1.at_ a.2 na
  have cb := hS1.at_ b.2 nb
  have fa := hS1.fa a.2 na
  have fb := hS1.fa b.2 nb
  obtain ⟨x1, hx1⟩ := cell_some (p := ⟨H, 1 + b.2, none⟩) (x := .int .i64 (i + 1)) ca
  clear hrow hlen e2
  go_wp2_with fail
  go_region
  go_wp2
  go_end0
  exact ⟨rfl, ((hS1.setP b.2 (i + 1) (by omega)).setP a.2 (j + 1) (by omega)).drew, keep2 K1 H (.inl rfl) _ _ _ _⟩
end Go.Proofs.Ytpapknmkiampgaa
