/- Parts of this proof, joined. -/
import Derived.Test.YtpebpfaecdmabaaGreatDoorRows
import Derived.Test.YtpebpfaecdmabaaGreatDoorZF00
import Derived.BigRegion
import Derived.StillTailTactics
import Derived.Deep.RegionHeld3
import Derived.Deep.RegionLaw
import Derived.WalkMore
import Derived.ScopeJumps
/- The heap: its state, and contracts of before, swap. -/
namespace Go.Proofs.YtpebpfaecdmabaaGreatDoor.Hp
open Go.RowKit

abbrev En := Int × Nat
def ec (e : En) : List Value := [.int .i64 e.1, .int .i64 e.2]
theorem ec_one (e : En) : ∀ u ∈ ec e, u.oneCell' = true := by
  intro u hu
  simp only [ec, List.mem_cons, List.not_mem_nil, or_false] at hu
  rcases hu with rfl | rfl <;> rfl
/-- Is the entry a ahead of b? -/
def be (a b : En) : Bool := decide (a.1 < b.1) || (decide (a.1 = b.1) && decide (a.2 < b.2))
def upd {A : Type} (f : Nat → A) (k : Nat) (x : A) : Nat → A := fun j => if j = k then x else f j

theorem ec_at (es : List En) : ∀ (i : Nat) (a : En), es[i]? = some a → (es.flatMap ec)[i * 2]? = some (.int .i64 a.1) ∧ (es.flatMap ec)[i * 2 + 1]? = some (.int .i64 a.2) := by
  induction es with
  | nil => intro i a h; simp at h
  | cons e es ih =>
    intro i a h
    cases i with
    | zero => simp at h; subst h; simp [ec]
    | succ i =>
      have := ih i a (by simpa using h)
      rw [List.flatMap_cons]
      rw [show (i + 1) * 2 = (i * 2) + 1 + 1 by omega]
      simpa [ec] using this
theorem ec_len (es : List En) : (es.flatMap ec).length = es.length * 2 := by
  induction es with
  | nil => rfl
  | cons e es ih => simp [List.flatMap_cons, ec, ih]; omega

/-- A heap: its struct in block H, its list v, the entries es, the places po. -/
structure HW (w : World) (H : Nat) (v : Value) (es : List En) (po : Nat → Nat) : Prop where
  c0 : w.cell? ⟨H, 0, none⟩ = some v
  f0 : w.frozen? ⟨H, 0, none⟩ = false
  at_ : ∀ n, n < 128 → w.cell? ⟨H, 1 + n, none⟩ = some (.int .i64 (po n))
  fa : ∀ n, n < 128 → w.frozen? ⟨H, 1 + n, none⟩ = false
  own : w.ownsRow 0 139 2 v es.length (es.flatMap ec)
  apart : v.ownBlock ≠ some H
  len : es.length ≤ 128
  small : ∀ n, po n ≤ 128
  node : ∀ e ∈ es, e.2 < 128

theorem HW.lt {w : World} {H : Nat} {v : Value} {es : List En} {po : Nat → Nat} (h : HW w H v es po) : H < w.heap.size := World.block_lt_of_cell? _ _ h.c0
theorem HW.row {w : World} {H : Nat} {v : Value} {es : List En} {po : Nat → Nat} (h : HW w H v es po) (hn : 0 < es.length) : ∃ G cap, v = .slice (some ⟨G, 0, none⟩) es.length cap ∧ G ≠ H ∧ G < w.heap.size ∧ es.length ≤ cap ∧ cap ≤ maxLen ∧
    ∀ i a, es[i]? = some a → w.cell? ⟨G, i * 2, none⟩ = some (.int .i64 a.1) ∧ w.cell? ⟨G, i * 2 + 1, none⟩ = some (.int .i64 a.2) ∧ w.frozen? ⟨G, i * 2, none⟩ = false ∧ w.frozen? ⟨G, i * 2 + 1, none⟩ = false := by
  have hl := h.own.lt
  have hc := fun g hg => h.own.cells (g := g) hg
  have hap := h.apart
  rcases h.own.2 with ⟨_, e⟩ | ⟨G, cap, cur, rfl, hb, hh, r⟩
  · omega
  · refine ⟨G, cap, rfl, ?_, (hl G rfl).2, r.1, r.2.1, fun i a ha => ?_⟩
    · simpa [Value.ownBlock] using hap
    · have h2 := ec_at es i a ha
      have hx := hc G rfl _ _ h2.1
      have hy := hc G rfl _ _ h2.2
      rw [Addr.add_at] at hx hy
      simp only [Nat.zero_add] at hx hy
      exact ⟨hx, hy, by simp [World.frozen?, hh], by simp [World.frozen?, hh]⟩

set_option maxHeartbeats 1000000 in
theorem before_any (H : Nat) (v : Value) (es : List En) (po : Nat → Nat) (i j : Nat) (a b : En) (w : World) (h : HW w H v es po) (hi : es[i]? = some a) (hj : es[j]? = some b) :
    Calls Tryz.prog 93 #[.pointer (some ⟨H, 0, none⟩), .int .i64 i, .int .i64 j] w fun e w' => e = .returned (.bool (be a b)) ∧ Below w.heap.size w w' := by
  have hil : i < es.length := (List.getElem?_eq_some_iff.1 hi).1
  have hjl : j < es.length := (List.getElem?_eq_some_iff.1 hj).1
  obtain ⟨G, cap, rfl, hG, hGl, hcap, hcm, hrow⟩ := h.row (by omega)
  obtain ⟨i0, i1, _, _⟩ := hrow i a hi
  obtain ⟨j0, j1, _, _⟩ := hrow j b hj
  have c0 := h.c0
  have hl := h.len
  have hH := h.lt
  clear hrow hi hj
  unfold maxLen at hcm
  go_enter Tryz.func93, Tryz.ntmps93
  go_wp2_with fail
  go_region
  all_goals
    go_wp2
    all_goals
      go_ret
      refine ⟨ret_bool ?_, below_drewN (((Below.refl _ w).alloc (Nat.le_refl _) _).alloc (by simp) _) 1⟩
      first | (simp [be]; omega) | simp [be, *]

theorem ec_set (es : List En) (c : En) : ∀ (i : Nat), i < es.length → ((es.flatMap ec).set (i * 2) (.int .i64 c.1)).set (i * 2 + 1) (.int .i64 c.2) = (es.set i c).flatMap ec := by
  induction es with
  | nil => intro i h; simp at h
  | cons e es ih =>
    intro i h
    cases i with
    | zero => simp [ec]
    | succ i =>
      have := ih i (by simpa using h)
      rw [show (i + 1) * 2 = i * 2 + 1 + 1 by omega, List.set_cons_succ, List.flatMap_cons, List.flatMap_cons, ← this]
      simp [ec]

theorem HW.setE {w : World} {H G cap : Nat} {es : List En} {po : Nat → Nat} (h : HW w H (.slice (some ⟨G, 0, none⟩) es.length cap) es po) (i : Nat) (c : En) (hi : i < es.length) (hc : c.2 < 128) :
    HW ((w.setCell ⟨G, i * 2, none⟩ (.int .i64 c.1)).setCell ⟨G, i * 2 + 1, none⟩ (.int .i64 c.2)) H (.slice (some ⟨G, 0, none⟩) (es.set i c).length cap) (es.set i c) po := by
  have hap : G ≠ H := by simpa [Value.ownBlock] using h.apart
  have K : Keep (fun k => k = G) w ((w.setCell ⟨G, i * 2, none⟩ (.int .i64 c.1)).setCell ⟨G, i * 2 + 1, none⟩ (.int .i64 c.2)) := ((Keep.refl (fun k => k = G) w).setCell _ _ (.inl rfl)).setCell _ _ (.inl rfl)
  have o1 := ((h.own.stored (i * 2) (.int .i64 c.1)).1.stored (i * 2 + 1) (.int .i64 c.2)).1
  rw [ec_set es c i hi] at o1
  rw [List.length_set]
  refine ⟨K.cell h.c0 (Ne.symm hap), K.unfrozen h.lt h.f0 (Ne.symm hap), fun n hn => K.cell (h.at_ n hn) (Ne.symm hap), fun n hn => K.unfrozen h.lt (h.fa n hn) (Ne.symm hap), ?_, h.apart, ?_, h.small, ?_⟩
  · rw [List.length_set]; exact o1
  · rw [List.length_set]; exact h.len
  · intro e he
    rcases List.mem_or_eq_of_mem_set he with he | rfl
    · exact h.node e he
    · exact hc

theorem HW.setP {w : World} {H : Nat} {v : Value} {es : List En} {po : Nat → Nat} (h : HW w H v es po) (n x : Nat) (hx : x ≤ 128) : HW (w.setCell ⟨H, 1 + n, none⟩ (.int .i64 x)) H v es (upd po n x) := by
  have K : Keep (fun k => k = H) w (w.setCell ⟨H, 1 + n, none⟩ (.int .i64 x)) := (Keep.refl _ w).setCell _ _ (.inl rfl)
  refine ⟨?_, ?_, fun m hm => ?_, fun m hm => ?_, K.owns h.own ?_, h.apart, h.len, ?_, h.node⟩
  · rw [World.cell?_setCell_other _ _ _ _ (by simp)]; exact h.c0
  · rw [World.frozen?_setCell]; exact h.f0
  · unfold upd
    split
    · subst m; exact World.cell?_setCell_same w _ _ (h.at_ n hm)
    · rename_i hne; rw [World.cell?_setCell_other _ _ _ _ (by intro e; injection e with e1 e2; omega)]; exact h.at_ m hm
  · rw [World.frozen?_setCell]; exact h.fa m hm
  · intro k hk e
    subst e
    exact h.apart hk
  · intro m
    unfold upd
    split
    · exact hx
    · exact h.small m
theorem HW.drew {w : World} {H : Nat} {v : Value} {es : List En} {po : Nat → Nat} (h : HW w H v es po) : HW w.drew H v es po := ⟨h.c0, h.f0, h.at_, h.fa, h.own, h.apart, h.len, h.small, h.node⟩
theorem HW.keep {w w' : World} {H : Nat} {v : Value} {es : List En} {po : Nat → Nat} {S : Nat → Prop} (h : HW w H v es po) (k : Keep S w w') (hH : ¬ S H) (hG : ∀ G, v.ownBlock = some G → ¬ S G) : HW w' H v es po :=
  ⟨k.cell h.c0 hH, k.unfrozen h.lt h.f0 hH, fun n hn => k.cell (h.at_ n hn) hH, fun n hn => k.unfrozen h.lt (h.fa n hn) hH, k.owns h.own hG, h.apart, h.len, h.small, h.node⟩
theorem HW.below {w w' : World} {H : Nat} {v : Value} {es : List En} {po : Nat → Nat} (h : HW w H v es po) (b : Below w.heap.size w w') : HW w' H v es po := h.keep (Keep.of_below (S := fun _ => False) b) (by simp) (by simp)

theorem set_at_i {es : List En} {i j : Nat} {a b : En} (hi : es[i]? = some a) (hj : es[j]? = some b) : ((es.set i b).set j a)[i]? = some b := by
  have hil : i < es.length := (List.getElem?_eq_some_iff.1 hi).1
  by_cases h : j = i
  · subst h
    rw [hi] at hj
    injection hj with hj
    subst hj
    simp [hil]
  · rw [List.getElem?_set_ne h]
    simp [hil]
theorem keep4 {S : Nat → Prop} (w : World) (G : Nat) (h : S G) (o1 o2 o3 o4 : Nat) (x1 x2 x3 x4 : Value) :
    Keep S w ((((w.setCell ⟨G, o1, none⟩ x1).setCell ⟨G, o2, none⟩ x2).setCell ⟨G, o3, none⟩ x3).setCell ⟨G, o4, none⟩ x4).drew :=
  (((((Keep.refl S w).setCell ⟨G, o1, none⟩ x1 (.inl h)).setCell ⟨G, o2, none⟩ x2 (.inl h)).setCell ⟨G, o3, none⟩ x3 (.inl h)).setCell ⟨G, o4, none⟩ x4 (.inl h)).drewN 1
theorem keep2 {S : Nat → Prop} {w w1 : World} (k : Keep S w w1) (G : Nat) (h : S G) (o1 o2 : Nat) (x1 x2 : Value) : Keep S w ((w1.setCell ⟨G, o1, none⟩ x1).setCell ⟨G, o2, none⟩ x2).drew :=
  ((k.setCell ⟨G, o1, none⟩ x1 (.inl h)).setCell ⟨G, o2, none⟩ x2 (.inl h)).drewN 1
theorem cell_some {w : World} {p q : Addr} {x v : Value} (h : w.cell? q = some v) : ∃ v', (w.setCell p x).cell? q = some v' := by
  by_cases e : p = q
  · subst e; exact ⟨x, World.cell?_setCell_same w p x h⟩
  · exact ⟨v, (World.cell?_setCell_other w p q x e).trans h⟩

set_option maxHeartbeats 2000000 in
theorem swap_any (H : Nat) (v : Value) (es : List En) (po : Nat → Nat) (i j : Nat) (a b : En) (w : World) (h : HW w H v es po) (hi : es[i]? = some a) (hj : es[j]? = some b) :
    Calls Tryz.prog 94 #[.pointer (some ⟨H, 0, none⟩), .int .i64 i, .int .i64 j] w fun e w' => e = .returned (.tuple #[]) ∧ HW w' H v ((es.set i b).set j a) (upd (upd po b.2 (i + 1)) a.2 (j + 1)) ∧
      Keep (fun k => k = H ∨ v.ownBlock = some k) w w' := by
  have hil : i < es.length := (List.getElem?_eq_some_iff.1 hi).1
  have hjl : j < es.length := (List.getElem?_eq_some_iff.1 hj).1
  obtain ⟨G, cap, rfl, hG, hGl, hcap, hcm, hrow⟩ := h.row (by omega)
  obtain ⟨i0, i1, fi0, fi1⟩ := hrow i a hi
  obtain ⟨j0, j1, fj0, fj1⟩ := hrow j b hj
  have c0 := h.c0
  have f0 := h.f0
  have hl := h.len
  have hH := h.lt
  have na : a.2 < 128 := h.node a (List.mem_of_getElem? hi)
  have nb : b.2 < 128 := h.node b (List.mem_of_getElem? hj)
  obtain ⟨x1, hx1⟩ := cell_some (p := ⟨G, i * 2, none⟩) (x := .int .i64 b.1) j0
  obtain ⟨x3, hx3⟩ := cell_some (p := ⟨G, i * 2, none⟩) (x := .int .i64 b.1) j1
  obtain ⟨x2, hx2⟩ := cell_some (p := ⟨G, i * 2 + 1, none⟩) (x := .int .i64 b.2) hx3
  clear hx3
  have hS := Lib.hid (((h.setE i b hil nb).setE j a (by simpa using hjl) na).drew)
  have HI := Lib.hid hi
  have HJ := Lib.hid hj
  clear hrow hi hj
  unfold maxLen at hcm
  go_enter Tryz.func94, Tryz.ntmps94
  go_wp2_with fail
  go_region
  obtain ⟨W1, hW1⟩ : ∃ W1, W1 = ((((w.setCell ⟨G, i * 2, none⟩ (.int .i64 b.1)).setCell ⟨G, i * 2 + 1, none⟩ (.int .i64 b.2)).setCell ⟨G, j * 2, none⟩ (.int .i64 a.1)).setCell ⟨G, j * 2 + 1, none⟩ (.int .i64 a.2)).drew := ⟨_, rfl⟩
  have K1 : Keep (fun k => k = H ∨ (Value.slice (some ⟨G, 0, none⟩) es.length cap).ownBlock = some k) w W1 := by
    rw [hW1]
    exact keep4 (S := fun k => k = H ∨ (Value.slice (some ⟨G, 0, none⟩) es.length cap).ownBlock = some k) w G (.inr rfl) _ _ _ _ _ _ _ _
  have hS1 : HW W1 H (.slice (some ⟨G, 0, none⟩) es.length cap) ((es.set i b).set j a) po := by
    have := hS.out
    rw [← hW1] at this
    simpa using this
  rw [← hW1]
  clear hW1 hS hx1 hx2 i0 i1 j0 j1 fi0 fi1 fj0 fj1 c0 f0
  obtain ⟨G', cap', hv', _, _, _, _, hrow⟩ := hS1.row (by simp; omega)
  have hlen : ((es.set i b).set j a).length = es.length := by simp
  rw [hlen] at hv'
  injection hv' with e1 e2 e3
  injection e1 with e1
  injection e1 with e1
  subst e1 e3
  obtain ⟨_, i1, _, _⟩ := hrow i b (set_at_i HI.out HJ.out)
  obtain ⟨_, j1, _, _⟩ := hrow j a (by simp [hjl])
  have c0 := hS1.c0
  have ca := hS1.at_ a.2 na
  have cb := hS1.at_ b.2 nb
  have fa := hS1.fa a.2 na
  have fb := hS1.fa b.2 nb
  obtain ⟨x1, hx1⟩ := cell_some (p := ⟨H, 1 + b.2, none⟩) (x := .int .i64 (i + 1)) ca
  clear hrow hlen e2
  go_wp2_with fail
  go_region
  go_wp2
  go_end0
  exact ⟨rfl, ((hS1.setP b.2 (i + 1) (by omega)).setP a.2 (j + 1) (by omega)).drew, keep2 K1 H (.inl rfl) _ _ _ _⟩
end Go.Proofs.YtpebpfaecdmabaaGreatDoor.Hp
/- The heap: up and down. -/
namespace Go.Proofs.YtpebpfaecdmabaaGreatDoor.Hp
open Go.RowKit

structure Veil (p : Prop) : Prop where
  out : p
abbrev HS := List En × (Nat → Nat)
def swS (s : HS) (i j : Nat) (a b : En) : HS := ((s.1.set i b).set j a, upd (upd s.2 b.2 (i + 1)) a.2 (j + 1))
theorem swS_len (s : HS) (i j : Nat) (a b : En) : (swS s i j a b).1.length = s.1.length := by simp [swS]
/-- The entry at i rises. -/
def upS (s : HS) (i : Nat) : HS :=
  match s.1[i]?, s.1[(i - 1) / 2]? with
  | some a, some b => if h : 0 < i ∧ be a b = true then upS (swS s i ((i - 1) / 2) a b) ((i - 1) / 2) else s
  | _, _ => s
termination_by i
decreasing_by omega

theorem upS_zero (s : HS) : upS s 0 = s := by
  rw [upS]
  split <;> simp
theorem upS_no (s : HS) (i : Nat) (a b : En) (ha : s.1[i]? = some a) (hb : s.1[(i - 1) / 2]? = some b) (h : be a b = false) : upS s i = s := by
  rw [upS, ha, hb]
  simp [h]
theorem upS_yes (s : HS) (i : Nat) (a b : En) (ha : s.1[i]? = some a) (hb : s.1[(i - 1) / 2]? = some b) (hi : 0 < i) (h : be a b = true) : upS s i = upS (swS s i ((i - 1) / 2) a b) ((i - 1) / 2) := by
  rw [upS, ha, hb]
  simp [h, hi]

theorem before_at (H : Nat) (v : Value) (es : List En) (po : Nat → Nat) (i j : Nat) (a b : En) (x y : Int) (w : World) (hx : x = i) (hy : y = j) (h : HW w H v es po) (hi : es[i]? = some a) (hj : es[j]? = some b) :
    Calls Tryz.prog 93 #[.pointer (some ⟨H, 0, none⟩), .int .i64 x, .int .i64 y] w fun e w' => e = .returned (.bool (be a b)) ∧ Below w.heap.size w w' := by
  subst hx hy
  exact before_any H v es po i j a b w h hi hj
theorem swap_at (H : Nat) (v : Value) (es : List En) (po : Nat → Nat) (i j : Nat) (a b : En) (x y : Int) (w : World) (hx : x = i) (hy : y = j) (h : HW w H v es po) (hi : es[i]? = some a) (hj : es[j]? = some b) :
    Calls Tryz.prog 94 #[.pointer (some ⟨H, 0, none⟩), .int .i64 x, .int .i64 y] w fun e w' => e = .returned (.tuple #[]) ∧ HW w' H v (swS (es, po) i j a b).1 (swS (es, po) i j a b).2 ∧ Keep (fun k => k = H ∨ v.ownBlock = some k) w w' := by
  subst hx hy
  exact swap_any H v es po i j a b w h hi hj

/-- A scope whose jumps all go to one label; the first way comes to that label, too. -/
theorem wp_scope_jumps1 {P : Program} {a : Act} {w : World} {Q : Exit → Act → World → Prop} {c rest : Code} (l : Nat) (J : Act → World → Prop) (μ : Act → World → Nat) (hf : findLabel c l = some (Code.skip.seq rest))
    (first : (∀ a w, J a w → rest.wp P (Exit.jump l J Q) a w) → c.wp P (Exit.jump l J Q) a w)
    (pass : ∀ a w, J a w → rest.wp P (Exit.jump l (fun a' w' => J a' w' ∧ μ a' w' < μ a w) Q) a w) : (Code.scope c).wp P Q a w :=
  wp_scope_jumps l J μ hf (first fun a w h => Code.wp_mono (fun e a' w' h' => by cases e <;> first | exact ⟨h'.1, h'.2.1⟩ | exact h') (pass a w h)) fun a w h => wp_seq (wp_skip (pass a w h))

def UpJ (H : Nat) (v : Value) (s : HS) (i : Nat) (w : World) (a' : Act) (w' : World) : Prop :=
  ∃ (m : Nat) (t : HS) (u2 u3 u4 u5 u6 u7 u8 u9 u10 u11 u12 u13 u14 u15 u16 u17 u18 u19 u20 u21 u22 : Value), a' = { tmps := #[.pointer (some ⟨H, 0, none⟩), .int .i64 m, u2, u3, u4, u5, u6, u7, u8, u9, u10, u11, u12, u13, u14, u15, u16, u17, u18, u19, u20, u21, u22], defers := [] } ∧ m < t.1.length ∧ HW w' H v t.1 t.2 ∧ Hid (upS t m = upS s i) ∧ Keep (fun k => k = H ∨ v.ownBlock = some k) w w'

set_option maxHeartbeats 2000000 in
theorem up_any (H : Nat) (v : Value) (s : HS) (i : Nat) (w : World) (h : HW w H v s.1 s.2) (hi : i < s.1.length) :
    Calls Tryz.prog 83 #[.pointer (some ⟨H, 0, none⟩), .int .i64 i] w fun e w' => e = .returned (.tuple #[]) ∧ HW w' H v (upS s i).1 (upS s i).2 ∧ Keep (fun k => k = H ∨ v.ownBlock = some k) w w' := by
  have hl := h.len
  go_enter Tryz.func83, Tryz.ntmps83
  go_wp2
  refine wp_scope_jumps1 0 (UpJ H v s i w) (fun a' _ => (intOf (a'.tmps.getD 1 undef)).toNat) rfl ?_ ?_
  · intro hp
    refine wp_seq (wp_label ?_)
    exact hp _ _ ⟨i, s, undef, undef, undef, undef, undef, undef, undef, undef, undef, undef, undef, undef, undef, undef, undef, undef, undef, undef, undef, undef, undef, rfl, hi, h, Lib.hid rfl, Keep.refl _ _⟩
  · rintro a' w' ⟨m, t, u2, u3, u4, u5, u6, u7, u8, u9, u10, u11, u12, u13, u14, u15, u16, u17, u18, u19, u20, u21, u22, rfl, hm, hW, hU, hK⟩
    by_cases h0 : m = 0
    · subst h0
      go_wp2
      simp only [Exit.jump]
      have e := hU.out
      rw [upS_zero] at e
      go_end0
      rw [← e]
      exact ⟨rfl, hW, hK⟩
    · obtain ⟨a, ha⟩ : ∃ a, Veil (t.1[m]? = some a) := ⟨t.1[m], ⟨List.getElem?_eq_getElem _⟩⟩
      obtain ⟨b, hb⟩ : ∃ b, Veil (t.1[(m - 1) / 2]? = some b) := ⟨t.1[(m - 1) / 2]'(by omega), ⟨List.getElem?_eq_getElem _⟩⟩
      have hl := hW.len
      by_cases hbe : be a b = true
      · go_wp2_with (go_at_call 93; refine (before_at H v t.1 t.2 m ((m - 1) / 2) a b _ _ _ (by omega) (by omega) hW ha.out hb.out).mono ?_; rintro e w1 ⟨rfl, hb1⟩)
        refine (swap_at H v t.1 t.2 m ((m - 1) / 2) a b _ _ _ (by omega) (by omega) (hW.below hb1) ha.out hb.out).mono ?_
        rintro e w2 ⟨rfl, hW2, hK2⟩
        have hU2 : Hid (upS (swS (t.1, t.2) m ((m - 1) / 2) a b) ((m - 1) / 2) = upS s i) := Lib.hid (by rw [← hU.out, upS_yes t m a b ha.out hb.out (by omega) hbe])
        have hlen := swS_len (t.1, t.2) m ((m - 1) / 2) a b
        have hm2 : (m - 1) / 2 < (swS (t.1, t.2) m ((m - 1) / 2) a b).1.length := by rw [hlen]; show _ < t.1.length; omega
        clear hlen
        generalize swS (t.1, t.2) m ((m - 1) / 2) a b = t2 at hW2 hU2 hm2
        have hK3 := hK.trans ((Keep.of_below hb1).trans hK2)
        have hq : ((m : Int) - 1) / 2 = (((m - 1) / 2 : Nat) : Int) := by omega
        go_wp2
        go_step3
        refine ⟨rfl, ⟨(m - 1) / 2, t2, _, _, _, _, _, _, _, _, _, _, _, _, _, _, _, _, _, _, _, _, _, by rw [hq], hm2, hW2, hU2, hK3⟩, ?_⟩
        simp [intOf]
        omega
      · have hbf : be a b = false := by simpa using hbe
        have e := upS_no t m a b ha.out hb.out hbf
        have e2 : upS s i = t := by rw [← hU.out, e]
        have HE := Lib.hid e2
        clear e e2
        go_wp2_with (go_at_call 93; refine (before_at H v t.1 t.2 m ((m - 1) / 2) a b _ _ _ (by omega) (by omega) hW ha.out hb.out).mono ?_; rintro e w1 ⟨rfl, hb1⟩)
        simp only [Exit.jump]
        go_end0
        rw [HE.out]
        exact ⟨rfl, hW.below hb1, hK.trans (Keep.of_below hb1)⟩
end Go.Proofs.YtpebpfaecdmabaaGreatDoor.Hp
/- The heap: down. -/
namespace Go.Proofs.YtpebpfaecdmabaaGreatDoor.Hp
open Go.RowKit

/-- The place of the lesser child of i, of two; or of the one. -/
def kid (es : List En) (i : Nat) : Nat :=
  match es[2 * i + 2]?, es[2 * i + 1]? with
  | some b, some a => if be b a = true then 2 * i + 2 else 2 * i + 1
  | _, _ => 2 * i + 1
theorem kid_gt (es : List En) (i : Nat) : i < kid es i := by
  unfold kid
  split
  · split <;> omega
  · omega
/-- The entry at i sinks. -/
def downS (s : HS) (i : Nat) : HS :=
  match _hc : s.1[kid s.1 i]?, s.1[i]? with
  | some c, some a => if be c a = true then downS (swS s i (kid s.1 i) a c) (kid s.1 i) else s
  | _, _ => s
termination_by s.1.length - i
decreasing_by
  have h1 := kid_gt s.1 i
  have h2 := (List.getElem?_eq_some_iff.1 _hc).1
  rw [swS_len]
  omega

theorem downS_end (s : HS) (i : Nat) (h : s.1[kid s.1 i]? = none) : downS s i = s := by
  rw [downS]
  split
  · rename_i h1 _; rw [h] at h1; cases h1
  · rfl
theorem downS_no (s : HS) (i : Nat) (a c : En) (hc : s.1[kid s.1 i]? = some c) (ha : s.1[i]? = some a) (h : be c a = false) : downS s i = s := by
  rw [downS]
  split
  · rename_i h1 h2
    rw [hc] at h1; rw [ha] at h2
    injection h1 with h1; injection h2 with h2
    subst h1 h2
    simp [h]
  · rfl
theorem downS_yes (s : HS) (i : Nat) (a c : En) (hc : s.1[kid s.1 i]? = some c) (ha : s.1[i]? = some a) (h : be c a = true) : downS s i = downS (swS s i (kid s.1 i) a c) (kid s.1 i) := by
  rw [downS]
  split
  · rename_i h1 h2
    rw [hc] at h1; rw [ha] at h2
    injection h1 with h1; injection h2 with h2
    subst h1 h2
    simp [h]
  · rename_i h1
    exact (h1 c a hc ha).elim

def DownJ (H : Nat) (v : Value) (s : HS) (i : Nat) (w : World) (a' : Act) (w' : World) : Prop :=
  ∃ (m : Nat) (t : HS) (u2 u3 u4 u5 u6 u7 u8 u9 u10 u11 u12 u13 u14 u15 u16 u17 u18 u19 u20 u21 u22 u23 u24 u25 u26 u27 u28 u29 u30 u31 u32 u33 u34 u35 u36 u37 u38 u39 u40 : Value), a' = { tmps := #[.pointer (some ⟨H, 0, none⟩), .int .i64 m, u2, u3, u4, u5, u6, u7, u8, u9, u10, u11, u12, u13, u14, u15, u16, u17, u18, u19, u20, u21, u22, u23, u24, u25, u26, u27, u28, u29, u30, u31, u32, u33, u34, u35, u36, u37, u38, u39, u40], defers := [] } ∧ m < t.1.length ∧ t.1.length ≤ 128 ∧ HW w' H v t.1 t.2 ∧ Hid (downS t m = downS s i) ∧ Keep (fun k => k = H ∨ v.ownBlock = some k) w w'

set_option maxHeartbeats 4000000 in
theorem down_any (H : Nat) (v : Value) (s : HS) (i : Nat) (w : World) (h : HW w H v s.1 s.2) (hi : i < s.1.length) :
    Calls Tryz.prog 95 #[.pointer (some ⟨H, 0, none⟩), .int .i64 i] w fun e w' => e = .returned (.tuple #[]) ∧ HW w' H v (downS s i).1 (downS s i).2 ∧ Keep (fun k => k = H ∨ v.ownBlock = some k) w w' := by
  have hl := h.len
  go_enter Tryz.func95, Tryz.ntmps95
  go_wp2
  refine wp_scope_jumps1 0 (DownJ H v s i w) (fun a' _ => 128 - (intOf (a'.tmps.getD 1 undef)).toNat) rfl ?_ ?_
  · intro hp
    refine wp_seq_k (fun K hK => ?_)
    go_wp2
    go_step3
    rename_i hK
    exact hK _ _ (hp _ _ ⟨i, s, undef, undef, .int .i64 0, undef, undef, undef, undef, undef, undef, undef, undef, undef, undef, undef, undef, undef, undef, undef, undef, undef, undef, undef, undef, undef, undef, undef, undef, undef, undef, undef, undef, undef, undef, undef, undef, undef, undef, undef, undef, rfl, hi, hl, h, Lib.hid rfl, Keep.refl _ _⟩)
  · rintro a' w' ⟨m, t, u2, u3, u4, u5, u6, u7, u8, u9, u10, u11, u12, u13, u14, u15, u16, u17, u18, u19, u20, u21, u22, u23, u24, u25, u26, u27, u28, u29, u30, u31, u32, u33, u34, u35, u36, u37, u38, u39, u40, rfl, hm, hl, hW, hU, hK⟩
    have c0 := hW.c0
    obtain ⟨G, cap, rfl, _, _, _, _, _⟩ := hW.row (by omega)
    by_cases h1 : 2 * m + 1 < t.1.length
    · obtain ⟨a, ha⟩ : ∃ a, Veil (t.1[m]? = some a) := ⟨t.1[m], ⟨List.getElem?_eq_getElem _⟩⟩
      obtain ⟨c1, hc1⟩ : ∃ b, Veil (t.1[2 * m + 1]? = some b) := ⟨t.1[2 * m + 1]'(by omega), ⟨List.getElem?_eq_getElem _⟩⟩
      by_cases h2 : 2 * m + 2 < t.1.length
      · obtain ⟨b, hb⟩ : ∃ b, Veil (t.1[2 * m + 2]? = some b) := ⟨t.1[2 * m + 2]'(by omega), ⟨List.getElem?_eq_getElem _⟩⟩
        by_cases hbc : be b c1 = true
        · have hkid : Veil (kid t.1 m = 2 * m + 2) := ⟨by unfold kid; rw [hb.out, hc1.out]; simp [hbc]⟩
          obtain ⟨c, hc⟩ : ∃ c, Veil (t.1[2 * m + 2]? = some c) := ⟨b, hb⟩
          by_cases hbe : be c a = true
          · go_wp2_with fail
            refine (before_at H _ t.1 t.2 (2 * m + 2) (2 * m + 1) b c1 _ _ _ (by omega) (by omega) hW hb.out hc1.out).mono ?_
            rintro e w1 ⟨rfl, hb1⟩
            have hWn := hW.below hb1
            have hKn := hK.trans (Keep.of_below hb1)
            have c1n := hWn.c0
            go_wp2_with fail
            refine (before_at H _ t.1 t.2 (2 * m + 2) m c a _ _ _ (by omega) (by omega) hWn hc.out ha.out).mono ?_
            rintro e w2 ⟨rfl, hb2⟩
            have hW2 := hWn.below hb2
            go_wp2_with fail
            refine (swap_at H _ t.1 t.2 m (2 * m + 2) a c _ _ _ (by omega) (by omega) hW2 ha.out hc.out).mono ?_
            rintro e w3 ⟨rfl, hW3, hK3⟩
            have hU2 : Hid (downS (swS (t.1, t.2) m (2 * m + 2) a c) (2 * m + 2) = downS s i) := Lib.hid (by rw [← hU.out, downS_yes t m a c (by rw [hkid.out]; exact hc.out) ha.out hbe, hkid.out])
            have hlen : (swS (t.1, t.2) m (2 * m + 2) a c).1.length = t.1.length := swS_len (t.1, t.2) m (2 * m + 2) a c
            have hm2 : 2 * m + 2 < (swS (t.1, t.2) m (2 * m + 2) a c).1.length := by omega
            have hl2 : (swS (t.1, t.2) m (2 * m + 2) a c).1.length ≤ 128 := by omega
            clear hlen
            generalize swS (t.1, t.2) m (2 * m + 2) a c = t2 at hW3 hU2 hm2 hl2
            have hK4 := hKn.trans ((Keep.of_below hb2).trans hK3)
            go_wp2
            go_step3
            have hq : ((2 * m + 1 + 1 : Int)) = ((2 * m + 2 : Nat) : Int) := by omega
            refine ⟨rfl, ⟨2 * m + 2, t2, _, _, _, _, _, _, _, _, _, _, _, _, _, _, _, _, _, _, _, _, _, _, _, _, _, _, _, _, _, _, _, _, _, _, _, _, _, _, _, by rw [hq], hm2, hl2, hW3, hU2, hK4⟩, ?_⟩
            simp [intOf]
            omega
          · have hbf : be c a = false := by simpa using hbe
            have e2 : downS s i = t := by rw [← hU.out, downS_no t m a c (by rw [hkid.out]; exact hc.out) ha.out hbf]
            have HE := Lib.hid e2
            clear e2
            go_wp2_with fail
            refine (before_at H _ t.1 t.2 (2 * m + 2) (2 * m + 1) b c1 _ _ _ (by omega) (by omega) hW hb.out hc1.out).mono ?_
            rintro e w1 ⟨rfl, hb1⟩
            have hWn := hW.below hb1
            have hKn := hK.trans (Keep.of_below hb1)
            have c1n := hWn.c0
            go_wp2_with fail
            refine (before_at H _ t.1 t.2 (2 * m + 2) m c a _ _ _ (by omega) (by omega) hWn hc.out ha.out).mono ?_
            rintro e w2 ⟨rfl, hb2⟩
            have hW2 := hWn.below hb2
            go_wp2
            simp only [Exit.jump]
            go_end0
            rw [HE.out]
            exact ⟨rfl, hW2, hKn.trans (Keep.of_below hb2)⟩
        · have hbc' : be b c1 = false := by simpa using hbc
          have hkid : Veil (kid t.1 m = 2 * m + 1) := ⟨by unfold kid; rw [hb.out, hc1.out]; simp [hbc']⟩
          obtain ⟨c, hc⟩ : ∃ c, Veil (t.1[2 * m + 1]? = some c) := ⟨c1, hc1⟩
          by_cases hbe : be c a = true
          · go_wp2_with fail
            refine (before_at H _ t.1 t.2 (2 * m + 2) (2 * m + 1) b c1 _ _ _ (by omega) (by omega) hW hb.out hc1.out).mono ?_
            rintro e w1 ⟨rfl, hb1⟩
            have hWn := hW.below hb1
            have hKn := hK.trans (Keep.of_below hb1)
            have c1n := hWn.c0
            go_wp2_with fail
            refine (before_at H _ t.1 t.2 (2 * m + 1) m c a _ _ _ (by omega) (by omega) hWn hc.out ha.out).mono ?_
            rintro e w2 ⟨rfl, hb2⟩
            have hW2 := hWn.below hb2
            go_wp2_with fail
            refine (swap_at H _ t.1 t.2 m (2 * m + 1) a c _ _ _ (by omega) (by omega) hW2 ha.out hc.out).mono ?_
            rintro e w3 ⟨rfl, hW3, hK3⟩
            have hU2 : Hid (downS (swS (t.1, t.2) m (2 * m + 1) a c) (2 * m + 1) = downS s i) := Lib.hid (by rw [← hU.out, downS_yes t m a c (by rw [hkid.out]; exact hc.out) ha.out hbe, hkid.out])
            have hlen : (swS (t.1, t.2) m (2 * m + 1) a c).1.length = t.1.length := swS_len (t.1, t.2) m (2 * m + 1) a c
            have hm2 : 2 * m + 1 < (swS (t.1, t.2) m (2 * m + 1) a c).1.length := by omega
            have hl2 : (swS (t.1, t.2) m (2 * m + 1) a c).1.length ≤ 128 := by omega
            clear hlen
            generalize swS (t.1, t.2) m (2 * m + 1) a c = t2 at hW3 hU2 hm2 hl2
            have hK4 := hKn.trans ((Keep.of_below hb2).trans hK3)
            go_wp2
            go_step3
            have hq : ((2 * m + 1 : Int)) = ((2 * m + 1 : Nat) : Int) := by omega
            refine ⟨rfl, ⟨2 * m + 1, t2, _, _, _, _, _, _, _, _, _, _, _, _, _, _, _, _, _, _, _, _, _, _, _, _, _, _, _, _, _, _, _, _, _, _, _, _, _, _, _, by rw [hq], hm2, hl2, hW3, hU2, hK4⟩, ?_⟩
            simp [intOf]
            omega
          · have hbf : be c a = false := by simpa using hbe
            have e2 : downS s i = t := by rw [← hU.out, downS_no t m a c (by rw [hkid.out]; exact hc.out) ha.out hbf]
            have HE := Lib.hid e2
            clear e2
            go_wp2_with fail
            refine (before_at H _ t.1 t.2 (2 * m + 2) (2 * m + 1) b c1 _ _ _ (by omega) (by omega) hW hb.out hc1.out).mono ?_
            rintro e w1 ⟨rfl, hb1⟩
            have hWn := hW.below hb1
            have hKn := hK.trans (Keep.of_below hb1)
            have c1n := hWn.c0
            go_wp2_with fail
            refine (before_at H _ t.1 t.2 (2 * m + 1) m c a _ _ _ (by omega) (by omega) hWn hc.out ha.out).mono ?_
            rintro e w2 ⟨rfl, hb2⟩
            have hW2 := hWn.below hb2
            go_wp2
            simp only [Exit.jump]
            go_end0
            rw [HE.out]
            exact ⟨rfl, hW2, hKn.trans (Keep.of_below hb2)⟩
      · have hkid : Veil (kid t.1 m = 2 * m + 1) := ⟨by unfold kid; rw [List.getElem?_eq_none (by omega : t.1.length ≤ 2 * m + 2)]⟩
        obtain ⟨c, hc⟩ : ∃ c, Veil (t.1[2 * m + 1]? = some c) := ⟨c1, hc1⟩
        by_cases hbe : be c a = true
        · have hWn := hW
          have hKn := hK
          go_wp2_with fail
          refine (before_at H _ t.1 t.2 (2 * m + 1) m c a _ _ _ (by omega) (by omega) hWn hc.out ha.out).mono ?_
          rintro e w2 ⟨rfl, hb2⟩
          have hW2 := hWn.below hb2
          go_wp2_with fail
          refine (swap_at H _ t.1 t.2 m (2 * m + 1) a c _ _ _ (by omega) (by omega) hW2 ha.out hc.out).mono ?_
          rintro e w3 ⟨rfl, hW3, hK3⟩
          have hU2 : Hid (downS (swS (t.1, t.2) m (2 * m + 1) a c) (2 * m + 1) = downS s i) := Lib.hid (by rw [← hU.out, downS_yes t m a c (by rw [hkid.out]; exact hc.out) ha.out hbe, hkid.out])
          have hlen : (swS (t.1, t.2) m (2 * m + 1) a c).1.length = t.1.length := swS_len (t.1, t.2) m (2 * m + 1) a c
          have hm2 : 2 * m + 1 < (swS (t.1, t.2) m (2 * m + 1) a c).1.length := by omega
          have hl2 : (swS (t.1, t.2) m (2 * m + 1) a c).1.length ≤ 128 := by omega
          clear hlen
          generalize swS (t.1, t.2) m (2 * m + 1) a c = t2 at hW3 hU2 hm2 hl2
          have hK4 := hKn.trans ((Keep.of_below hb2).trans hK3)
          go_wp2
          go_step3
          have hq : ((2 * m + 1 : Int)) = ((2 * m + 1 : Nat) : Int) := by omega
          refine ⟨rfl, ⟨2 * m + 1, t2, _, _, _, _, _, _, _, _, _, _, _, _, _, _, _, _, _, _, _, _, _, _, _, _, _, _, _, _, _, _, _, _, _, _, _, _, _, _, _, by rw [hq], hm2, hl2, hW3, hU2, hK4⟩, ?_⟩
          simp [intOf]
          omega
        · have hbf : be c a = false := by simpa using hbe
          have e2 : downS s i = t := by rw [← hU.out, downS_no t m a c (by rw [hkid.out]; exact hc.out) ha.out hbf]
          have HE := Lib.hid e2
          clear e2
          have hWn := hW
          have hKn := hK
          go_wp2_with fail
          refine (before_at H _ t.1 t.2 (2 * m + 1) m c a _ _ _ (by omega) (by omega) hWn hc.out ha.out).mono ?_
          rintro e w2 ⟨rfl, hb2⟩
          have hW2 := hWn.below hb2
          go_wp2
          simp only [Exit.jump]
          go_end0
          rw [HE.out]
          exact ⟨rfl, hW2, hKn.trans (Keep.of_below hb2)⟩
    · go_wp2
      simp only [Exit.jump]
      have hkn : t.1[kid t.1 m]? = none := by
        refine List.getElem?_eq_none ?_
        have : 2 * m + 1 ≤ kid t.1 m := by
          unfold kid
          split
          · split <;> omega
          · omega
        omega
      have e2 : downS s i = t := by rw [← hU.out, downS_end t m hkn]
      refine bodyPost_ret (results_none rfl _ _ _) rfl ?_
      rw [e2]
      exact ⟨rfl, hW, hK⟩
end Go.Proofs.YtpebpfaecdmabaaGreatDoor.Hp
