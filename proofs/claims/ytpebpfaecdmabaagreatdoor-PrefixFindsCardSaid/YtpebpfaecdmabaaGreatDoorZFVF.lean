/- awake's graph: hops.fill, its state. -/
import Derived.Test.YtpebpfaecdmabaaGreatDoorZFVC
import Derived.Test.YtpebpfaecdmabaaGreatDoorZF10
import Derived.Test.YtpebpfaecdmabaaGreatDoorZF11
namespace Go.Proofs.YtpebpfaecdmabaaGreatDoor
open Go.RowKit
attribute [local go_sem] Oper.semAt_some

def listD : List Int := (List.range 128).map dsT
def listP : List Bt := (List.range 128).map psT
/-- The tree as fill is handed it. -/
structure TI (w : World) (D Pp : Nat) : Prop where
  d : SlR w 1 (sl128 D) 128 (ints listD)
  p : SlR w 2 (sl128 Pp) 128 (listP.flatMap bc)
  pc : w.cell? ⟨Pp, 4, none⟩ = some (.int .u64 2) ∧ w.cell? ⟨Pp, 5, none⟩ = some (.int .u64 0)
theorem flat_at (f : Nat → Bt) (n : Nat) (j : Nat) (hj : j < n * 2) : (((List.range n).map f).flatMap bc)[j]? = some (if j % 2 = 0 then .int .u64 (u (f (j / 2)).1) else .int .u64 (u (f (j / 2)).2)) := by
  induction n with
  | zero => omega
  | succ n ih =>
    rw [List.range_succ, List.map_append, List.flatMap_append]
    have hl : (((List.range n).map f).flatMap bc).length = n * 2 := by
      have : ∀ L : List Bt, (L.flatMap bc).length = L.length * 2 := by
        intro L
        induction L with
        | nil => rfl
        | cons a L ih => simp [List.flatMap_cons, bc, ih]; omega
      rw [this]; simp
    by_cases h : j < n * 2
    · rw [List.getElem?_append_left (by rw [hl]; exact h)]; exact ih h
    · rw [List.getElem?_append_right (by rw [hl]; omega), hl]
      have : j = n * 2 ∨ j = n * 2 + 1 := by omega
      rcases this with rfl | rfl
      · simp [bc]
      · have e1 : (n * 2 + 1) / 2 = n := by omega
        have e2 : (n * 2 + 1) % 2 = 1 := by omega
        have e3 : n * 2 + 1 - n * 2 = 1 := by omega
        simp [bc, e1, e2, e3]
theorem TS.ti {w wr : World} {B0 R T D Pp Qq : Nat} (h : TS w wr B0 R T D Pp Qq dsT psT) : TI wr D Pp := by
  refine ⟨?_, ?_, h.p 2 (by decide)⟩
  · refine ⟨by simp [listD, ints], by simp [maxLen], some ⟨D, 0, none⟩, 128, rfl, (fun e => by cases e), .inr ⟨D, 0, rfl, fun j v hv => ?_⟩⟩
    rw [Nat.zero_add]
    simp only [ints, listD, List.map_map, List.getElem?_map, Option.map_eq_some_iff] at hv
    obtain ⟨x, hx, rfl⟩ := hv
    obtain ⟨hl, he⟩ := List.getElem?_eq_some_iff.1 hx
    simp only [List.length_range] at hl
    simp only [List.getElem_range] at he
    subst he
    exact h.d j hl
  · refine ⟨?_, by simp [maxLen], some ⟨Pp, 0, none⟩, 128, rfl, (fun e => by cases e), .inr ⟨Pp, 0, rfl, fun j v hv => ?_⟩⟩
    · have : ∀ L : List Bt, (L.flatMap bc).length = L.length * 2 := by
        intro L
        induction L with
        | nil => rfl
        | cons a L ih => simp [List.flatMap_cons, bc, ih]; omega
      rw [this]; simp [listP]
    · rw [Nat.zero_add]
      have hj : j < 128 * 2 := by
        have h1 := (List.getElem?_eq_some_iff.1 hv).1
        have : ∀ L : List Bt, (L.flatMap bc).length = L.length * 2 := by
          intro L
          induction L with
          | nil => rfl
          | cons a L ih => simp [List.flatMap_cons, bc, ih]; omega
        rw [this] at h1; simpa [listP] using h1
      unfold listP at hv
      rw [flat_at psT 128 j hj] at hv
      injection hv with hv
      subst hv
      have hp := h.p (j / 2) (by omega)
      by_cases e : j % 2 = 0
      · rw [if_pos e]
        have : j = j / 2 * 2 := by omega
        rw [this]
        simpa using hp.1
      · rw [if_neg e]
        have : j = j / 2 * 2 + 1 := by omega
        rw [this]
        have e2 : (j / 2 * 2 + 1) / 2 = j / 2 := by omega
        rw [e2]
        exact hp.2
theorem TI.below {w w2 : World} {D Pp : Nat} (h : TI w D Pp) (b : Below w.heap.size w w2) : TI w2 D Pp :=
  ⟨h.d.below b, h.p.below b, (b.cell (World.block_lt_of_cell? _ _ h.pc.1)).trans h.pc.1, (b.cell (World.block_lt_of_cell? _ _ h.pc.2)).trans h.pc.2⟩
theorem TI.dat {w : World} {D Pp : Nat} (h : TI w D Pp) (j : Nat) (hj : j < 128) : w.cell? ⟨D, j, none⟩ = some (.int .i64 (dsT j)) := by
  obtain ⟨b, off, e, hc⟩ := SlR.int_at h.d j (by simpa [listD] using hj)
  injection e with e
  injection e with e1 e2 _
  subst e1 e2
  rw [Nat.zero_add] at hc
  rw [hc]
  simp [listD]

/-- What lies while fill runs: the boxes B1 (of the tree), R (the result's), O (what is made), the made rows g1 (distances) and hh (next hops); all below B0. -/
structure FS (w wr : World) (B0 B1 R O g1 c1 hh : Nat) (D Pp : Nat) (vp : Value) (hp : Bt) : Prop where
  hb : Below w.heap.size w wr
  bd : w.heap.size ≤ B1 ∧ w.heap.size ≤ R ∧ w.heap.size ≤ O ∧ w.heap.size ≤ g1 ∧ w.heap.size ≤ hh ∧ B1 < B0 ∧ R < B0 ∧ O < B0 ∧ g1 < B0 ∧ hh < B0 ∧ B0 ≤ wr.heap.size
  ne : hh ≠ B1 ∧ hh ≠ R ∧ hh ≠ O ∧ hh ≠ g1 ∧ R ≠ B1 ∧ R ≠ O ∧ R ≠ g1
  b0 : wr.cell? ⟨B1, 0, none⟩ = some (.int .i64 1)
  b1 : wr.cell? ⟨B1, 1, none⟩ = some (sl128 D)
  b2 : wr.cell? ⟨B1, 2, none⟩ = some (sl128 Pp)
  r : ∀ j, j < 4 → ∃ v, wr.cell? ⟨R, j, none⟩ = some v
  rf : ∀ j, wr.frozen? ⟨R, j, none⟩ = false
  o0 : wr.cell? ⟨O, 0, none⟩ = some (.int .i64 1)
  o1 : wr.cell? ⟨O, 1, none⟩ = some (.slice (some ⟨g1, 0, none⟩) 128 c1)
  o2 : wr.cell? ⟨O, 2, none⟩ = some vp
  o3 : wr.cell? ⟨O, 3, none⟩ = some (sl128 hh)
  gd : wr.cell? ⟨g1, 2, none⟩ = some (.int .i64 1)
  h0 : wr.cell? ⟨hh, 4, none⟩ = some (.int .u64 (u hp.1))
  h1 : wr.cell? ⟨hh, 5, none⟩ = some (.int .u64 (u hp.2))
  hf : ∀ j, wr.frozen? ⟨hh, j, none⟩ = false
theorem FS.frame {w wr w2 : World} {B0 B1 R O g1 c1 hh D Pp : Nat} {vp : Value} {hp : Bt} (h : FS w wr B0 B1 R O g1 c1 hh D Pp vp hp) (b : Below B0 wr w2) : FS w w2 B0 B1 R O g1 c1 hh D Pp vp hp := by
  obtain ⟨a1, a2, a3, a4, a5, a6, a7, a8, a9, a10, a11⟩ := h.bd
  have hx : ∀ {k i : Nat} {u : Value}, k < B0 → wr.cell? ⟨k, i, none⟩ = some u → w2.cell? ⟨k, i, none⟩ = some u := fun {k i u} hk e => (b.cell (p := ⟨k, i, none⟩) hk).trans e
  have hf : ∀ {k i : Nat}, k < B0 → wr.frozen? ⟨k, i, none⟩ = false → w2.frozen? ⟨k, i, none⟩ = false := fun {k i} hk e => (b.frozen (p := ⟨k, i, none⟩) hk).trans e
  exact ⟨h.hb.trans (b.mono (by omega)), ⟨a1, a2, a3, a4, a5, a6, a7, a8, a9, a10, Nat.le_trans a11 b.size⟩, h.ne, hx a6 h.b0, hx a6 h.b1, hx a6 h.b2, fun j hj => by obtain ⟨v, e⟩ := h.r j hj; exact ⟨v, hx a7 e⟩, fun j => hf a7 (h.rf j),
    hx a8 h.o0, hx a8 h.o1, hx a8 h.o2, hx a8 h.o3, hx a9 h.gd, hx a10 h.h0, hx a10 h.h1, fun j => hf a10 (h.hf j)⟩
theorem FS.below {w wr w2 : World} {B0 B1 R O g1 c1 hh D Pp : Nat} {vp : Value} {hp : Bt} (h : FS w wr B0 B1 R O g1 c1 hh D Pp vp hp) (b : Below wr.heap.size wr w2) : FS w w2 B0 B1 R O g1 c1 hh D Pp vp hp := h.frame (b.mono h.bd.2.2.2.2.2.2.2.2.2.2)
theorem FS.keep {S : Nat → Prop} {w wr w2 : World} {B0 B1 R O g1 c1 hh D Pp : Nat} {vp : Value} {hp : Bt} (h : FS w wr B0 B1 R O g1 c1 hh D Pp vp hp) (k : Keep S wr w2) (hs : ∀ i, S i → B0 ≤ i) : FS w w2 B0 B1 R O g1 c1 hh D Pp vp hp :=
  h.frame (k.below fun i hi => ⟨Nat.lt_of_lt_of_le hi h.bd.2.2.2.2.2.2.2.2.2.2, fun hS => by have := hs i hS; omega⟩)

/-- The boxes at the outset. -/
structure FS0 (w wr : World) (B1 R D Pp : Nat) : Prop where
  hb : Below w.heap.size w wr
  lt : R < wr.heap.size
  b0 : wr.cell? ⟨B1, 0, none⟩ = some (.int .i64 1)
  b1 : wr.cell? ⟨B1, 1, none⟩ = some (sl128 D)
  b2 : wr.cell? ⟨B1, 2, none⟩ = some (sl128 Pp)
  r : ∀ j, j < 4 → ∃ v, wr.cell? ⟨R, j, none⟩ = some v
  rf : ∀ j, wr.frozen? ⟨R, j, none⟩ = false
theorem FS0.new (w : World) (D Pp : Nat) (x y0 y1 y2 : Value) (y3 : Value := .slice none 0 0) : FS0 w ((w.alloc (.cells #[.int .i64 1, sl128 D, sl128 Pp, x] 70)).alloc (.cells #[y0, y1, y2, y3] 70)) w.heap.size (w.heap.size + 1) D Pp := by
  have hA := (Below.refl _ w).alloc (Nat.le_refl _) (.cells #[.int .i64 1, sl128 D, sl128 Pp, x] 70)
  have s1 : (w.alloc (.cells #[.int .i64 1, sl128 D, sl128 Pp, x] 70)).heap.size = w.heap.size + 1 := by simp
  have c0 := box_new w #[.int .i64 1, sl128 D, sl128 Pp, x] 70 0 _ rfl
  have c1 := box_new w #[.int .i64 1, sl128 D, sl128 Pp, x] 70 1 _ rfl
  have c2 := box_new w #[.int .i64 1, sl128 D, sl128 Pp, x] 70 2 _ rfl
  generalize w.alloc (.cells #[.int .i64 1, sl128 D, sl128 Pp, x] 70) = W1 at *
  have hA2 := (Below.refl _ W1).alloc (Nat.le_refl _) (.cells #[y0, y1, y2, y3] 70)
  have hx : ∀ {k i : Nat} {u : Value}, W1.cell? ⟨k, i, none⟩ = some u → (W1.alloc (.cells #[y0, y1, y2, y3] 70)).cell? ⟨k, i, none⟩ = some u := fun {k i u} e => (hA2.cell (World.block_lt_of_cell? _ _ e)).trans e
  refine ⟨hA.trans (hA2.mono hA.size), by simp; omega, hx c0, hx c1, hx c2, fun j hj => ?_, fun j => by rw [← s1]; exact free_new W1 _ _ j⟩
  rw [← s1]
  have : j = 0 ∨ j = 1 ∨ j = 2 ∨ j = 3 := by omega
  rcases this with rfl | rfl | rfl | rfl
  · exact ⟨_, box_new W1 _ _ 0 _ rfl⟩
  · exact ⟨_, box_new W1 _ _ 1 _ rfl⟩
  · exact ⟨_, box_new W1 _ _ 2 _ rfl⟩
  · exact ⟨_, box_new W1 _ _ 3 _ rfl⟩
set_option maxRecDepth 10000 in
theorem row_at {w : World} {g c : Nat} (h : SlR w 1 (.slice (some ⟨g, 0, none⟩) 128 c) 128 (ints listD)) : w.cell? ⟨g, 2, none⟩ = some (.int .i64 1) := by
  obtain ⟨b, off, e, hc⟩ := SlR.int_at h 2 (by decide)
  injection e with e
  injection e with e1 e2 _
  subst e1 e2
  rw [Nat.zero_add] at hc
  rw [hc]
  rfl
/-- What the region that copies holds on to. -/
abbrev KF (W0 : World) (B1 D Pp : Nat) (w' : World) : Prop := w'.cell? ⟨B1, 0, none⟩ = some (.int .i64 1) ∧ w'.cell? ⟨B1, 1, none⟩ = some (sl128 D) ∧ w'.cell? ⟨B1, 2, none⟩ = some (sl128 Pp) ∧ Below W0.heap.size W0 w'
theorem TI.kf {W0 wr : World} {B1 D Pp : Nat} (h0 : TI W0 D Pp) (h : KF W0 B1 D Pp wr) : TI wr D Pp := h0.below h.2.2.2
theorem belowKF {W0 wr : World} {B1 D Pp : Nat} (h : KF W0 B1 D Pp wr) : Below W0.heap.size W0 wr := h.2.2.2
theorem keepF {W0 wr w2 : World} {B1 D Pp : Nat} (h : KF W0 B1 D Pp wr) (b : Below wr.heap.size wr w2) : KF W0 B1 D Pp w2 :=
  ⟨(b.cell (World.block_lt_of_cell? _ _ h.1)).trans h.1, (b.cell (World.block_lt_of_cell? _ _ h.2.1)).trans h.2.1, (b.cell (World.block_lt_of_cell? _ _ h.2.2.1)).trans h.2.2.1, h.2.2.2.trans (b.mono h.2.2.2.size)⟩
theorem keepFo {w W0 wr : World} {o o' : Obj} {B1 R D Pp : Nat} (hF : FS0 w W0 B1 R D Pp) (h : KF W0 B1 D Pp (wr.alloc o)) (hs : W0.heap.size ≤ wr.heap.size) : KF W0 B1 D Pp (wr.alloc o') := by
  have b : Below W0.heap.size W0 (wr.alloc o') := ⟨h.2.2.2.os, h.2.2.2.tape, h.2.2.2.output, by simp; omega, fun k hk => by
    have h1 := h.2.2.2.block k hk
    rw [Below.heap_alloc _ _ _ (by omega)] at h1 ⊢
    exact h1⟩
  exact ⟨(b.cell (World.block_lt_of_cell? _ _ hF.b0)).trans hF.b0, (b.cell (World.block_lt_of_cell? _ _ hF.b1)).trans hF.b1, (b.cell (World.block_lt_of_cell? _ _ hF.b2)).trans hF.b2, b⟩
theorem keepFo2 {w W0 wr : World} {o o' q : Obj} {B1 R D Pp : Nat} (hF : FS0 w W0 B1 R D Pp) (h : KF W0 B1 D Pp ((wr.alloc o).alloc q)) (hs : W0.heap.size ≤ wr.heap.size) : KF W0 B1 D Pp ((wr.alloc o').alloc q) := by
  have b : Below W0.heap.size W0 ((wr.alloc o').alloc q) := ⟨h.2.2.2.os, h.2.2.2.tape, h.2.2.2.output, by simp; omega, fun k hk => by
    have h1 := h.2.2.2.block k hk
    rw [Below.heap_alloc _ _ _ (by simp; omega), Below.heap_alloc _ _ _ (by omega)] at h1 ⊢
    exact h1⟩
  exact ⟨(b.cell (World.block_lt_of_cell? _ _ hF.b0)).trans hF.b0, (b.cell (World.block_lt_of_cell? _ _ hF.b1)).trans hF.b1, (b.cell (World.block_lt_of_cell? _ _ hF.b2)).trans hF.b2, b⟩
theorem keepF4 {w W0 wr : World} {B1 R D Pp X : Nat} {x0 x1 x2 x3 : Value} (hF : FS0 w W0 B1 R D Pp) (h : KF W0 B1 D Pp wr) (hs : W0.heap.size ≤ X) : KF W0 B1 D Pp ((((wr.setCell ⟨X, 0, none⟩ x0).setCell ⟨X, 1, none⟩ x1).setCell ⟨X, 2, none⟩ x2).setCell ⟨X, 3, none⟩ x3) := by
  have b : Below W0.heap.size W0 ((((wr.setCell ⟨X, 0, none⟩ x0).setCell ⟨X, 1, none⟩ x1).setCell ⟨X, 2, none⟩ x2).setCell ⟨X, 3, none⟩ x3) := (((h.2.2.2.setCell (show W0.heap.size ≤ X from hs) _).setCell (show W0.heap.size ≤ X from hs) _).setCell (show W0.heap.size ≤ X from hs) _).setCell (show W0.heap.size ≤ X from hs) _
  exact ⟨(b.cell (World.block_lt_of_cell? _ _ hF.b0)).trans hF.b0, (b.cell (World.block_lt_of_cell? _ _ hF.b1)).trans hF.b1, (b.cell (World.block_lt_of_cell? _ _ hF.b2)).trans hF.b2, b⟩
theorem compB0 {wA w2 w3 : World} (b1 : Below wA.heap.size wA w2) (b2 : Below w2.heap.size w2 w3) : Below wA.heap.size wA w3 := b1.trans (b2.mono b1.size)
theorem compB1 {wA w2 w3 : World} {o : Obj} (b1 : Below wA.heap.size wA w2) (b2 : Below (w2.alloc o).heap.size (w2.alloc o) w3) : Below wA.heap.size wA w3 :=
  b1.trans ((((Below.refl w2.heap.size w2).alloc (Nat.le_refl _) o).trans (b2.mono (by simp))).mono b1.size)
theorem compB2 {wA w2 w3 : World} {o p : Obj} (b1 : Below wA.heap.size wA w2) (b2 : Below ((w2.alloc o).alloc p).heap.size ((w2.alloc o).alloc p) w3) : Below wA.heap.size wA w3 :=
  b1.trans (((((Below.refl w2.heap.size w2).alloc (Nat.le_refl _) o).alloc (by simp) p).trans (b2.mono (by simp; omega))).mono b1.size)
theorem cq0 {w2 w3 : World} {k i : Nat} {v : Value} (b2 : Below w2.heap.size w2 w3) (q : w2.cell? ⟨k, i, none⟩ = some v) : w3.cell? ⟨k, i, none⟩ = some v := (b2.cell (World.block_lt_of_cell? _ _ q)).trans q
theorem cq1 {w2 w3 : World} {o : Obj} {k i : Nat} {v : Value} (b2 : Below (w2.alloc o).heap.size (w2.alloc o) w3) (q : w2.cell? ⟨k, i, none⟩ = some v) : w3.cell? ⟨k, i, none⟩ = some v :=
  cq0 b2 ((World.cell?_alloc_past _ _ _ (World.block_lt_of_cell? _ _ q)).trans q)
theorem cq2 {w2 w3 : World} {o o' : Obj} {k i : Nat} {v : Value} (b2 : Below ((w2.alloc o).alloc o').heap.size ((w2.alloc o).alloc o') w3) (q : w2.cell? ⟨k, i, none⟩ = some v) : w3.cell? ⟨k, i, none⟩ = some v := by
  have q' : (w2.alloc o).cell? ⟨k, i, none⟩ = some v := (World.cell?_alloc_past _ _ _ (World.block_lt_of_cell? _ _ q)).trans q
  exact cq1 b2 q'
theorem keepFd {W0 wr : World} {o : Obj} {B1 D Pp : Nat} (h : KF W0 B1 D Pp wr.drew) : KF W0 B1 D Pp (wr.alloc o).drew := keepF h ((Below.refl _ wr.drew).alloc (Nat.le_refl _) o)
theorem cellB {B : Nat} {w w2 : World} (b : Below B w w2) : ∀ k i : Nat, k < B → w2.cell? ⟨k, i, none⟩ = w.cell? ⟨k, i, none⟩ := fun k i hk => b.cell (p := ⟨k, i, none⟩) hk
theorem freeB {B : Nat} {w w2 : World} (b : Below B w w2) : ∀ k i : Nat, k < B → w2.frozen? ⟨k, i, none⟩ = w.frozen? ⟨k, i, none⟩ := fun k i hk => b.frozen (p := ⟨k, i, none⟩) hk
theorem cellBa {B : Nat} {w w2 : World} (b : Below B w w2) (hB : B ≤ w.heap.size := by exact Nat.le_refl _) : ∀ (o : Obj) (k i : Nat), k < B → (w2.alloc o).cell? ⟨k, i, none⟩ = w.cell? ⟨k, i, none⟩ := fun o k i hk => by
  rw [World.cell?_alloc_past _ _ _ (show k < _ from Nat.lt_of_lt_of_le hk (Nat.le_trans hB b.size))]; exact b.cell (p := ⟨k, i, none⟩) hk
theorem freeBa {B : Nat} {w w2 : World} (b : Below B w w2) (hB : B ≤ w.heap.size := by exact Nat.le_refl _) : ∀ (o : Obj) (k i : Nat), k < B → (w2.alloc o).frozen? ⟨k, i, none⟩ = w.frozen? ⟨k, i, none⟩ := fun o k i hk => by
  rw [World.frozen?_alloc_past _ _ _ (show k < _ from Nat.lt_of_lt_of_le hk (Nat.le_trans hB b.size))]; exact b.frozen (p := ⟨k, i, none⟩) hk
theorem keepFa {W0 wr : World} {o : Obj} {B1 D Pp : Nat} (h : KF W0 B1 D Pp wr) : KF W0 B1 D Pp (wr.alloc o) := keepF h ((Below.refl _ wr).alloc (Nat.le_refl _) o)

theorem FS.start {w W0 W : World} {B1 O g1 c1 hh D Pp : Nat} {vp : Value} (hF : FS0 w W0 B1 (B1 + 1) D Pp) (hB : B1 = w.heap.size) (hk : Below W0.heap.size W0 W)
    (o0 : W.cell? ⟨O, 0, none⟩ = some (.int .i64 1)) (o1 : W.cell? ⟨O, 1, none⟩ = some (.slice (some ⟨g1, 0, none⟩) 128 c1)) (o2 : W.cell? ⟨O, 2, none⟩ = some vp) (o3 : W.cell? ⟨O, 3, none⟩ = some (sl128 hh))
    (hO : W0.heap.size ≤ O) (hg : W0.heap.size ≤ g1) (hH : W0.heap.size ≤ hh) (ltO : O < W.heap.size) (lth : hh < W.heap.size) (ne1 : hh ≠ O) (ne2 : hh ≠ g1)
    (gd : W.cell? ⟨g1, 2, none⟩ = some (.int .i64 1)) (h0 : W.cell? ⟨hh, 4, none⟩ = some (.int .u64 0)) (h1 : W.cell? ⟨hh, 5, none⟩ = some (.int .u64 0)) (hf : ∀ j, W.frozen? ⟨hh, j, none⟩ = false) :
    FS w W W.heap.size B1 (B1 + 1) O g1 c1 hh D Pp vp (0, 0) := by
  have lt := hF.lt
  have hs := hF.hb.size
  have hsz := hk.size
  have ltg := World.block_lt_of_cell? _ _ gd
  have hx : ∀ {k i : Nat} {u : Value}, W0.cell? ⟨k, i, none⟩ = some u → W.cell? ⟨k, i, none⟩ = some u := fun {k i u} e => (hk.cell (World.block_lt_of_cell? _ _ e)).trans e
  refine ⟨hF.hb.trans (hk.mono hs), ⟨by omega, by omega, by omega, by omega, by omega, by omega, by omega, ltO, ltg, lth, Nat.le_refl _⟩, ⟨by omega, by omega, ne1, ne2, by omega, by omega, by omega⟩, hx hF.b0, hx hF.b1, hx hF.b2,
    fun j hj => by obtain ⟨v, e⟩ := hF.r j hj; exact ⟨v, hx e⟩, fun j => (hk.frozen (p := ⟨B1 + 1, j, none⟩) lt).trans (hF.rf j), o0, o1, o2, o3, gd, h0, h1, hf⟩

theorem FS.start4 {w W0 W : World} {B1 O g1 c1 hh D Pp : Nat} {vp : Value} (hF : FS0 w W0 B1 (B1 + 1) D Pp) (hB : B1 = w.heap.size) (hk : Below W0.heap.size W0 ((((W.setCell ⟨O, 0, none⟩ (.int .i64 1)).setCell ⟨O, 1, none⟩ (.slice (some ⟨g1, 0, none⟩) 128 c1)).setCell ⟨O, 2, none⟩ vp).setCell ⟨O, 3, none⟩ (sl128 hh)))
    (o0 : W.cell? ⟨O, 0, none⟩ = some (.int .i64 0)) (o1 : W.cell? ⟨O, 1, none⟩ = some (.slice none 0 0)) (o2 : W.cell? ⟨O, 2, none⟩ = some (.slice none 0 0)) (o3 : W.cell? ⟨O, 3, none⟩ = some (.slice none 0 0))
    (hO : W0.heap.size ≤ O) (hg : W0.heap.size ≤ g1) (hH : W0.heap.size ≤ hh) (ltO : O < W.heap.size) (lth : hh < W.heap.size) (ne1 : hh ≠ O) (ne2 : hh ≠ g1) (ne3 : g1 ≠ O)
    (gd : W.cell? ⟨g1, 2, none⟩ = some (.int .i64 1)) (h0 : W.cell? ⟨hh, 4, none⟩ = some (.int .u64 0)) (h1 : W.cell? ⟨hh, 5, none⟩ = some (.int .u64 0)) (hf : ∀ j, W.frozen? ⟨hh, j, none⟩ = false) :
    FS w ((((W.setCell ⟨O, 0, none⟩ (.int .i64 1)).setCell ⟨O, 1, none⟩ (.slice (some ⟨g1, 0, none⟩) 128 c1)).setCell ⟨O, 2, none⟩ vp).setCell ⟨O, 3, none⟩ (sl128 hh)) W.heap.size B1 (B1 + 1) O g1 c1 hh D Pp vp (0, 0) := by
  obtain ⟨z0, z1, z2, z3⟩ := set4_cells (W := W) (R := O) (.int .i64 1) (.slice (some ⟨g1, 0, none⟩) 128 c1) vp (sl128 hh) (fun j hj => by
    have : j = 0 ∨ j = 1 ∨ j = 2 ∨ j = 3 := by omega
    rcases this with rfl | rfl | rfl | rfl
    · exact ⟨_, o0⟩
    · exact ⟨_, o1⟩
    · exact ⟨_, o2⟩
    · exact ⟨_, o3⟩)
  have k : Keep (fun i => i = O) W ((((W.setCell ⟨O, 0, none⟩ (.int .i64 1)).setCell ⟨O, 1, none⟩ (.slice (some ⟨g1, 0, none⟩) 128 c1)).setCell ⟨O, 2, none⟩ vp).setCell ⟨O, 3, none⟩ (sl128 hh)) :=
    ((((Keep.refl (fun i => i = O) W).setCell ⟨O, 0, none⟩ _ (.inl rfl)).setCell ⟨O, 1, none⟩ _ (.inl rfl)).setCell ⟨O, 2, none⟩ _ (.inl rfl)).setCell ⟨O, 3, none⟩ _ (.inl rfl)
  have hsz : ((((W.setCell ⟨O, 0, none⟩ (.int .i64 1)).setCell ⟨O, 1, none⟩ (.slice (some ⟨g1, 0, none⟩) 128 c1)).setCell ⟨O, 2, none⟩ vp).setCell ⟨O, 3, none⟩ (sl128 hh)).heap.size = W.heap.size := by
    simp only [World.size_setCell]
  have := FS.start hF hB hk z0 z1 z2 z3 hO hg hH (by rw [hsz]; exact ltO) (by rw [hsz]; exact lth) ne1 ne2 (k.cell gd ne3) (k.cell h0 ne1) (k.cell h1 ne1) (fun j => k.unfrozen lth (hf j) ne1)
  rw [hsz] at this
  exact this

theorem app_below {W1 w1 : World} {o : Obj} {ov : Value} (hob : ov.ownBlock = none) (hg : (W1.alloc o).grownBy w1 ov.ownBlock) : Below W1.heap.size W1 w1 :=
  (((Keep.refl (fun _ => False) W1).alloc o).grown hg (fun k hk => by rw [hob] at hk; cases hk)).below (fun k hk => ⟨hk, id⟩)
/-- The order while it is gathered. -/
def OrdW (w : World) (B0 : Nat) (v : Value) (i : Nat) : Prop := (i ≤ 2 → w.ownsRow 0 3 1 v 0 [] ∧ v.ownBlock = none) ∧ (2 < i → w.ownsRow 0 3 1 v 1 (ints [2]) ∧ ∀ g, v.ownBlock = some g → B0 ≤ g)
theorem OrdW.next {w : World} {B0 i : Nat} {v : Value} (h : OrdW w B0 v i) (hi : i ≠ 2) : OrdW w B0 v (i + 1) := ⟨fun h1 => h.1 (by omega), fun h1 => h.2 (by omega)⟩
theorem OrdW.two {w w1 : World} {B0 : Nat} {v v' : Value} {o : Obj} (h : OrdW w B0 v 2) (hB : B0 ≤ w.heap.size) (ho : w1.ownsRow 0 3 1 v' (0 + 1) ([] ++ ints [2])) (hat : v'.ownBlock = v.ownBlock ∨ v'.ownBlock = some (w.alloc o).heap.size) : OrdW w1 B0 v' (2 + 1) := by
  refine ⟨fun h1 => by omega, fun _ => ⟨by simpa using ho, fun g hg => ?_⟩⟩
  rcases hat with e | e
  · rw [e, (h.1 (Nat.le_refl _)).2] at hg; cases hg
  · rw [e] at hg; injection hg with hg; simp at hg; omega

/-- What lies when fill goes over the order: besides, the order's row q, the boxes K7 (of the table), K8 (of the numbers), the numbers' row I, the table. -/
structure GS (w wr : World) (B9 B0 B1 O g1 c1 hh D Pp : Nat) (vp : Value) (q K7 K8 I Tt M gg : Nat) : Prop where
  fs : FS w wr B0 B1 (B1 + 1) O g1 c1 hh D Pp vp (0, 0)
  hq : wr.cell? ⟨q, 0, none⟩ = some (.int .i64 2)
  k7 : wr.cell? ⟨K7, 0, none⟩ = some (.pointer (some ⟨Tt, 0, none⟩))
  k8 : wr.cell? ⟨K8, 0, none⟩ = some (sl128 I)
  i1 : wr.cell? ⟨I, 1, none⟩ = some (.int .i64 0)
  i2 : ∃ x, wr.cell? ⟨I, 2, none⟩ = some x
  fi : ∀ j, wr.frozen? ⟨I, j, none⟩ = false
  tab : It.Tab wr Tt M gg [(0, 0)]
  bd : B0 ≤ Tt ∧ B0 ≤ M ∧ B0 ≤ gg ∧ B0 ≤ I ∧ Tt < K7 ∧ M < K7 ∧ gg < K7 ∧ I < K8 ∧ K8 < B9 ∧ q < B9 ∧ K7 < I ∧ B9 ≤ wr.heap.size
theorem GS.below {w wr w2 : World} {B9 B0 B1 O g1 c1 hh D Pp : Nat} {vp : Value} {q K7 K8 I Tt M gg : Nat} (h : GS w wr B9 B0 B1 O g1 c1 hh D Pp vp q K7 K8 I Tt M gg) (b : Below wr.heap.size wr w2) : GS w w2 B9 B0 B1 O g1 c1 hh D Pp vp q K7 K8 I Tt M gg := by
  have hx : ∀ {k i : Nat} {u : Value}, wr.cell? ⟨k, i, none⟩ = some u → w2.cell? ⟨k, i, none⟩ = some u := fun {k i u} e => (b.cell (World.block_lt_of_cell? _ _ e)).trans e
  obtain ⟨x, hx2⟩ := h.i2
  obtain ⟨a1, a2, a3, a4, a5, a6, a7, a8, a9, a11, a12, a10⟩ := h.bd
  exact ⟨h.fs.below b, hx h.hq, hx h.k7, hx h.k8, hx h.i1, ⟨x, hx hx2⟩, fun j => (b.frozen (p := ⟨I, j, none⟩) (show I < wr.heap.size from World.block_lt_of_cell? _ _ h.i1)).trans (h.fi j), h.tab.below b, ⟨a1, a2, a3, a4, a5, a6, a7, a8, a9, a11, a12, Nat.le_trans a10 b.size⟩⟩
theorem GS.frame {w wr w2 : World} {B9 B0 B1 O g1 c1 hh D Pp : Nat} {vp : Value} {q K7 K8 I Tt M gg : Nat} (h : GS w wr B9 B0 B1 O g1 c1 hh D Pp vp q K7 K8 I Tt M gg) (b : Below B9 wr w2) : GS w w2 B9 B0 B1 O g1 c1 hh D Pp vp q K7 K8 I Tt M gg := by
  obtain ⟨a1, a2, a3, a4, a5, a6, a7, a8, a9, a11, a12, a10⟩ := h.bd
  have hx : ∀ {k i : Nat} {u : Value}, k < B9 → wr.cell? ⟨k, i, none⟩ = some u → w2.cell? ⟨k, i, none⟩ = some u := fun {k i u} hk e => (b.cell (p := ⟨k, i, none⟩) hk).trans e
  obtain ⟨x, hx2⟩ := h.i2
  have hk : Keep (fun i => B9 ≤ i) wr w2 := ⟨b.os, b.tape, b.output, b.size, fun k _ hn => b.block k (by omega)⟩
  exact ⟨h.fs.frame (b.mono (by omega)), hx a11 h.hq, hx (by omega) h.k7, hx a9 h.k8, hx (by omega) h.i1, ⟨x, hx (by omega) hx2⟩, fun j => (b.frozen (p := ⟨I, j, none⟩) (show I < B9 by omega)).trans (h.fi j), h.tab.keep hk (by omega) (by omega) (by omega), ⟨a1, a2, a3, a4, a5, a6, a7, a8, a9, a11, a12, Nat.le_trans a10 b.size⟩⟩
theorem GS.new {w w3 w4 : World} {B0 B1 O g1 c1 hh D Pp : Nat} {vp : Value} {q Tt M gg : Nat} (hS : FS w w3 B0 B1 (B1 + 1) O g1 c1 hh D Pp vp (0, 0)) (hq : w3.cell? ⟨q, 0, none⟩ = some (.int .i64 2)) (hb : Below w3.heap.size w3 w4) (ht : It.Tab w4 Tt M gg [(0, 0)]) (hT : w3.heap.size ≤ Tt) (hM : w3.heap.size ≤ M) (hg : w3.heap.size ≤ gg) :
    GS w (((w4.alloc (.cells #[.pointer (some ⟨Tt, 0, none⟩)] 94)).alloc (.cells zerosI 3)).alloc (.cells #[sl128 (w4.heap.size + 1)] 67)) (w4.heap.size + 3) B0 B1 O g1 c1 hh D Pp vp q w4.heap.size (w4.heap.size + 1 + 1) (w4.heap.size + 1) Tt M gg := by
  have hS4 := hS.below hb
  have hq4 := (hb.cell (World.block_lt_of_cell? _ _ hq)).trans hq
  have hlt := ht.lt
  have hA1 := (Below.refl _ w4).alloc (Nat.le_refl _) (.cells #[.pointer (some ⟨Tt, 0, none⟩)] 94)
  have s1 : (w4.alloc (.cells #[.pointer (some ⟨Tt, 0, none⟩)] 94)).heap.size = w4.heap.size + 1 := by simp
  have k7 := box_new w4 #[.pointer (some ⟨Tt, 0, none⟩)] 94 0 _ rfl
  generalize w4.alloc (.cells #[.pointer (some ⟨Tt, 0, none⟩)] 94) = W1 at *
  have hA2 := (Below.refl _ W1).alloc (Nat.le_refl _) (.cells zerosI 3)
  have s2 : (W1.alloc (.cells zerosI 3)).heap.size = W1.heap.size + 1 := by simp
  have i1 := box_new W1 zerosI 3 1 _ (zerosI_at 1 (by decide))
  have i2 := box_new W1 zerosI 3 2 _ (zerosI_at 2 (by decide))
  have fi := fun j => free_new W1 zerosI 3 j
  generalize W1.alloc (.cells zerosI 3) = W2 at *
  have hA3 := (Below.refl _ W2).alloc (Nat.le_refl _) (.cells #[sl128 (w4.heap.size + 1)] 67)
  have s3 : (W2.alloc (.cells #[sl128 (w4.heap.size + 1)] 67)).heap.size = W2.heap.size + 1 := by simp
  have k8 := box_new W2 #[sl128 (w4.heap.size + 1)] 67 0 _ rfl
  generalize W2.alloc (.cells #[sl128 (w4.heap.size + 1)] 67) = W3 at *
  have h23 := hA2.trans (hA3.mono hA2.size)
  have h13 := hA1.trans (h23.mono hA1.size)
  have hx1 : ∀ {k i : Nat} {u : Value}, w4.cell? ⟨k, i, none⟩ = some u → W3.cell? ⟨k, i, none⟩ = some u := fun {k i u} e => (h13.cell (World.block_lt_of_cell? _ _ e)).trans e
  have hx2 : ∀ {k i : Nat} {u : Value}, W1.cell? ⟨k, i, none⟩ = some u → W3.cell? ⟨k, i, none⟩ = some u := fun {k i u} e => (h23.cell (World.block_lt_of_cell? _ _ e)).trans e
  have hx3 : ∀ {k i : Nat} {u : Value}, W2.cell? ⟨k, i, none⟩ = some u → W3.cell? ⟨k, i, none⟩ = some u := fun {k i u} e => (hA3.cell (World.block_lt_of_cell? _ _ e)).trans e
  rw [s1] at i1 i2
  simp only [s1] at fi
  have hB0 := hS.bd.2.2.2.2.2.2.2.2.2.2
  have hsz := hb.size
  have hql : q < w3.heap.size := World.block_lt_of_cell? _ _ hq
  refine ⟨hS4.below h13, hx1 hq4, hx2 k7, ?_, hx3 i1, ⟨_, hx3 i2⟩, fun j => (hA3.frozen (p := ⟨w4.heap.size + 1, j, none⟩) (show w4.heap.size + 1 < W2.heap.size from World.block_lt_of_cell? _ _ i1)).trans (fi j), ht.below h13, ⟨by omega, by omega, by omega, by omega, by omega, by omega, by omega, by omega, by omega, by omega, by omega, by omega⟩⟩
  rw [s2, s1] at k8
  exact k8

theorem three49 {w5 w6 : World} (h : w6 = ((w5.alloc (.cells #[.int .i64 2] 3)).alloc (.cells #[.int .u64 0, .int .u64 0] 28)).alloc (.cells #[.int .u64 2, .int .u64 0] 28)) :
    Below w5.heap.size w5 w6 ∧ w6.cell? ⟨w5.heap.size, 0, none⟩ = some (.int .i64 2) ∧ w6.heap[w5.heap.size + 1]? = some (.cells #[.int .u64 0, .int .u64 0] 28 (0, 0)) ∧ w6.cell? ⟨w5.heap.size + 1 + 1, 0, none⟩ = some (.int .u64 2) ∧ w6.cell? ⟨w5.heap.size + 1 + 1, 1, none⟩ = some (.int .u64 0) ∧ w6.heap.size = w5.heap.size + 3 := by
  have hA1 := (Below.refl _ w5).alloc (Nat.le_refl _) (.cells #[.int .i64 2] 3)
  have s1 : (w5.alloc (.cells #[.int .i64 2] 3)).heap.size = w5.heap.size + 1 := by simp
  have k1 := box_new w5 #[.int .i64 2] 3 0 _ rfl
  generalize w5.alloc (.cells #[.int .i64 2] 3) = W1 at *
  have hA2 := (Below.refl _ W1).alloc (Nat.le_refl _) (.cells #[.int .u64 0, .int .u64 0] 28)
  have s2 : (W1.alloc (.cells #[.int .u64 0, .int .u64 0] 28)).heap.size = W1.heap.size + 1 := by simp
  have k2 := heap_alloc_new W1 (.cells #[.int .u64 0, .int .u64 0] 28)
  generalize W1.alloc (.cells #[.int .u64 0, .int .u64 0] 28) = W2 at *
  have hA3 := (Below.refl _ W2).alloc (Nat.le_refl _) (.cells #[.int .u64 2, .int .u64 0] 28)
  have s3 : (W2.alloc (.cells #[.int .u64 2, .int .u64 0] 28)).heap.size = W2.heap.size + 1 := by simp
  have k3 := box_new W2 #[.int .u64 2, .int .u64 0] 28 0 _ rfl
  have k4 := box_new W2 #[.int .u64 2, .int .u64 0] 28 1 _ rfl
  rw [← h] at hA3 s3 k3 k4
  have h23 := hA2.trans (hA3.mono hA2.size)
  have h13 := hA1.trans (h23.mono hA1.size)
  rw [s2, s1] at k3 k4
  rw [s1] at k2
  exact ⟨h13, (h23.cell (World.block_lt_of_cell? _ _ k1)).trans k1, (hA3.block _ (Array.getElem?_eq_some_iff.1 k2).1).trans k2, k3, k4, by omega⟩
/-- What the box of all sets holds, behind so many rounds. -/
def allC (pre : List N1) : Array Value := if pre.length = 0 then #[.int .u64 0, .int .u64 0] else #[.int .u64 4, .int .u64 0]

theorem res34 (w : World) (tmps : Array Value) (R : Nat) (x0 x1 x2 x3 : Value) (hp : tmps.getD 2 undef = .pointer (some ⟨R, 0, none⟩)) (h0 : w.cell? ⟨R, 0, none⟩ = some x0) (h1 : w.cell? ⟨R, 1, none⟩ = some x1) (h2 : w.cell? ⟨R, 2, none⟩ = some x2) (h3 : w.cell? ⟨R, 3, none⟩ = some x3) :
    (results Tryz.f39 tmps).run Tryz.prog w = .ok (.agg #[x0, x1, x2, x3]) w := by
  rw [Array.getD_eq_getD_getElem?] at hp
  simp only [results, Tryz.results39]
  simp [go_sem, hp, h0, h1, h2, h3]
/-- What the operations of 'ids[v], _ = table.ID(all)' leave in their slots. -/
def F22 (Tt I : Nat) : Nat → Value → World → Prop
  | 0, v, _ => v = sl128 I
  | 1, v, _ => v = .int .i64 2
  | 2, v, _ => v = .pointer (some ⟨Tt, 0, none⟩)
  | 3, v, _ => v = .agg #[.int .u64 4, .int .u64 0]
  | 4, v, _ => v = .tuple #[.int .i64 1, .int .i64 0]
  | 5, v, _ => v = .tuple #[.int .i64 1, .int .i64 0]
  | 6, v, _ => v = .int .i64 1
  | 7, v, _ => v = .int .i64 0
  | 8, v, _ => v = .pointer (some ⟨I, 2, none⟩)
  | _, _, _ => True
theorem F22.any {Tt I : Nat} {w w' : World} : ∀ j v, F22 Tt I j v w → F22 Tt I j v w' := by
  intro j v h
  unfold F22 at h ⊢
  split <;> first | exact h | trivial
theorem keeps_below {w w' : World} (b : Below w.heap.size w w') : KeepsOthers w w' := ⟨b.size, fun k _ hk _ => (b.block k (Array.getElem?_eq_some_iff.1 hk).1).trans hk⟩
/-- What the operations of the round's first statement leave in their slots. -/
def F18 (Tt I n0 : Nat) : Nat → Value → World → Prop
  | 0, v, _ => v = .pointer (some ⟨Tt, 0, none⟩)
  | 1, v, _ => v = sl128 I
  | 2, v, _ => v = .int .i64 1
  | 3, v, _ => v = .pointer (some ⟨I, 1, none⟩)
  | 4, v, _ => v = .int .i64 0
  | 5, v, _ => v = .tuple #[.agg #[.int .u64 0, .int .u64 0], .int .i64 0]
  | 6, v, _ => v = .tuple #[.agg #[.int .u64 0, .int .u64 0], .int .i64 0]
  | 7, v, _ => v = .agg #[.int .u64 0, .int .u64 0]
  | 8, v, _ => v = .int .i64 0
  | 9, v, w => ∃ A x y, v = .pointer (some ⟨A, 0, none⟩) ∧ n0 ≤ A ∧ w.cell? ⟨A, 0, none⟩ = some x ∧ w.cell? ⟨A, 1, none⟩ = some y ∧ w.frozen? ⟨A, 0, none⟩ = false ∧ w.frozen? ⟨A, 1, none⟩ = false
  | 11, v, _ => v = .int .i64 0
  | _, _, _ => True
theorem F18.mono {Tt I n0 : Nat} {w w' : World} (hm : ∀ A i x, w.cell? ⟨A, i, none⟩ = some x → ∃ x', w'.cell? ⟨A, i, none⟩ = some x') (hf : ∀ A i, A < w.heap.size → w.frozen? ⟨A, i, none⟩ = false → w'.frozen? ⟨A, i, none⟩ = false) : ∀ j v, F18 Tt I n0 j v w → F18 Tt I n0 j v w' := by
  intro j v h
  unfold F18 at h ⊢
  split <;> first | exact h | trivial | skip
  obtain ⟨A, x, y, h1, h2, h3, h4, h5, h6⟩ := h
  obtain ⟨x', h3'⟩ := hm _ _ _ h3
  obtain ⟨y', h4'⟩ := hm _ _ _ h4
  have hA : A < w.heap.size := World.block_lt_of_cell? _ _ h3
  exact ⟨A, x', y', h1, h2, h3', h4', hf _ _ hA h5, hf _ _ hA h6⟩
theorem F18.below {Tt I n0 : Nat} {w w' : World} (b : Below w.heap.size w w') : ∀ j v, F18 Tt I n0 j v w → F18 Tt I n0 j v w' :=
  F18.mono (fun _ _ x h => ⟨x, (b.cell (World.block_lt_of_cell? _ _ h)).trans h⟩) (fun A i hA h => (b.frozen (p := ⟨A, i, none⟩) hA).trans h)

set_option maxHeartbeats 80000000 in
set_option maxRecDepth 100000 in
theorem fill_awake {w : World} {D Pp Qq : Nat} (hT : TI w D Pp) (hTab : Bs.TabW w) : Calls Tryz.prog 39 #[.agg #[.int .i64 1, sl128 D, sl128 Pp, sl128 Qq]] w fun e w' =>
    ∃ g1 c1 hh g2 c2, e = .returned (.agg #[.int .i64 1, .slice (some ⟨g1, 0, none⟩) 128 c1, .slice (some ⟨g2, 0, none⟩) 128 c2, sl128 hh]) ∧ Below w.heap.size w w' ∧ w'.cell? ⟨g1, 2, none⟩ = some (.int .i64 1) ∧ w'.cell? ⟨hh, 4, none⟩ = some (.int .u64 4) ∧ w'.cell? ⟨hh, 5, none⟩ = some (.int .u64 0) := by
  refine (callsIn_wide (n := 5)).1 ?_
  refine callsIn_of_wp_marks Tryz.func39 rfl trivial ?_
  refine wpIn_wide.2 ?_
  simp only [Tryz.ntmps39, List.size_toArray, List.length_cons, List.length_nil, Nat.reduceAdd, Nat.reduceSub, Array.replicate_succ, Array.replicate_zero, List.push_toArray, List.append_toArray, List.nil_append, List.cons_append]
  go_upto_region 1 with fail
  obtain ⟨W0, hW0⟩ : ∃ W0, W0 = (w.alloc (.cells #[.int .i64 1, sl128 D, sl128 Pp, sl128 Qq] 70)).alloc (.cells #[.int .i64 0, .slice none 0 0, .slice none 0 0, .slice none 0 0] 70) := ⟨_, rfl⟩
  rw [← hW0]
  obtain ⟨B1, hB1⟩ : ∃ B1, B1 = w.heap.size := ⟨_, rfl⟩
  rw [← hB1]
  have hF0 : FS0 w W0 B1 (B1 + 1) D Pp := by
    rw [hW0, hB1]; exact FS0.new w _ _ _ _ _ _
  have hT0 : TI W0 D Pp := hT.below hF0.hb
  have HB1 := Lib.hid hB1
  clear hW0 hB1
  have b0 := hF0.b0
  have b1 := hF0.b1
  have b2 := hF0.b2
  have hm2 := mk60
  have hk0 : KF W0 B1 D Pp W0.drew := ⟨b0, b1, b2, (Below.refl _ _).drew⟩
  go_cut [3] from 15 (fun v3 wc => ∃ B0 O g1 c1 hh vp, v3 = .pointer (some ⟨O, 0, none⟩) ∧ FS w wc B0 B1 (B1 + 1) O g1 c1 hh D Pp vp (0, 0) ∧ ∃ g2 c2, vp = .slice (some ⟨g2, 0, none⟩) 128 c2)
  case first =>
   go_region_held3 (fun w' => w'.cell? ⟨B1, 0, none⟩ = some (.int .i64 1) ∧ w'.cell? ⟨B1, 1, none⟩ = some (sl128 D) ∧ w'.cell? ⟨B1, 2, none⟩ = some (sl128 Pp) ∧ Below W0.heap.size W0 w') ((first | (with_reducible exact hk0) | (with_reducible assumption) | (with_reducible exact keepFa (by assumption)) | (with_reducible exact keepFd (by assumption)) | (with_reducible exact keepF (by assumption) (by assumption)) | (with_reducible refine keepFo hF0 (by assumption) ?_; (have h1 := hb1.size; have h2 := hb2.size; first | omega | (simp at h1 h2 ⊢; omega) | (simp at h1 h2 ⊢))) | (with_reducible refine keepFo2 hF0 (by assumption) ?_; (have h1 := hb1.size; have h2 := hb2.size; first | omega | (simp at h1 h2 ⊢; omega) | (simp at h1 h2 ⊢))) | (with_reducible refine keepF4 hF0 (by assumption) ?_; (have h1 := hb1.size; have h2 := hb2.size; first | omega | (simp at h1 h2 ⊢; omega) | (simp at h1 h2 ⊢))))) ((first | (go_at_call 47; refine (Clone44 (TI.kf hT0 (B1 := B1) (by assumption)).d (by decide) (by decide)).mono ?_; rintro e w2 ⟨g1, c1, rfl, hg1, hs1, hb1⟩; have k1 := cellB hb1; have l1 := freeB hb1; have z1 := hb1.size; have k1a := cellBa hb1; have l1a := freeBa hb1) | (go_at_call 48; refine (Clone45 (TI.kf hT0 (B1 := B1) (by assumption)).p (by decide) (by decide)).mono ?_; rintro e w3 ⟨g2, c2, rfl, hg2, hs2, hb2⟩; have k2 := cellB hb2; have l2 := freeB hb2; have z2 := hb2.size; have k2a := cellBa hb2; have l2a := freeBa hb2; (first | (with_reducible have hbC := compB0 hb1 hb2) | (with_reducible have hbC := compB1 hb1 hb2) | (with_reducible have hbC := compB2 hb1 hb2)); have k3 := cellB hbC; have l3 := freeB hbC; have k3a := cellBa hbC; have l3a := freeBa hbC)))
   all_goals
    go_wp2_with fail
    go_meet
   all_goals
    case rel =>
     have q1 := row_at hs1
     have q2 : g1 < w2.heap.size := World.block_lt_of_cell? _ _ q1
     have q3 : w3.cell? ⟨g1, 2, none⟩ = some (.int .i64 1) := (by first | exact cq0 hb2 q1 | exact cq1 hb2 q1 | exact cq2 hb2 q1)
     have q4 : g1 < w3.heap.size := World.block_lt_of_cell? _ _ q3
     have q5 : g1 < w3.heap.size + 1 := Nat.lt_succ_of_lt q4
     try simp at hg1
     try simp at hg2
     try simp at z1
     try simp at z2
     have hz4 := zerosB_at 4 (by decide)
     have hz5 := zerosB_at 5 (by decide)
     first
     | (refine ⟨_, _, g1, c1, w3.heap.size, .slice (some ⟨g2, 0, none⟩) 128 c2, rfl, FS.start (hh := w3.heap.size) hF0 HB1.out ?_ ?_ ?_ ?_ ?_ ?_ ?_ ?_ ?_ ?_ ?_ ?_ ?_ ?_ ?_ ?_, g2, c2, rfl⟩; (with_reducible exact belowKF (B1 := B1) (D := D) (Pp := Pp) (by assumption)); (focus (go_simp; done)); (focus (go_simp; done)); (focus (go_simp; done)); (focus (go_simp; done)); (focus (first | omega | (simp; done) | (simp; omega))); (focus (first | omega | (simp; done) | (simp; omega))); (focus (first | omega | (simp; done) | (simp; omega))); (focus (first | omega | (simp; done) | (simp; omega))); (focus (first | omega | (simp; done) | (simp; omega))); (focus (first | omega | (simp; done) | (simp; omega))); (focus (first | omega | (simp; done) | (simp; omega))); (focus (go_simp; done)); (focus (go_simp; done)); (focus (go_simp; done)); (focus (intro j; go_simp; done)); done)
     | (refine ⟨_, _, g1, c1, w3.heap.size + 1, .slice (some ⟨g2, 0, none⟩) 128 c2, rfl, FS.start (hh := w3.heap.size + 1) hF0 HB1.out ?_ ?_ ?_ ?_ ?_ ?_ ?_ ?_ ?_ ?_ ?_ ?_ ?_ ?_ ?_ ?_, g2, c2, rfl⟩; (with_reducible exact belowKF (B1 := B1) (D := D) (Pp := Pp) (by assumption)); (focus (go_simp; done)); (focus (go_simp; done)); (focus (go_simp; done)); (focus (go_simp; done)); (focus (first | omega | (simp; done) | (simp; omega))); (focus (first | omega | (simp; done) | (simp; omega))); (focus (first | omega | (simp; done) | (simp; omega))); (focus (first | omega | (simp; done) | (simp; omega))); (focus (first | omega | (simp; done) | (simp; omega))); (focus (first | omega | (simp; done) | (simp; omega))); (focus (first | omega | (simp; done) | (simp; omega))); (focus (go_simp; done)); (focus (go_simp; done)); (focus (go_simp; done)); (focus (intro j; go_simp; done)); done)
     | (refine ⟨_, _, g1, c1, w2.heap.size, .slice (some ⟨g2, 0, none⟩) 128 c2, rfl, FS.start (hh := w2.heap.size) hF0 HB1.out ?_ ?_ ?_ ?_ ?_ ?_ ?_ ?_ ?_ ?_ ?_ ?_ ?_ ?_ ?_ ?_, g2, c2, rfl⟩; (with_reducible exact belowKF (B1 := B1) (D := D) (Pp := Pp) (by assumption)); (focus (go_simp; done)); (focus (go_simp; done)); (focus (go_simp; done)); (focus (go_simp; done)); (focus (first | omega | (simp; done) | (simp; omega))); (focus (first | omega | (simp; done) | (simp; omega))); (focus (first | omega | (simp; done) | (simp; omega))); (focus (first | omega | (simp; done) | (simp; omega))); (focus (first | omega | (simp; done) | (simp; omega))); (focus (first | omega | (simp; done) | (simp; omega))); (focus (first | omega | (simp; done) | (simp; omega))); (focus (go_simp; done)); (focus (go_simp; done)); (focus (go_simp; done)); (focus (intro j; go_simp; done)); done)
     | (refine ⟨_, _, g1, c1, w2.heap.size + 1, .slice (some ⟨g2, 0, none⟩) 128 c2, rfl, FS.start (hh := w2.heap.size + 1) hF0 HB1.out ?_ ?_ ?_ ?_ ?_ ?_ ?_ ?_ ?_ ?_ ?_ ?_ ?_ ?_ ?_ ?_, g2, c2, rfl⟩; (with_reducible exact belowKF (B1 := B1) (D := D) (Pp := Pp) (by assumption)); (focus (go_simp; done)); (focus (go_simp; done)); (focus (go_simp; done)); (focus (go_simp; done)); (focus (first | omega | (simp; done) | (simp; omega))); (focus (first | omega | (simp; done) | (simp; omega))); (focus (first | omega | (simp; done) | (simp; omega))); (focus (first | omega | (simp; done) | (simp; omega))); (focus (first | omega | (simp; done) | (simp; omega))); (focus (first | omega | (simp; done) | (simp; omega))); (focus (first | omega | (simp; done) | (simp; omega))); (focus (go_simp; done)); (focus (go_simp; done)); (focus (go_simp; done)); (focus (intro j; go_simp; done)); done)
     | (refine ⟨_, _, g1, c1, W0.heap.size, .slice (some ⟨g2, 0, none⟩) 128 c2, rfl, FS.start (hh := W0.heap.size) hF0 HB1.out ?_ ?_ ?_ ?_ ?_ ?_ ?_ ?_ ?_ ?_ ?_ ?_ ?_ ?_ ?_ ?_, g2, c2, rfl⟩; (with_reducible exact belowKF (B1 := B1) (D := D) (Pp := Pp) (by assumption)); (focus (go_simp; done)); (focus (go_simp; done)); (focus (go_simp; done)); (focus (go_simp; done)); (focus (first | omega | (simp; done) | (simp; omega))); (focus (first | omega | (simp; done) | (simp; omega))); (focus (first | omega | (simp; done) | (simp; omega))); (focus (first | omega | (simp; done) | (simp; omega))); (focus (first | omega | (simp; done) | (simp; omega))); (focus (first | omega | (simp; done) | (simp; omega))); (focus (first | omega | (simp; done) | (simp; omega))); (focus (go_simp; done)); (focus (go_simp; done)); (focus (go_simp; done)); (focus (intro j; go_simp; done)); done)
     | (refine ⟨_, _, g1, c1, W0.heap.size + 1, .slice (some ⟨g2, 0, none⟩) 128 c2, rfl, FS.start (hh := W0.heap.size + 1) hF0 HB1.out ?_ ?_ ?_ ?_ ?_ ?_ ?_ ?_ ?_ ?_ ?_ ?_ ?_ ?_ ?_ ?_, g2, c2, rfl⟩; (with_reducible exact belowKF (B1 := B1) (D := D) (Pp := Pp) (by assumption)); (focus (go_simp; done)); (focus (go_simp; done)); (focus (go_simp; done)); (focus (go_simp; done)); (focus (first | omega | (simp; done) | (simp; omega))); (focus (first | omega | (simp; done) | (simp; omega))); (focus (first | omega | (simp; done) | (simp; omega))); (focus (first | omega | (simp; done) | (simp; omega))); (focus (first | omega | (simp; done) | (simp; omega))); (focus (first | omega | (simp; done) | (simp; omega))); (focus (first | omega | (simp; done) | (simp; omega))); (focus (go_simp; done)); (focus (go_simp; done)); (focus (go_simp; done)); (focus (intro j; go_simp; done)); done)
     | (refine ⟨_, _, g1, c1, w3.heap.size, .slice (some ⟨g2, 0, none⟩) 128 c2, rfl, FS.start4 (hh := w3.heap.size) hF0 HB1.out ?_ ?_ ?_ ?_ ?_ ?_ ?_ ?_ ?_ ?_ ?_ ?_ ?_ ?_ ?_ ?_ ?_, g2, c2, rfl⟩; (with_reducible exact belowKF (B1 := B1) (D := D) (Pp := Pp) (by assumption)); (focus (go_simp; done)); (focus (go_simp; done)); (focus (go_simp; done)); (focus (go_simp; done)); (focus (first | omega | (simp; done) | (simp; omega))); (focus (first | omega | (simp; done) | (simp; omega))); (focus (first | omega | (simp; done) | (simp; omega))); (focus (first | omega | (simp; done) | (simp; omega))); (focus (first | omega | (simp; done) | (simp; omega))); (focus (first | omega | (simp; done) | (simp; omega))); (focus (first | omega | (simp; done) | (simp; omega))); (focus (first | omega | (simp; done) | (simp; omega))); (focus (go_simp; done)); (focus (go_simp; done)); (focus (go_simp; done)); (focus (intro j; go_simp; done)); done)
     | (refine ⟨_, _, g1, c1, w3.heap.size + 1, .slice (some ⟨g2, 0, none⟩) 128 c2, rfl, FS.start4 (hh := w3.heap.size + 1) hF0 HB1.out ?_ ?_ ?_ ?_ ?_ ?_ ?_ ?_ ?_ ?_ ?_ ?_ ?_ ?_ ?_ ?_ ?_, g2, c2, rfl⟩; (with_reducible exact belowKF (B1 := B1) (D := D) (Pp := Pp) (by assumption)); (focus (go_simp; done)); (focus (go_simp; done)); (focus (go_simp; done)); (focus (go_simp; done)); (focus (first | omega | (simp; done) | (simp; omega))); (focus (first | omega | (simp; done) | (simp; omega))); (focus (first | omega | (simp; done) | (simp; omega))); (focus (first | omega | (simp; done) | (simp; omega))); (focus (first | omega | (simp; done) | (simp; omega))); (focus (first | omega | (simp; done) | (simp; omega))); (focus (first | omega | (simp; done) | (simp; omega))); (focus (first | omega | (simp; done) | (simp; omega))); (focus (go_simp; done)); (focus (go_simp; done)); (focus (go_simp; done)); (focus (intro j; go_simp; done)); done)
     | (refine ⟨_, _, g1, c1, w2.heap.size, .slice (some ⟨g2, 0, none⟩) 128 c2, rfl, FS.start4 (hh := w2.heap.size) hF0 HB1.out ?_ ?_ ?_ ?_ ?_ ?_ ?_ ?_ ?_ ?_ ?_ ?_ ?_ ?_ ?_ ?_ ?_, g2, c2, rfl⟩; (with_reducible exact belowKF (B1 := B1) (D := D) (Pp := Pp) (by assumption)); (focus (go_simp; done)); (focus (go_simp; done)); (focus (go_simp; done)); (focus (go_simp; done)); (focus (first | omega | (simp; done) | (simp; omega))); (focus (first | omega | (simp; done) | (simp; omega))); (focus (first | omega | (simp; done) | (simp; omega))); (focus (first | omega | (simp; done) | (simp; omega))); (focus (first | omega | (simp; done) | (simp; omega))); (focus (first | omega | (simp; done) | (simp; omega))); (focus (first | omega | (simp; done) | (simp; omega))); (focus (first | omega | (simp; done) | (simp; omega))); (focus (go_simp; done)); (focus (go_simp; done)); (focus (go_simp; done)); (focus (intro j; go_simp; done)); done)
     | (refine ⟨_, _, g1, c1, w2.heap.size + 1, .slice (some ⟨g2, 0, none⟩) 128 c2, rfl, FS.start4 (hh := w2.heap.size + 1) hF0 HB1.out ?_ ?_ ?_ ?_ ?_ ?_ ?_ ?_ ?_ ?_ ?_ ?_ ?_ ?_ ?_ ?_ ?_, g2, c2, rfl⟩; (with_reducible exact belowKF (B1 := B1) (D := D) (Pp := Pp) (by assumption)); (focus (go_simp; done)); (focus (go_simp; done)); (focus (go_simp; done)); (focus (go_simp; done)); (focus (first | omega | (simp; done) | (simp; omega))); (focus (first | omega | (simp; done) | (simp; omega))); (focus (first | omega | (simp; done) | (simp; omega))); (focus (first | omega | (simp; done) | (simp; omega))); (focus (first | omega | (simp; done) | (simp; omega))); (focus (first | omega | (simp; done) | (simp; omega))); (focus (first | omega | (simp; done) | (simp; omega))); (focus (first | omega | (simp; done) | (simp; omega))); (focus (go_simp; done)); (focus (go_simp; done)); (focus (go_simp; done)); (focus (intro j; go_simp; done)); done)
     | (refine ⟨_, _, g1, c1, W0.heap.size, .slice (some ⟨g2, 0, none⟩) 128 c2, rfl, FS.start4 (hh := W0.heap.size) hF0 HB1.out ?_ ?_ ?_ ?_ ?_ ?_ ?_ ?_ ?_ ?_ ?_ ?_ ?_ ?_ ?_ ?_ ?_, g2, c2, rfl⟩; (with_reducible exact belowKF (B1 := B1) (D := D) (Pp := Pp) (by assumption)); (focus (go_simp; done)); (focus (go_simp; done)); (focus (go_simp; done)); (focus (go_simp; done)); (focus (first | omega | (simp; done) | (simp; omega))); (focus (first | omega | (simp; done) | (simp; omega))); (focus (first | omega | (simp; done) | (simp; omega))); (focus (first | omega | (simp; done) | (simp; omega))); (focus (first | omega | (simp; done) | (simp; omega))); (focus (first | omega | (simp; done) | (simp; omega))); (focus (first | omega | (simp; done) | (simp; omega))); (focus (first | omega | (simp; done) | (simp; omega))); (focus (go_simp; done)); (focus (go_simp; done)); (focus (go_simp; done)); (focus (intro j; go_simp; done)); done)
     | (refine ⟨_, _, g1, c1, W0.heap.size + 1, .slice (some ⟨g2, 0, none⟩) 128 c2, rfl, FS.start4 (hh := W0.heap.size + 1) hF0 HB1.out ?_ ?_ ?_ ?_ ?_ ?_ ?_ ?_ ?_ ?_ ?_ ?_ ?_ ?_ ?_ ?_ ?_, g2, c2, rfl⟩; (with_reducible exact belowKF (B1 := B1) (D := D) (Pp := Pp) (by assumption)); (focus (go_simp; done)); (focus (go_simp; done)); (focus (go_simp; done)); (focus (go_simp; done)); (focus (first | omega | (simp; done) | (simp; omega))); (focus (first | omega | (simp; done) | (simp; omega))); (focus (first | omega | (simp; done) | (simp; omega))); (focus (first | omega | (simp; done) | (simp; omega))); (focus (first | omega | (simp; done) | (simp; omega))); (focus (first | omega | (simp; done) | (simp; omega))); (focus (first | omega | (simp; done) | (simp; omega))); (focus (first | omega | (simp; done) | (simp; omega))); (focus (go_simp; done)); (focus (go_simp; done)); (focus (go_simp; done)); (focus (intro j; go_simp; done)); done)
  case rest =>
    clear b0 b1 b2 hk0 hF0 hT0
    obtain ⟨B0, O, g1, c1, hh, vp, rfl, hS, g2, c2, hvp⟩ := hcut
    subst hvp
    have b1 := hS.b1
    go_wp2_with fail
    clear b1
    go_loopw [4, 31] (fun v4 x wr => ∃ i : Nat, x = .int .i64 i ∧ i ≤ 128 ∧ FS w wr B0 B1 (B1 + 1) O g1 c1 hh D Pp (.slice (some ⟨g2, 0, none⟩) 128 c2) (0, 0) ∧ OrdW wr B0 v4 i) (fun _ x _ => 128 - (kO x).toNat)
    case atStart => exact ⟨0, rfl, by omega, hS, fun _ => ⟨World.ownsRow_nil _ _ _ _, rfl⟩, fun h => by omega⟩
    case round =>
      clear hS
      obtain ⟨i, rfl, hi, hS, hO⟩ := hrel
      by_cases hlt : i < 128
      · have d0 := (hT.below hS.hb).dat i hlt
        have b0 := hS.b0
        by_cases h2 : i = 2
        · subst h2
          have d1 : wr.cell? ⟨D, 2, none⟩ = some (.int .i64 1) := d0
          clear d0
          have hown := (hO.1 (Nat.le_refl _)).1
          have hno := (hO.1 (Nat.le_refl _)).2
          have hB0 : B0 ≤ wr.heap.size := hS.bd.2.2.2.2.2.2.2.2.2.2
          have hsl : SlR (wr.alloc (.cells #[.int .i64 2] 3)) 1 (.slice (some ⟨wr.heap.size, 0, none⟩) 1 1) 1 (ints [2]) :=
            SlR.of_owns (World.ownsRow_lit (base := 0) (e := 3) (size := 1) wr #[.int .i64 2] 1 (Nat.zero_le _) (by simp [maxLen]) rfl)
          go_wp2_with (at_builtin; refine wpList_append_sl rfl _ _ 67 3 rfl 0 (.int .i64 0) 1 8 Tryz.underlying67 info3 rfl (by decide) (by decide) _ 0 [] rfl (hown.alloc _) _ 1 (ints [2]) rfl hsl (ints_one [2]) (by omega) (by omega) ?_; intro v1 w1 hown1 hg1 hat1)
          have hO3 := hO.two hB0 hown1 hat1
          have hb1 : Below wr.heap.size wr w1 := app_below hno hg1
          have hS1 := hS.below hb1
          go_roundw
          case rel => exact ⟨3, rfl, by omega, hS1, hO3⟩
          case measure => simp [kO]
        · by_cases h1 : i = 1
          · subst h1
            have d1 : wr.cell? ⟨D, 1, none⟩ = some (.int .i64 0) := d0
            clear d0
            go_wp2_with fail
            go_roundw
            case rel => exact ⟨2, rfl, by omega, hS, hO.next (by decide)⟩
            case measure => simp [kO]
          · have d1 : wr.cell? ⟨D, i, none⟩ = some (.int .i64 1073741824) := by rw [d0]; unfold dsT; rw [if_neg h2, if_neg h1]; rfl
            clear d0
            have hne : ((i : Int) != 1) = true := by simp; omega
            go_wp2_with fail
            go_roundw
            case rel => exact ⟨i + 1, by go_num, by omega, hS, hO.next h2⟩
            case measure => simp [kO]; omega
      · have hi2 : i = 128 := by omega
        subst hi2
        obtain ⟨hown, hB0⟩ := hO.2 (by decide)
        clear hO
        obtain ⟨q, cq, rfl, _, _⟩ := own_slice (by decide) hown
        have hq : wr.cell? ⟨q, 0, none⟩ = some (.int .i64 2) := by
          obtain ⟨b, off, e, hc⟩ := SlR.int_at (SlR.of_owns hown) 0 (by decide)
          injection e with e
          injection e with e1 e2 _
          subst e1 e2
          simpa using hc
        clear hown
        have hm1 := mk59
        go_wp2_with (first | (go_at_call 49; refine (stable46 _ _ _ _).mono ?_; rintro e w3 ⟨rfl, rfl⟩) | (go_at_call 51; refine (It.New_any _).mono ?_; rintro e w4 ⟨Tt, M, gg, rfl, hb4, htab, hTt, hM, hgg⟩; have b1' := (hS.below hb4).b1; have b1'' := ((hS.below hb4).below ((Below.refl _ w4).alloc (Nat.le_refl _) (.cells #[.pointer (some ⟨Tt, 0, none⟩)] 94))).b1))
        have hG := GS.new hS hq hb4 htab hTt hM hgg
        clear hS hq hb4 htab hTt hM hgg hm1
        generalize w4.heap.size = Z4 at *
        generalize ((w4.alloc _).alloc _).alloc _ = w5 at *
        refine wp_loop_rounds 2 ?_
        rw [rounds_succ]
        have hq := hG.hq
        have b2 := hG.fs.b2
        have hTG := hT.below hG.fs.hb
        obtain ⟨p0, p1⟩ := hTG.pc
        have z5 : Pp < w5.heap.size := World.block_lt_of_cell? _ _ p0
        have z6 : B1 < w5.heap.size := World.block_lt_of_cell? _ _ b2
        go_wp2_with (go_at_call 52; refine (each49 _).mono ?_; rintro e w6 ⟨rfl, hw6⟩)
        clear hq b2 p0 p1 z5 z6 hTG
        have hTab6 := hTab
        rw [← hw6]
        obtain ⟨hb6, k10, k11, x0, x1, s6⟩ := three49 hw6
        have hG6 := hG.below hb6
        have hz10 : Z4 + 3 ≤ w5.heap.size := hG.bd.2.2.2.2.2.2.2.2.2.2.2
        have hTw := hTab.below (hG6.fs.hb)
        clear hw6 hG hTab6
        generalize w5.heap.size = K10 at *
        have hpos : 0 < K10 + 1 := Nat.succ_pos _
        generalize hA : ({ tmps := _, defers := _ } : Act) = A
        refine (wpIn_wide (n := 5)).1 (wpIn_rangeFunc_ownG rfl (by decide) (gf := 72) (lb := #[.pointer (some ⟨K10 + 1 + 1, 0, none⟩)]) (by rw [← hA]; rfl) trivial (enters_of Tryz.func72 (by kernel_rfl) rfl)
          (each_stops1 4 (by decide) (K10 + 1 + 1) (K10 + 1) hpos w6 x0 x1 hTw) belowK_t (belowK_b (by omega)) (Below.refl _ _) (fun _ => rfl)
          (fun pre W => W.heap[K10 + 1]? = some (.cells (allC pre) 28 (0, 0)) ∧ Below (K10 + 1) w6 W) (fun _ _ _ => False)
          (OwnFrom.and (Own.from (obj_own (K10 + 1) allC 28) _) (ownFrom_below (by omega) (by omega))) (fun _ _ _ _ _ hs _ _ => hs) ⟨k11, Below.refl _ _⟩
          (fun x => { tmps := (A.tmps.setIfInBounds 69 (.int .i64 x.1)).setIfInBounds 12 (.int .i64 x.1), defers := [] }) ?assign ?body ?done ?stop)
        case stop => exact fun _ _ _ _ _ _ h _ => h.elim
        case assign =>
          intro l x W K hK
          subst hA
          gi_wp2
          exact hK
        case body =>
          rintro l pre ⟨xv, rfl⟩ W ⟨hob, hbw⟩ hlt
          obtain rfl : pre = [] := List.eq_nil_of_length_eq_zero (by omega)
          have hGW := hG6.frame (hbw.mono (by omega))
          have k10' : W.cell? ⟨K10, 0, none⟩ = some (.int .i64 2) := (hbw.cell (p := ⟨K10, 0, none⟩) (Nat.lt_succ_self _)).trans k10
          have k7 := hGW.k7
          have k8 := hGW.k8
          have i1 := hGW.i1
          have b0 := hGW.fs.b0
          have zk7 : Z4 < W.heap.size := World.block_lt_of_cell? _ _ k7
          have zk8 : Z4 + 1 + 1 < W.heap.size := World.block_lt_of_cell? _ _ k8
          have zi1 : Z4 + 1 < W.heap.size := World.block_lt_of_cell? _ _ i1
          subst hA
          simp only [List.setIfInBounds_toArray, List.set_cons_succ, List.set_cons_zero]
          gi_wp2_with fail
          refine regionIn_inv1 (F18 Tt (Z4 + 1) W.heap.size) (fun w' => Below W.heap.size W w') 108 (by kernel_rfl) (by kernel_rfl) rfl (by decide) ((Below.refl _ W).drew) ?step ?fin
          case step =>
            intro i o ho listed a wv inv hr
            have hC := inv.cls
            have ho' := ho
            have hi : i < 12 := (Array.getElem?_eq_some_iff.1 ho).1
            match i, hi, ho, ho', hr with
            | 0, _, ho, ho', hr =>
              simp only [List.getElem?_toArray, List.getElem?_cons_zero, Option.some.injEq] at ho
              subst ho
              have y7 : a.tmps[7]?.getD undef = .pointer (some ⟨Z4, 0, none⟩) := (eval_opt a 7).trans (inv.slot 7 (by kernel_rfl))
              have k7v := (hC.cell (p := ⟨Z4, 0, none⟩) zk7).trans k7
              exact RS1.value (.pointer (some ⟨Tt, 0, none⟩)) (by go_simp) rfl hC
            | 1, _, ho, ho', hr =>
              simp only [List.getElem?_toArray, List.getElem?_cons_zero, List.getElem?_cons_succ, Option.some.injEq] at ho
              subst ho
              have y8 : a.tmps[8]?.getD undef = .pointer (some ⟨Z4 + 1 + 1, 0, none⟩) := (eval_opt a 8).trans (inv.slot 8 (by kernel_rfl))
              have k8v := (hC.cell (p := ⟨Z4 + 1 + 1, 0, none⟩) zk8).trans k8
              exact RS1.value (sl128 (Z4 + 1)) (by go_simp) rfl hC
            | 2, _, ho, ho', hr =>
              simp only [List.getElem?_toArray, List.getElem?_cons_zero, List.getElem?_cons_succ, Option.some.injEq] at ho
              subst ho
              have y12 : a.tmps[12]?.getD undef = .int .i64 1 := (eval_opt a 12).trans (inv.slot 12 (by kernel_rfl))
              exact RS1.value (.int .i64 1) (by go_simp) rfl hC
            | 3, _, ho, ho', hr =>
              simp only [List.getElem?_toArray, List.getElem?_cons_zero, List.getElem?_cons_succ, Option.some.injEq] at ho
              subst ho
              have x1 : a.tmps[72]?.getD undef = sl128 (Z4 + 1) := (eval_opt a 72).trans (inv.dep ho' hr 1 _ 72 rfl rfl (by kernel_rfl))
              have x2 : a.tmps[73]?.getD undef = .int .i64 1 := (eval_opt a 73).trans (inv.dep ho' hr 2 _ 73 rfl rfl (by kernel_rfl))
              exact RS1.value (.pointer (some ⟨Z4 + 1, 1, none⟩)) (by go_simp) rfl hC
            | 4, _, ho, ho', hr =>
              simp only [List.getElem?_toArray, List.getElem?_cons_zero, List.getElem?_cons_succ, Option.some.injEq] at ho
              subst ho
              have x3 : a.tmps[74]?.getD undef = .pointer (some ⟨Z4 + 1, 1, none⟩) := (eval_opt a 74).trans (inv.dep ho' hr 3 _ 74 rfl rfl (by kernel_rfl))
              have i1v := (hC.cell (p := ⟨Z4 + 1, 1, none⟩) zi1).trans i1
              exact RS1.value (.int .i64 0) (by go_simp) rfl hC
            | 5, _, ho, ho', hr =>
              simp only [List.getElem?_toArray, List.getElem?_cons_zero, List.getElem?_cons_succ, Option.some.injEq] at ho
              subst ho
              have x0 : a.tmps[71]?.getD undef = .pointer (some ⟨Tt, 0, none⟩) := (eval_opt a 71).trans (inv.dep ho' hr 0 _ 71 rfl rfl (by kernel_rfl))
              have x4 : a.tmps[75]?.getD undef = .int .i64 0 := (eval_opt a 75).trans (inv.dep ho' hr 4 _ 75 rfl rfl (by kernel_rfl))
              refine RS1.call (f := 53) (args := #[.pointer (some ⟨Tt, 0, none⟩), .int .i64 0]) (by go_simp) (set50 (hGW.tab.below hC)) ?_
              rintro e w' ⟨rfl, hb⟩
              exact ⟨_, rfl, rfl, F18.below hb, hC.trans (hb.mono hC.size)⟩
            | 6, _, ho, ho', hr =>
              simp only [List.getElem?_toArray, List.getElem?_cons_zero, List.getElem?_cons_succ, Option.some.injEq] at ho
              subst ho
              have x5 : a.tmps[76]?.getD undef = .tuple #[.agg #[.int .u64 0, .int .u64 0], .int .i64 0] := (eval_opt a 76).trans (inv.dep ho' hr 5 _ 76 rfl rfl (by kernel_rfl))
              exact RS1.value (.tuple #[.agg #[.int .u64 0, .int .u64 0], .int .i64 0]) (by go_simp) rfl hC
            | 7, _, ho, ho', hr =>
              simp only [List.getElem?_toArray, List.getElem?_cons_zero, List.getElem?_cons_succ, Option.some.injEq] at ho
              subst ho
              have x6 : a.tmps[70]?.getD undef = .tuple #[.agg #[.int .u64 0, .int .u64 0], .int .i64 0] := (eval_opt a 70).trans (inv.dep ho' hr 6 _ 70 rfl rfl (by kernel_rfl))
              exact RS1.value (.agg #[.int .u64 0, .int .u64 0]) (by go_simp) rfl hC
            | 8, _, ho, ho', hr =>
              simp only [List.getElem?_toArray, List.getElem?_cons_zero, List.getElem?_cons_succ, Option.some.injEq] at ho
              subst ho
              have x6 : a.tmps[70]?.getD undef = .tuple #[.agg #[.int .u64 0, .int .u64 0], .int .i64 0] := (eval_opt a 70).trans (inv.dep ho' hr 6 _ 70 rfl rfl (by kernel_rfl))
              exact RS1.value (.int .i64 0) (by go_simp) rfl hC
            | 9, _, ho, ho', hr =>
              simp only [List.getElem?_toArray, List.getElem?_cons_zero, List.getElem?_cons_succ, Option.some.injEq] at ho
              subst ho
              have hA := (Below.refl _ wv).alloc (Nat.le_refl _) (.cells #[.int .u64 0, .int .u64 0] 28)
              exact RS1.value' (w' := wv.alloc (.cells #[.int .u64 0, .int .u64 0] 28)) (.pointer (some ⟨wv.heap.size, 0, none⟩)) (by go_simp) ⟨wv.heap.size, _, _, rfl, hC.size, box_new wv _ _ 0 _ rfl, box_new wv _ _ 1 _ rfl, free_new wv _ _ _, free_new wv _ _ _⟩ (F18.below hA) (hC.trans (hA.mono hC.size))
            | 10, _, ho, ho', hr =>
              simp only [List.getElem?_toArray, List.getElem?_cons_zero, List.getElem?_cons_succ, Option.some.injEq] at ho
              subst ho
              obtain ⟨A, x, y, x9, hA, ha0, ha1, hf0, hf1⟩ : F18 Tt (Z4 + 1) W.heap.size 9 (a.eval (.tmp 13)) wv := inv.dep ho' hr 9 _ 13 rfl rfl (by kernel_rfl)
              have x7 : a.tmps[77]?.getD undef = .agg #[.int .u64 0, .int .u64 0] := (eval_opt a 77).trans (inv.dep ho' hr 7 _ 77 rfl rfl (by kernel_rfl))
              have x9' : a.tmps[13]?.getD undef = .pointer (some ⟨A, 0, none⟩) := (eval_opt a 13).trans x9
              have ha1' := (World.cell?_setCell_other wv ⟨A, 0, none⟩ ⟨A, 1, none⟩ (.int .u64 0) (by simp)).trans ha1
              refine RS1.skip (w' := (wv.setCell ⟨A, 0, none⟩ (.int .u64 0)).setCell ⟨A, 1, none⟩ (.int .u64 0)) (by go_simp) rfl (F18.mono (fun B i z hz => ?_) (fun B i hB hz => by rw [World.frozen?_setCell, World.frozen?_setCell]; exact hz)) ((hC.setCell (show W.heap.size ≤ A from hA) _).setCell (show W.heap.size ≤ A from hA) _)
              obtain ⟨z1, hz1⟩ := Hp.cell_some (p := ⟨A, 0, none⟩) (x := .int .u64 0) hz
              exact Hp.cell_some (p := ⟨A, 1, none⟩) (x := .int .u64 0) hz1
            | 11, _, ho, ho', hr =>
              simp only [List.getElem?_toArray, List.getElem?_cons_zero, List.getElem?_cons_succ, Option.some.injEq] at ho
              subst ho
              have x8 : a.tmps[78]?.getD undef = .int .i64 0 := (eval_opt a 78).trans (inv.dep ho' hr 8 _ 78 rfl rfl (by kernel_rfl))
              exact RS1.value (.int .i64 0) (by go_simp) rfl hC
            | n + 12, hi, _, _, _ => omega
          case fin =>
            intro f w8 hφ hC8
            obtain ⟨A, x, y, e13, hA, ha0, ha1, hf0, hf1⟩ : F18 Tt (Z4 + 1) W.heap.size 9 (f 13) w8 := hφ 9 _ 13 rfl rfl
            have e12 := hφ 2 _ 73 rfl rfl
            simp only [putsL, Act.put, List.setIfInBounds_toArray, List.set_cons_succ, List.set_cons_zero]
            rw [e13]
            have k10v := (hC8.cell (p := ⟨K10, 0, none⟩) (World.block_lt_of_cell? _ _ k10')).trans k10'
            have b0v := (hC8.cell (p := ⟨B1, 0, none⟩) (World.block_lt_of_cell? _ _ b0)).trans b0
            have r0 : W.cell? ⟨K10 + 1, 0, none⟩ = some (.int .u64 0) := cell_at hob rfl
            have r1 : W.cell? ⟨K10 + 1, 1, none⟩ = some (.int .u64 0) := cell_at hob rfl
            have rf0 : W.frozen? ⟨K10 + 1, 0, none⟩ = false := free_at hob
            have rf1 : W.frozen? ⟨K10 + 1, 1, none⟩ = false := free_at hob
            have zr : K10 + 1 < W.heap.size := World.block_lt_of_cell? _ _ r0
            gi_wp2_with fail
            refine ⟨trivial, ?_⟩
            refine (CallsIn.inRound l (callsIn_wide.2 (of36 (Bs.one_row 2 w8 _ rfl)))).mono ?_
            rintro e w9 ⟨rfl, hb9⟩
            dsimp only
            have h89 : Below w8.heap.size w8 w9 := ((Below.refl _ w8).alloc (Nat.le_refl _) _).trans (hb9.mono (by simp))
            have hC9 := hC8.trans (h89.mono hC8.size)
            have a0 := (h89.cell (World.block_lt_of_cell? _ _ ha0)).trans ha0
            have a1 := (h89.cell (World.block_lt_of_cell? _ _ ha1)).trans ha1
            have zA : A < w8.heap.size := World.block_lt_of_cell? _ _ ha0
            have af0 := (h89.frozen (p := ⟨A, 0, none⟩) zA).trans hf0
            have af1 := (h89.frozen (p := ⟨A, 1, none⟩) zA).trans hf1
            have q0 := (hC9.cell (p := ⟨K10 + 1, 0, none⟩) zr).trans r0
            have q1 := (hC9.cell (p := ⟨K10 + 1, 1, none⟩) zr).trans r1
            have qf0 := (hC9.frozen (p := ⟨K10 + 1, 0, none⟩) zr).trans rf0
            have qf1 := (hC9.frozen (p := ⟨K10 + 1, 1, none⟩) zr).trans rf1
            have hobb := (hC9.block (K10 + 1) zr).trans hob
            have hAW : K10 + 1 < A := by omega
            have neA : A ≠ K10 + 1 := by omega
            have a1' := (World.cell?_setCell_other w9 ⟨A, 0, none⟩ ⟨A, 1, none⟩ (.int .u64 4) (by simp)).trans a1
            clear hb9 ha0 ha1 hf0 hf1 k10v b0v r0 r1 rf0 rf1
            gi_wp2_with fail
            refine ⟨trivial, ?_⟩
            refine (CallsIn.inRound l (callsIn_wide.2 (or25 _))).mono ?_
            rintro e w11 ⟨rfl, hb11⟩
            dsimp only
            have hk10 : KeepsOthers W ((w9.setCell ⟨A, 0, none⟩ (.int .u64 4)).setCell ⟨A, 1, none⟩ (.int .u64 0)) := ((keeps_below hC9).trans (KeepsOthers.setCell _ _ _)).trans (KeepsOthers.setCell _ _ _)
            have hbA : Below (K10 + 1) W ((w9.setCell ⟨A, 0, none⟩ (.int .u64 4)).setCell ⟨A, 1, none⟩ (.int .u64 0)) := (((hC9.mono (Nat.le_of_lt zr)).setCell (show K10 + 1 ≤ A by omega) _).setCell (show K10 + 1 ≤ A by omega) _)
            have hob10 : ((w9.setCell ⟨A, 0, none⟩ (.int .u64 4)).setCell ⟨A, 1, none⟩ (.int .u64 0)).heap[K10 + 1]? = some (.cells (allC []) 28 (0, 0)) := by
              rw [Below.heap_setCell _ _ _ _ (Ne.symm neA.symm.symm), Below.heap_setCell _ _ _ _ (Ne.symm neA.symm.symm)]; exact hobb
            have hob11 := (hb11.block (K10 + 1) (Array.getElem?_eq_some_iff.1 hob10).1).trans hob10
            have hk11 := hk10.trans (keeps_below hb11)
            have hbB : Below (K10 + 1) W w11 := hbA.trans (hb11.mono (by have := (Array.getElem?_eq_some_iff.1 hob10).1; omega))
            have o0 : w11.cell? ⟨K10 + 1, 0, none⟩ = some (.int .u64 0) := cell_at hob11 rfl
            have o1 : w11.cell? ⟨K10 + 1, 1, none⟩ = some (.int .u64 0) := cell_at hob11 rfl
            have of0 : w11.frozen? ⟨K10 + 1, 0, none⟩ = false := free_at hob11
            have of1 : w11.frozen? ⟨K10 + 1, 1, none⟩ = false := free_at hob11
            have o1' := (World.cell?_setCell_other w11 ⟨K10 + 1, 0, none⟩ ⟨K10 + 1, 1, none⟩ (.int .u64 4) (by simp)).trans o1
            clear hb11 hob10 hbA hk10 a0 a1 a1' af0 af1 q0 q1 qf0 qf1
            gi_wp2_with fail
            have hE : ((w11.setCell ⟨K10 + 1, 0, none⟩ (.int .u64 4)).setCell ⟨K10 + 1, 1, none⟩ (.int .u64 0)).heap[K10 + 1]? = some (.cells (allC ([] ++ [⟨1, rfl⟩])) 28 (0, 0)) := by
              rw [It.heap_setCell_at _ _ _ _ _ _ _ (It.heap_setCell_at _ _ _ _ _ _ _ hob11)]
              rfl
            have hbC := (hbB.setCell (show K10 + 1 ≤ K10 + 1 from Nat.le_refl _) (.int .u64 4) (p := ⟨K10 + 1, 0, none⟩)).setCell (show K10 + 1 ≤ K10 + 1 from Nat.le_refl _) (.int .u64 0) (p := ⟨K10 + 1, 1, none⟩)
            exact ⟨((hk11.trans (KeepsOthers.setCell _ _ _)).trans (KeepsOthers.setCell _ _ _)).from _, hbC, hE, hbw.trans hbC⟩
        case done =>
          rintro Dd ys W hDd hys ⟨hob, hbw⟩ hKd
          have hGW := hG6.frame (hbw.mono (by omega))
          have k10' : W.cell? ⟨K10, 0, none⟩ = some (.int .i64 2) := (hbw.cell (p := ⟨K10, 0, none⟩) (Nat.lt_succ_self _)).trans k10
          have hall : allC ys = #[.int .u64 4, .int .u64 0] := by unfold allC; rw [if_neg (by omega)]
          rw [hall] at hob
          have q0 : W.cell? ⟨K10 + 1, 0, none⟩ = some (.int .u64 4) := cell_at hob rfl
          have q1 : W.cell? ⟨K10 + 1, 1, none⟩ = some (.int .u64 0) := cell_at hob rfl
          have k7 := hGW.k7
          have k8 := hGW.k8
          obtain ⟨b1a, b2a, b3a, b4a, b5a, b6a, b7a, b8a, b9a, b10a, b11a, b12a⟩ := hGW.bd
          subst hA
          go_wp2_with fail
          obtain ⟨xi, hxi⟩ := hGW.i2
          have ziW : Z4 + 1 < W.heap.size := World.block_lt_of_cell? _ _ hxi
          refine region_inv (F22 Tt (Z4 + 1)) (fun w' => Below W.heap.size W w') (fun w' => Keep (fun k => k = Tt ∨ k = M ∨ k = gg ∨ k = Z4 + 1) W w' ∧ (∃ z, w'.cell? ⟨Z4 + 1, 2, none⟩ = some z) ∧ w'.frozen? ⟨Z4 + 1, 2, none⟩ = false) 4 108 (by kernel_rfl) (by kernel_rfl) rfl (by decide) ((Below.refl _ W).drew) ?step ?fin
          case step =>
            intro i o ho listed a wv inv hr
            have hE := inv.common (E := fun w' => Keep (fun k => k = Tt ∨ k = M ∨ k = gg ∨ k = Z4 + 1) W w') (fun h => Keep.of_below h) (fun h => h.1)
            have ho' := ho
            have hi : i < 10 := (Array.getElem?_eq_some_iff.1 ho).1
            match i, hi, ho, ho', hr with
            | 0, _, ho, ho', hr =>
                simp only [List.getElem?_toArray, List.getElem?_cons_zero, Option.some.injEq] at ho
                subst ho
                have y8 : a.tmps[8]?.getD undef = .pointer (some ⟨Z4 + 1 + 1, 0, none⟩) := (eval_opt a 8).trans (inv.slot 8 (by kernel_rfl))
                have k8v := hE.cell k8 (by show ¬ (Z4 + 1 + 1 = Tt ∨ Z4 + 1 + 1 = M ∨ Z4 + 1 + 1 = gg ∨ Z4 + 1 + 1 = Z4 + 1); omega)
                exact RStep.value inv (by decide) (sl128 (Z4 + 1)) (by go_simp) rfl
            | 1, _, ho, ho', hr =>
                simp only [List.getElem?_toArray, List.getElem?_cons_zero, List.getElem?_cons_succ, Option.some.injEq] at ho
                subst ho
                have y10 : a.tmps[10]?.getD undef = .pointer (some ⟨K10, 0, none⟩) := (eval_opt a 10).trans (inv.slot 10 (by kernel_rfl))
                have k10v := hE.cell k10' (by show ¬ (K10 = Tt ∨ K10 = M ∨ K10 = gg ∨ K10 = Z4 + 1); omega)
                exact RStep.value inv (by decide) (.int .i64 2) (by go_simp) rfl
            | 2, _, ho, ho', hr =>
                simp only [List.getElem?_toArray, List.getElem?_cons_zero, List.getElem?_cons_succ, Option.some.injEq] at ho
                subst ho
                have y7 : a.tmps[7]?.getD undef = .pointer (some ⟨Z4, 0, none⟩) := (eval_opt a 7).trans (inv.slot 7 (by kernel_rfl))
                have k7v := hE.cell k7 (by show ¬ (Z4 = Tt ∨ Z4 = M ∨ Z4 = gg ∨ Z4 = Z4 + 1); omega)
                exact RStep.value inv (by decide) (.pointer (some ⟨Tt, 0, none⟩)) (by go_simp) rfl
            | 3, _, ho, ho', hr =>
                simp only [List.getElem?_toArray, List.getElem?_cons_zero, List.getElem?_cons_succ, Option.some.injEq] at ho
                subst ho
                have y11 : a.tmps[11]?.getD undef = .pointer (some ⟨K10 + 1, 0, none⟩) := (eval_opt a 11).trans (inv.slot 11 (by kernel_rfl))
                have k0v := hE.cell q0 (by show ¬ (K10 + 1 = Tt ∨ K10 + 1 = M ∨ K10 + 1 = gg ∨ K10 + 1 = Z4 + 1); omega)
                have k1v := hE.cell q1 (by show ¬ (K10 + 1 = Tt ∨ K10 + 1 = M ∨ K10 + 1 = gg ∨ K10 + 1 = Z4 + 1); omega)
                exact RStep.value inv (by decide) (.agg #[.int .u64 4, .int .u64 0]) (by go_simp) rfl
            | 4, _, ho, ho', hr =>
                simp only [List.getElem?_toArray, List.getElem?_cons_zero, List.getElem?_cons_succ, Option.some.injEq] at ho
                subst ho
                have x2 : a.tmps[95]?.getD undef = .pointer (some ⟨Tt, 0, none⟩) := (eval_opt a 95).trans (inv.dep ho' hr 2 _ 95 rfl rfl (by kernel_rfl))
                have x3 : a.tmps[96]?.getD undef = .agg #[.int .u64 4, .int .u64 0] := (eval_opt a 96).trans (inv.dep ho' hr 3 _ 96 rfl rfl (by kernel_rfl))
                have hCv := inv.ahead hr
                refine RStep.call (f := 54) (args := #[.pointer (some ⟨Tt, 0, none⟩), .agg #[.int .u64 4, .int .u64 0]]) (by go_simp) (id51 (hGW.tab.below hCv)) ?_
                rintro e w' ⟨rfl, hk⟩
                exact ⟨_, rfl, rfl, F22.any, (Keep.of_below hCv).trans (hk.mono (fun k _ h => by rcases h with h | h | h; exact .inl h; exact .inr (.inl h); exact .inr (.inr (.inl h)))), ⟨xi, hk.cell ((hCv.cell (World.block_lt_of_cell? _ _ hxi)).trans hxi) (by show ¬ (Z4 + 1 = Tt ∨ Z4 + 1 = M ∨ Z4 + 1 = gg); omega)⟩, hk.unfrozen (Nat.lt_of_lt_of_le ziW hCv.size) ((hCv.frozen (p := ⟨Z4 + 1, 2, none⟩) ziW).trans (hGW.fi 2)) (by show ¬ (Z4 + 1 = Tt ∨ Z4 + 1 = M ∨ Z4 + 1 = gg); omega)⟩
            | 5, _, ho, ho', hr =>
                simp only [List.getElem?_toArray, List.getElem?_cons_zero, List.getElem?_cons_succ, Option.some.injEq] at ho
                subst ho
                have x4 : a.tmps[97]?.getD undef = .tuple #[.int .i64 1, .int .i64 0] := (eval_opt a 97).trans (inv.dep ho' hr 4 _ 97 rfl rfl (by kernel_rfl))
                exact RStep.value inv (by decide) (.tuple #[.int .i64 1, .int .i64 0]) (by go_simp) rfl
            | 6, _, ho, ho', hr =>
                simp only [List.getElem?_toArray, List.getElem?_cons_zero, List.getElem?_cons_succ, Option.some.injEq] at ho
                subst ho
                have x5 : a.tmps[92]?.getD undef = .tuple #[.int .i64 1, .int .i64 0] := (eval_opt a 92).trans (inv.dep ho' hr 5 _ 92 rfl rfl (by kernel_rfl))
                exact RStep.value inv (by decide) (.int .i64 1) (by go_simp) rfl
            | 7, _, ho, ho', hr =>
                simp only [List.getElem?_toArray, List.getElem?_cons_zero, List.getElem?_cons_succ, Option.some.injEq] at ho
                subst ho
                have x5 : a.tmps[92]?.getD undef = .tuple #[.int .i64 1, .int .i64 0] := (eval_opt a 92).trans (inv.dep ho' hr 5 _ 92 rfl rfl (by kernel_rfl))
                exact RStep.value inv (by decide) (.int .i64 0) (by go_simp) rfl
            | 8, _, ho, ho', hr =>
                simp only [List.getElem?_toArray, List.getElem?_cons_zero, List.getElem?_cons_succ, Option.some.injEq] at ho
                subst ho
                have x0 : a.tmps[93]?.getD undef = sl128 (Z4 + 1) := (eval_opt a 93).trans (inv.dep ho' hr 0 _ 93 rfl rfl (by kernel_rfl))
                have x1 : a.tmps[94]?.getD undef = .int .i64 2 := (eval_opt a 94).trans (inv.dep ho' hr 1 _ 94 rfl rfl (by kernel_rfl))
                exact RStep.value inv (by decide) (.pointer (some ⟨Z4 + 1, 2, none⟩)) (by go_simp) rfl
            | 9, _, ho, ho', hr =>
                simp only [List.getElem?_toArray, List.getElem?_cons_zero, List.getElem?_cons_succ, Option.some.injEq] at ho
                subst ho
                have x8 : a.tmps[100]?.getD undef = .pointer (some ⟨Z4 + 1, 2, none⟩) := (eval_opt a 100).trans (inv.dep ho' hr 8 _ 100 rfl rfl (by kernel_rfl))
                have x6 : a.tmps[98]?.getD undef = .int .i64 1 := (eval_opt a 98).trans (inv.dep ho' hr 6 _ 98 rfl rfl (by kernel_rfl))
                have hl := ready_flag ho' hr 4 (by kernel_rfl)
                have hDv := inv.behind hl
                obtain ⟨hKv, ⟨z, hz⟩, hfz⟩ := hDv
                exact RStep.skip hl (w' := wv.setCell ⟨Z4 + 1, 2, none⟩ (.int .i64 1)) (by go_simp) rfl F22.any ⟨hKv.setCell ⟨Z4 + 1, 2, none⟩ _ (.inl (.inr (.inr (.inr rfl)))), ⟨_, World.cell?_setCell_same _ _ _ hz⟩, by rw [World.frozen?_setCell]; exact hfz⟩
            | n + 10, hi, _, _, _ => omega
          case fin =>
            intro f w12 hφ hD12
            simp only [putsL, Act.put, List.setIfInBounds_toArray, List.set_cons_succ, List.set_cons_zero]
            obtain ⟨hK12, _, _⟩ := hD12
            have hF12 := hGW.fs.keep hK12 (fun i hi => by rcases hi with rfl | rfl | rfl | rfl <;> omega)
            have k10v := hK12.cell k10' (by show ¬ (K10 = Tt ∨ K10 = M ∨ K10 = gg ∨ K10 = Z4 + 1); omega)
            have k0v := hK12.cell q0 (by show ¬ (K10 + 1 = Tt ∨ K10 + 1 = M ∨ K10 + 1 = gg ∨ K10 + 1 = Z4 + 1); omega)
            have k1v := hK12.cell q1 (by show ¬ (K10 + 1 = Tt ∨ K10 + 1 = M ∨ K10 + 1 = gg ∨ K10 + 1 = Z4 + 1); omega)
            have hKd12 := hK12.obj hKd (by show ¬ (Dd = Tt ∨ Dd = M ∨ Dd = gg ∨ Dd = Z4 + 1); omega)
            have o3 := hF12.o3
            have h0 := hF12.h0
            have h1 := hF12.h1
            have hf4 := hF12.hf 4
            have hf5 := hF12.hf 5
            have h1' := (World.cell?_setCell_other w12 ⟨hh, 4, none⟩ ⟨hh, 5, none⟩ (.int .u64 4) (by simp)).trans h1
            go_wp2_with fail
            have k13 : Keep (fun i => i = hh) w12 ((w12.setCell ⟨hh, 4, none⟩ (.int .u64 4)).setCell ⟨hh, 5, none⟩ (.int .u64 0)) := ((Keep.refl (fun i => i = hh) w12).setCell ⟨hh, 4, none⟩ _ (.inl rfl)).setCell ⟨hh, 5, none⟩ _ (.inl rfl)
            obtain ⟨n1, n2, n3, n4, n5, n6, n7⟩ := hF12.ne
            obtain ⟨d1, d2, d3, d4, d5, d6, d7, d8, d9, d10, d11⟩ := hF12.bd
            have e4 : ((w12.setCell ⟨hh, 4, none⟩ (.int .u64 4)).setCell ⟨hh, 5, none⟩ (.int .u64 0)).cell? ⟨hh, 4, none⟩ = some (.int .u64 4) := (World.cell?_setCell_other _ ⟨hh, 5, none⟩ ⟨hh, 4, none⟩ _ (by simp)).trans (World.cell?_setCell_same _ _ _ h0)
            have e5 : ((w12.setCell ⟨hh, 4, none⟩ (.int .u64 4)).setCell ⟨hh, 5, none⟩ (.int .u64 0)).cell? ⟨hh, 5, none⟩ = some (.int .u64 0) := World.cell?_setCell_same _ _ _ h1'
            have p0 := k13.cell hF12.o0 (Ne.symm n3)
            have p1 := k13.cell hF12.o1 (Ne.symm n3)
            have p2 := k13.cell hF12.o2 (Ne.symm n3)
            have p3 := k13.cell hF12.o3 (Ne.symm n3)
            have pg := k13.cell hF12.gd (Ne.symm n4)
            have pr : ∀ j, j < 4 → ∃ v, ((w12.setCell ⟨hh, 4, none⟩ (.int .u64 4)).setCell ⟨hh, 5, none⟩ (.int .u64 0)).cell? ⟨B1 + 1, j, none⟩ = some v := fun j hj => by obtain ⟨v, e⟩ := hF12.r j hj; exact ⟨v, k13.cell e (Ne.symm n2)⟩
            have prf : ∀ j, ((w12.setCell ⟨hh, 4, none⟩ (.int .u64 4)).setCell ⟨hh, 5, none⟩ (.int .u64 0)).frozen? ⟨B1 + 1, j, none⟩ = false := fun j => by rw [World.frozen?_setCell, World.frozen?_setCell]; exact hF12.rf j
            have hb13 : Below w.heap.size w ((w12.setCell ⟨hh, 4, none⟩ (.int .u64 4)).setCell ⟨hh, 5, none⟩ (.int .u64 0)) := (hF12.hb.setCell (show w.heap.size ≤ hh from d5) _).setCell (show w.heap.size ≤ hh from d5) _
            have hKd13 := k13.obj hKd12 (by omega)
            clear o3 h0 h1 hf4 hf5 h1' k10v k0v k1v k13
            generalize (w12.setCell ⟨hh, 4, none⟩ (.int .u64 4)).setCell ⟨hh, 5, none⟩ (.int .u64 0) = w13 at *
            obtain ⟨v0, r0⟩ := pr 0 (by decide)
            obtain ⟨v1, r1⟩ := pr 1 (by decide)
            obtain ⟨v2, r2⟩ := pr 2 (by decide)
            obtain ⟨v3, r3⟩ := pr 3 (by decide)
            have rf0 := prf 0
            have rf1 := prf 1
            have rf2 := prf 2
            have rf3 := prf 3
            rw [rounds_succ]
            go_wp2_with fail
            obtain ⟨z0, z1, z2, z3⟩ := set4_cells (.int .i64 1) (.slice (some ⟨g1, 0, none⟩) 128 c1) (.slice (some ⟨g2, 0, none⟩) 128 c2) (sl128 hh) pr
            have k14 : Keep (fun i => i = B1 + 1) w13 ((((w13.setCell ⟨B1 + 1, 0, none⟩ (.int .i64 1)).setCell ⟨B1 + 1, 1, none⟩ (.slice (some ⟨g1, 0, none⟩) 128 c1)).setCell ⟨B1 + 1, 2, none⟩ (.slice (some ⟨g2, 0, none⟩) 128 c2)).setCell ⟨B1 + 1, 3, none⟩ (sl128 hh)) :=
              ((((Keep.refl (fun i => i = B1 + 1) w13).setCell ⟨B1 + 1, 0, none⟩ _ (.inl rfl)).setCell ⟨B1 + 1, 1, none⟩ _ (.inl rfl)).setCell ⟨B1 + 1, 2, none⟩ _ (.inl rfl)).setCell ⟨B1 + 1, 3, none⟩ _ (.inl rfl)
            have hKf := k14.obj hKd13 (by omega)
            have y4 := k14.cell e4 n2
            have y5 := k14.cell e5 n2
            have yg := k14.cell pg (Ne.symm n7)
            have hbf : Below w.heap.size w ((((w13.setCell ⟨B1 + 1, 0, none⟩ (.int .i64 1)).setCell ⟨B1 + 1, 1, none⟩ (.slice (some ⟨g1, 0, none⟩) 128 c1)).setCell ⟨B1 + 1, 2, none⟩ (.slice (some ⟨g2, 0, none⟩) 128 c2)).setCell ⟨B1 + 1, 3, none⟩ (sl128 hh)) :=
              (((hb13.setCell (show w.heap.size ≤ B1 + 1 from d2) _).setCell (show w.heap.size ≤ B1 + 1 from d2) _).setCell (show w.heap.size ≤ B1 + 1 from d2) _).setCell (show w.heap.size ≤ B1 + 1 from d2) _
            change bodyPostM _ _ _ _ _ _ _ ((((w13.setCell ⟨B1 + 1, 0, none⟩ (.int .i64 1)).setCell ⟨B1 + 1, 1, none⟩ (.slice (some ⟨g1, 0, none⟩) 128 c1)).setCell ⟨B1 + 1, 2, none⟩ (.slice (some ⟨g2, 0, none⟩) 128 c2)).setCell ⟨B1 + 1, 3, none⟩ (sl128 hh))
            generalize (((w13.setCell ⟨B1 + 1, 0, none⟩ (.int .i64 1)).setCell ⟨B1 + 1, 1, none⟩ (.slice (some ⟨g1, 0, none⟩) 128 c1)).setCell ⟨B1 + 1, 2, none⟩ (.slice (some ⟨g2, 0, none⟩) 128 c2)).setCell ⟨B1 + 1, 3, none⟩ (sl128 hh) = w14 at *
            refine ⟨by simp, .inl ⟨_, _, rfl, run_takeDeferred hKf, ?_⟩⟩
            have ck : ∀ {p : Addr} {v : Value}, w14.cell? p = some v → (w14.putObj Dd (.deferred none)).cell? p = some v := fun h => cell_kept h (grownBy_putObj' w14 Dd _) (fun r e => by cases e; exact ⟨_, hKf, rfl⟩)
            refine ⟨_, res34 _ _ (B1 + 1) _ _ _ _ rfl (ck z0) (ck z1) (ck z2) (ck z3), ?_⟩
            exact ⟨g1, c1, hh, g2, c2, rfl, hbf.trans (belowK_b (w := w) (Nat.le_refl _) _ Dd _ _ (by omega) hKf rfl rfl), ck yg, ck y4, ck y5⟩
end Go.Proofs.YtpebpfaecdmabaaGreatDoor
