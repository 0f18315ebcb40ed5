/- The store: its state; Now, find. -/
import Derived.Test.YtcgjkllgfdgmeaaF
namespace Go.Proofs.Ytcgjkllgfdgmeaa
open Go.RowKit

/-- A store S at generation now: what it keeps reads as the generations G. -/
structure ST (w0 wr : World) (S now : Nat) (ring : Nat → Value) (G : Nat → List Nat) : Prop where
  hb : Below w0.heap.size w0 wr
  hS : w0.heap.size ≤ S
  lt : S < wr.heap.size
  c : ∀ r, r < 8 → wr.cell? ⟨S, r * 3, none⟩ = some (ring r)
  c1 : ∀ r, r < 8 → wr.cell? ⟨S, r * 3 + 1, none⟩ = some (.slice none 0 0)
  c2 : ∀ r, r < 8 → wr.cell? ⟨S, r * 3 + 2, none⟩ = some (.slice none 0 0)
  n : wr.cell? ⟨S, 24, none⟩ = some (.int .i64 now)
  f : ∀ j, wr.frozen? ⟨S, j, none⟩ = false
  g : ∀ k, k ≤ now → now < k + 8 → NS wr (ring (k % 8)) (G k)
  d : ∀ r, r < 8 → (ring r).ownBlock ≠ some S
theorem ST.below {w0 wr w2 : World} {S now : Nat} {ring : Nat → Value} {G : Nat → List Nat} (h : ST w0 wr S now ring G) (b : Below wr.heap.size wr w2) : ST w0 w2 S now ring G :=
  have hx : ∀ {x : Nat} {i : Nat} {u : Value}, wr.cell? ⟨x, i, none⟩ = some u → w2.cell? ⟨x, i, none⟩ = some u := fun e => (b.cell (World.block_lt_of_cell? wr _ e)).trans e
  ⟨h.hb.trans (b.mono h.hb.size), h.hS, Nat.lt_of_lt_of_le h.lt b.size, fun r hr => hx (h.c r hr), fun r hr => hx (h.c1 r hr), fun r hr => hx (h.c2 r hr), hx h.n, fun j => (b.frozen (p := ⟨S, j, none⟩) h.lt).trans (h.f j), fun k h1 h2 => (h.g k h1 h2).below b, h.d⟩
theorem Now_any {w0 w : World} {S now : Nat} {ring : Nat → Value} {G : Nat → List Nat} (h : ST w0 w S now ring G) : Calls Try.prog 8 #[.pointer (some ⟨S, 0, none⟩)] w fun e w' => e = .returned (.int .i64 now) ∧ w = w' := by
  have n := h.n
  go_enter Try.func8, Try.ntmps8
  go_wp2
  go_ret
  exact ⟨rfl, rfl⟩
set_option maxHeartbeats 4000000 in
set_option maxRecDepth 100000 in
theorem find_kept {w0 w : World} {S now : Nat} {ring : Nat → Value} {G : Nat → List Nat} (h : ST w0 w S now ring G) (k : Nat) (h1 : k ≤ now) (h2 : now < k + 8) (hn : now ≤ 1000) :
    Calls Try.prog 10 #[.pointer (some ⟨S, 0, none⟩), .int .i64 k] w fun e w' => e = .returned (.tuple #[.agg #[ring (k % 8), .slice none 0 0, .slice none 0 0], .int .i64 0]) ∧ Below w.heap.size w w' := by
  have n := h.n
  have hA := (Below.refl _ w).alloc (Nat.le_refl _) (.cells #[.slice none 0 0, .slice none 0 0, .slice none 0 0] 30)
  have hT := h.below hA
  have n2 := hT.n
  have hk8 : k % 8 < 8 := Nat.mod_lt _ (by decide)
  have q0 := hT.c (k % 8) hk8
  have q1 := hT.c1 (k % 8) hk8
  have q2 := hT.c2 (k % 8) hk8
  have f := hT.f
  have r0 := box_new w #[.slice none 0 0, .slice none 0 0, .slice none 0 0] 30 0 _ rfl
  have r1 := box_new w #[.slice none 0 0, .slice none 0 0, .slice none 0 0] 30 1 _ rfl
  have r2 := box_new w #[.slice none 0 0, .slice none 0 0, .slice none 0 0] 30 2 _ rfl
  have rf := fun j => free_new w #[.slice none 0 0, .slice none 0 0, .slice none 0 0] 30 j
  obtain ⟨a3, cp3, hv, _, _⟩ := (h.g k h1 h2).form
  rw [hv] at q0 ⊢
  clear hT
  have e1 : decide ((k : Int) < 0) = false := by simp
  have e2 : decide ((k : Int) > now) = false := by simp; omega
  have e3 : decide ((k : Int) ≤ (now : Int) - 8) = false := by simp; omega
  have e4 : (k : Int).tmod 8 = ((k % 8 : Nat) : Int) := by rw [Int.tmod_eq_emod_of_nonneg (by omega)]; omega
  go_enter Try.func10, Try.ntmps10
  go_wp2_with fail
  exact bodyPost_ret (res10 _ _ w.heap.size _ _ _ _ rfl rfl (box_new _ _ _ _ _ rfl) (box_new _ _ _ _ _ rfl) (box_new _ _ _ _ _ rfl)) rfl ⟨rfl, (Below.refl _ w).alloc (Nat.le_refl _) _⟩
set_option maxHeartbeats 4000000 in
set_option maxRecDepth 100000 in
theorem find_old {w0 w : World} {S now : Nat} {ring : Nat → Value} {G : Nat → List Nat} (h : ST w0 w S now ring G) (k : Nat) (h1 : k ≤ now) (h2 : k + 8 ≤ now) (hn : now ≤ 1000) :
    Calls Try.prog 10 #[.pointer (some ⟨S, 0, none⟩), .int .i64 k] w fun e w' => e = .returned (.tuple #[.agg #[.slice none 0 0, .slice none 0 0, .slice none 0 0], .int .i64 9]) ∧ Below w.heap.size w w' := by
  have n := h.n
  have hA := (Below.refl _ w).alloc (Nat.le_refl _) (.cells #[.slice none 0 0, .slice none 0 0, .slice none 0 0] 30)
  have n2 := (h.below hA).n
  have r0 := box_new w #[.slice none 0 0, .slice none 0 0, .slice none 0 0] 30 0 _ rfl
  have r1 := box_new w #[.slice none 0 0, .slice none 0 0, .slice none 0 0] 30 1 _ rfl
  have r2 := box_new w #[.slice none 0 0, .slice none 0 0, .slice none 0 0] 30 2 _ rfl
  have rf := fun j => free_new w #[.slice none 0 0, .slice none 0 0, .slice none 0 0] 30 j
  have e1 : decide ((k : Int) < 0) = false := by simp
  have e2 : decide ((k : Int) > now) = false := by simp; omega
  have e3 : decide ((k : Int) ≤ (now : Int) - 8) = true := by simp; omega
  go_enter Try.func10, Try.ntmps10
  go_wp2_with fail
  exact bodyPost_ret (res10 _ _ w.heap.size _ _ _ _ rfl rfl (box_new _ _ _ _ _ rfl) (box_new _ _ _ _ _ rfl) (box_new _ _ _ _ _ rfl)) rfl ⟨rfl, (Below.refl _ w).alloc (Nat.le_refl _) _⟩
set_option maxHeartbeats 4000000 in
set_option maxRecDepth 100000 in
theorem find_out {w0 w : World} {S now : Nat} {ring : Nat → Value} {G : Nat → List Nat} (h : ST w0 w S now ring G) (k : Int) (h1 : k < 0 ∨ now < k) :
    Calls Try.prog 10 #[.pointer (some ⟨S, 0, none⟩), .int .i64 k] w fun e w' => e = .returned (.tuple #[.agg #[.slice none 0 0, .slice none 0 0, .slice none 0 0], .int .i64 2]) ∧ Below w.heap.size w w' := by
  have n := h.n
  have hA := (Below.refl _ w).alloc (Nat.le_refl _) (.cells #[.slice none 0 0, .slice none 0 0, .slice none 0 0] 30)
  have n2 := (h.below hA).n
  have r0 := box_new w #[.slice none 0 0, .slice none 0 0, .slice none 0 0] 30 0 _ rfl
  have r1 := box_new w #[.slice none 0 0, .slice none 0 0, .slice none 0 0] 30 1 _ rfl
  have r2 := box_new w #[.slice none 0 0, .slice none 0 0, .slice none 0 0] 30 2 _ rfl
  have rf := fun j => free_new w #[.slice none 0 0, .slice none 0 0, .slice none 0 0] 30 j
  by_cases h0 : k < 0
  all_goals
    go_enter Try.func10, Try.ntmps10
    go_wp2_with fail
    exact bodyPost_ret (res10 _ _ w.heap.size _ _ _ _ rfl rfl (box_new _ _ _ _ _ rfl) (box_new _ _ _ _ _ rfl) (box_new _ _ _ _ _ rfl)) rfl ⟨rfl, (Below.refl _ w).alloc (Nat.le_refl _) _⟩
/-- A box of three cells. -/
structure B3 (w : World) (b : Nat) (x y z : Value) : Prop where
  lt : b < w.heap.size
  c0 : w.cell? ⟨b, 0, none⟩ = some x
  c1 : w.cell? ⟨b, 1, none⟩ = some y
  c2 : w.cell? ⟨b, 2, none⟩ = some z
  f : ∀ j, w.frozen? ⟨b, j, none⟩ = false
theorem B3.new (w : World) (x y z : Value) : B3 (w.alloc (.cells #[x, y, z] 30)) w.heap.size x y z :=
  ⟨by simp, box_new _ _ _ _ _ rfl, box_new _ _ _ _ _ rfl, box_new _ _ _ _ _ rfl, fun _ => free_new _ _ _ _⟩
theorem B3.below {w w2 : World} {b : Nat} {x y z : Value} (h : B3 w b x y z) (hb : Below w.heap.size w w2) : B3 w2 b x y z :=
  ⟨Nat.lt_of_lt_of_le h.lt hb.size, (hb.cell h.lt).trans h.c0, (hb.cell h.lt).trans h.c1, (hb.cell h.lt).trans h.c2, fun j => (hb.frozen (p := ⟨b, j, none⟩) h.lt).trans (h.f j)⟩
theorem B3.set {w : World} {b : Nat} {x y z : Value} (h : B3 w b x y z) (x' y' z' : Value) : B3 (((w.setCell ⟨b, 0, none⟩ x').setCell ⟨b, 1, none⟩ y').setCell ⟨b, 2, none⟩ z') b x' y' z' := by
  obtain ⟨k0, k1, k2⟩ := three_set x' y' z' h.c0 h.c1 h.c2
  exact ⟨by simp only [World.size_setCell]; exact h.lt, k0, k1, k2, fun j => by rw [World.frozen?_setCell, World.frozen?_setCell, World.frozen?_setCell]; exact h.f j⟩
theorem B3.other {w : World} {b c : Nat} {x y z : Value} (h : B3 w b x y z) (hc : c ≠ b) (x' y' z' : Value) : B3 (((w.setCell ⟨c, 0, none⟩ x').setCell ⟨c, 1, none⟩ y').setCell ⟨c, 2, none⟩ z') b x y z := by
  have hK := three_keep (Keep.refl (fun k => k = c) w) c x' y' z' (.inl rfl)
  exact ⟨Nat.lt_of_lt_of_le h.lt hK.size, hK.cell h.c0 (Ne.symm hc), hK.cell h.c1 (Ne.symm hc), hK.cell h.c2 (Ne.symm hc), fun j => by rw [World.frozen?_setCell, World.frozen?_setCell, World.frozen?_setCell]; exact h.f j⟩
theorem below_three {B : Nat} {w w2 : World} (h : Below B w w2) (b : Nat) (hb : B ≤ b) (x y z : Value) : Below B w (((w2.setCell ⟨b, 0, none⟩ x).setCell ⟨b, 1, none⟩ y).setCell ⟨b, 2, none⟩ z) :=
  ((h.setCell (show B ≤ (⟨b, 0, none⟩ : Addr).block from hb) x).setCell (show B ≤ (⟨b, 1, none⟩ : Addr).block from hb) y).setCell (show B ≤ (⟨b, 2, none⟩ : Addr).block from hb) z
set_option maxHeartbeats 4000000 in
set_option maxRecDepth 100000 in
theorem Graph_err {w : World} {S : Nat} (k e0 : Int) (he : e0 = 2 ∨ e0 = 9)
    (hf : ∀ w2, Below w.heap.size w w2 → Calls Try.prog 10 #[.pointer (some ⟨S, 0, none⟩), .int .i64 k] w2 fun e w' => e = .returned (.tuple #[.agg #[.slice none 0 0, .slice none 0 0, .slice none 0 0], .int .i64 e0]) ∧ Below w2.heap.size w2 w') :
    Calls Try.prog 7 #[.pointer (some ⟨S, 0, none⟩), .int .i64 k] w fun e w' => e = .returned (.tuple #[.agg #[.slice none 0 0, .slice none 0 0, .slice none 0 0], .int .i64 e0]) ∧ Below w.heap.size w w' := by
  have hA := (Below.refl _ w).alloc (Nat.le_refl _) (.cells #[.slice none 0 0, .slice none 0 0, .slice none 0 0] 30)
  have hB1 := B3.new w (.slice none 0 0) (.slice none 0 0) (.slice none 0 0)
  have hne : (e0 != 0) = true := by rcases he with rfl | rfl <;> rfl
  go_enter Try.func7, Try.ntmps7
  go_wp2_with (go_at_call 10; refine (hf _ hA).mono ?_; rintro e w2 ⟨rfl, hb2⟩; have hB2 := hB1.below hb2; have hA2 := (Below.refl _ w2).alloc (Nat.le_refl _) (.cells #[.slice none 0 0, .slice none 0 0, .slice none 0 0] 30); have hB3 := hB2.below hA2; have r0 := hB3.c0; have r1 := hB3.c1; have r2 := hB3.c2; have rf := hB3.f; clear hB1)
  have hB4 := hB3.set (.slice none 0 0) (.slice none 0 0) (.slice none 0 0)
  exact bodyPost_ret (res7 _ _ w.heap.size _ _ _ _ rfl rfl hB4.c0 hB4.c1 hB4.c2) rfl ⟨rfl, below_three (hA.trans ((hb2.trans (hA2.mono hb2.size)).mono hA.size)) _ (Nat.le_refl _) _ _ _⟩
set_option maxHeartbeats 4000000 in
set_option maxRecDepth 100000 in
theorem Graph_kept {w0 w : World} {S now : Nat} {ring : Nat → Value} {G : Nat → List Nat} (h : ST w0 w S now ring G) (k : Nat) (h1 : k ≤ now) (h2 : now < k + 8) (hn : now ≤ 1000) (ha : Asc (G k)) :
    Calls Try.prog 7 #[.pointer (some ⟨S, 0, none⟩), .int .i64 k] w fun e w' => ∃ v, e = .returned (.tuple #[.agg #[v, .slice none 0 0, .slice none 0 0], .int .i64 0]) ∧ NS w' v (G k) ∧ Below w.heap.size w w' := by
  have hA := (Below.refl _ w).alloc (Nat.le_refl _) (.cells #[.slice none 0 0, .slice none 0 0, .slice none 0 0] 30)
  have hB1 := B3.new w (.slice none 0 0) (.slice none 0 0) (.slice none 0 0)
  have hB1lt := hB1.lt
  have hg := h.g k h1 h2
  obtain ⟨a1, cp1, hv, _, _⟩ := hg.form
  have hfk := find_kept (h.below hA) k h1 h2 hn
  rw [hv] at hfk hg
  go_enter Try.func7, Try.ntmps7
  go_wp2_with (first
    | (go_at_call 10; refine hfk.mono ?_; rintro e w2 ⟨rfl, hb2⟩; have hB2 := hB1.below hb2; have hA2 := (Below.refl _ w2).alloc (Nat.le_refl _) (.cells #[.slice a1 (G k).length cp1, .slice none 0 0, .slice none 0 0] 30); have hB3 := hB2.below hA2; have hC3 := B3.new w2 (.slice a1 (G k).length cp1) (.slice none 0 0) (.slice none 0 0); have hb3 := hA.trans ((hb2.trans (hA2.mono hb2.size)).mono hA.size); clear hB1)
    | (go_at_call 9; refine (Apply_any _ (.slice none 0 0) (G k) [] _ (hg.below hb3) ha (SlR.nil _ 9) (by decide) (fun _ h => nomatch h)).mono ?_; rintro e w4 ⟨v4, rfl, hno4, hb4⟩; rw [List.append_nil] at hno4; obtain ⟨a4, cp4, rfl, _, _⟩ := hno4.ns.form; have hB4 := hB3.below hb4; have hC4 := hC3.below hb4; have s0 := hC4.c0; have s1 := hC4.c1; have s2 := hC4.c2; have sf := hC4.f; have hb4' := hb3.trans (hb4.mono hb3.size); have hne : w2.heap.size ≠ w.heap.size := (by have := hA.size; have := hb2.size; have := hB1lt; omega); have hB5 := hB4.other hne (.slice a4 (G k).length cp4) (.slice none 0 0) (.slice none 0 0); have hb5 := below_three hb4' w2.heap.size (by have := hA.size; have := hb2.size; omega) (.slice a4 (G k).length cp4) (.slice none 0 0) (.slice none 0 0); have hK5 := three_keep (Keep.refl (fun k => k = w2.heap.size) w4) w2.heap.size (.slice a4 (G k).length cp4) (.slice none 0 0) (.slice none 0 0) (.inl rfl); have hno5 := hK5.owns hno4 (fun k hk e => (by have := (World.ownsRow.lt hno4 k hk).1; have := hC3.lt; omega)); clear hK5; have hC5 := hC4.set (.slice a4 (G k).length cp4) (.slice none 0 0) (.slice none 0 0); generalize hW5 : ((w4.setCell ⟨w2.heap.size, 0, none⟩ (.slice a4 (G k).length cp4)).setCell ⟨w2.heap.size, 1, none⟩ (.slice none 0 0)).setCell ⟨w2.heap.size, 2, none⟩ (.slice none 0 0) = W5 at hB5 hb5 hno5 hC5; have t0 := hC5.c0; have t1 := hC5.c1; have t2 := hC5.c2; have r0 := hB5.c0; have r1 := hB5.c1; have r2 := hB5.c2; have rf := hB5.f))
  have hB6 := hB5.set (.slice a4 (G k).length cp4) (.slice none 0 0) (.slice none 0 0)
  have hK6 := three_keep (Keep.refl (fun k => k = w.heap.size) W5) w.heap.size (.slice a4 (G k).length cp4) (.slice none 0 0) (.slice none 0 0) (.inl rfl)
  have hno6 : NO _ _ (.slice a4 (G k).length cp4) (G k) := hK6.owns hno5 (fun j hj e => by have := (World.ownsRow.lt hno5 j hj).1; have := hb3.size; have := hA.size; have := hb2.size; have := hA2.size; omega)
  exact bodyPost_ret (res7 _ _ w.heap.size _ _ _ _ rfl rfl hB6.c0 hB6.c1 hB6.c2) rfl ⟨_, rfl, hno6.ns, below_three hb5 _ (Nat.le_refl _) _ _ _⟩
end Go.Proofs.Ytcgjkllgfdgmeaa
