/- The store: New, Commit. -/
import Derived.Test.YtcgjkllgfdgmeaaG
namespace Go.Proofs.Ytcgjkllgfdgmeaa
open Go.RowKit

theorem NS.keep {w w' : World} {S : Nat → Prop} {v : Value} {ids : List Nat} (h : NS w v ids) (k : Keep S w w') (hv : ∀ b, v.ownBlock = some b → ¬ S b) : NS w' v ids := by
  obtain ⟨h1, h2, a, cap, rfl, h0, h3⟩ := h
  refine ⟨h1, h2, a, cap, rfl, h0, ?_⟩
  rcases h3 with h3 | ⟨b, off, rfl, h3⟩
  · exact .inl h3
  · exact .inr ⟨b, off, rfl, fun j u hu => k.cell (a := ⟨b, off + j, none⟩) (h3 j u hu) (hv b rfl)⟩
/-- The ring with v at r. -/
def rput (ring : Nat → Value) (r : Nat) (v : Value) : Nat → Value := fun i => if i = r then v else ring i
/-- The world behind a commit's stores. -/
def cput (w : World) (S now : Nat) (v : Value) : World :=
  ((((w.setCell ⟨S, 24, none⟩ (.int .i64 (now + 1 : Nat))).setCell ⟨S, (now + 1) % 8 * 3, none⟩ v).setCell ⟨S, (now + 1) % 8 * 3 + 1, none⟩ (.slice none 0 0)).setCell ⟨S, (now + 1) % 8 * 3 + 2, none⟩ (.slice none 0 0))
theorem cell_set {w : World} {S i j : Nat} {u x : Value} (h : w.cell? ⟨S, i, none⟩ = some u) : (w.setCell ⟨S, j, none⟩ x).cell? ⟨S, i, none⟩ = some (if i = j then x else u) := by
  by_cases e : i = j
  · subst e; rw [if_pos rfl]; exact World.cell?_setCell_same _ _ _ h
  · rw [if_neg e, World.cell?_setCell_other _ _ _ _ (by intro e2; injection e2 with _ e3; exact e e3.symm)]; exact h
theorem ST.put {w0 w : World} {S now : Nat} {ring : Nat → Value} {G : Nat → List Nat} {v : Value} (h : ST w0 w S now ring G) (hv : NS w v (G (now + 1))) (hvS : v.ownBlock ≠ some S) :
    ST w0 (cput w S now v) S (now + 1) (rput ring ((now + 1) % 8) v) G := by
  have hK : Keep (fun k => k = S) w (cput w S now v) := ((((Keep.refl (fun k => k = S) w).setCell _ _ (.inl rfl)).setCell _ _ (.inl rfl)).setCell _ _ (.inl rfl)).setCell _ _ (.inl rfl)
  have hr8 : (now + 1) % 8 < 8 := Nat.mod_lt _ (by decide)
  have hcell : ∀ {i : Nat} {u : Value}, w.cell? ⟨S, i, none⟩ = some u → (cput w S now v).cell? ⟨S, i, none⟩ = some (if i = (now + 1) % 8 * 3 + 2 then .slice none 0 0 else if i = (now + 1) % 8 * 3 + 1 then .slice none 0 0 else if i = (now + 1) % 8 * 3 then v else if i = 24 then .int .i64 (now + 1 : Nat) else u) := fun e => cell_set (cell_set (cell_set (cell_set e)))
  refine ⟨Below.keep h.hb (by have := h.hb.size; exact this) hK (fun k hk => by rw [hk]; exact h.hS), h.hS, Nat.lt_of_lt_of_le h.lt hK.size, fun r hr => ?_, fun r hr => ?_, fun r hr => ?_, ?_, fun j => ?_, fun k h1 h2 => ?_, fun r hr => ?_⟩
  · rw [hcell (h.c r hr)]
    unfold rput
    by_cases e : r = (now + 1) % 8
    · subst e
      rw [if_neg (by omega), if_neg (by omega), if_pos rfl, if_pos rfl]
    · rw [if_neg (by omega), if_neg (by omega), if_neg (by omega), if_neg (by omega), if_neg e]
  · rw [hcell (h.c1 r hr)]
    congr 1
    repeat' split
    all_goals first | rfl | omega
  · rw [hcell (h.c2 r hr)]
    congr 1
    repeat' split
    all_goals first | rfl | omega
  · rw [hcell h.n, if_neg (by omega), if_neg (by omega), if_neg (by omega), if_pos rfl]
  · unfold cput
    rw [World.frozen?_setCell, World.frozen?_setCell, World.frozen?_setCell, World.frozen?_setCell]
    exact h.f j
  · unfold rput
    by_cases e : k = now + 1
    · subst e
      rw [if_pos rfl]
      exact hv.keep hK (fun b hb e => hvS (by rw [hb, e]))
    · rw [if_neg (by omega)]
      exact (h.g k (by omega) (by omega)).keep hK (fun b hb e => h.d (k % 8) (Nat.mod_lt _ (by decide)) (by rw [hb, e]))
  · unfold rput
    split
    · exact hvS
    · exact h.d r hr
def st0 : Array Value := Array.replicate 24 (.slice none 0 0) ++ #[.int .i64 0]
theorem zero49 (w : World) : (zeroValue 49).run Try.prog w = .ok (.agg st0) w := by kernel_rfl
set_option maxHeartbeats 8000000 in
set_option maxRecDepth 100000 in
theorem Commit_any {w0 w : World} {S now : Nat} {ring : Nat → Value} {G : Nat → List Nat} (h : ST w0 w S now ring G) (hn : now ≤ 1000) (ha : Asc (G now)) (bv : Value) (n : Nat) (hbv : SlR w 9 bv 1 (ed n)) (hn1 : n < 128) (hn2 : ∀ x ∈ G now, x < n) (hG : G (now + 1) = G now ++ [n]) :
    Calls Try.prog 6 #[.pointer (some ⟨S, 0, none⟩), bv] w fun e w' => e = .returned (.tuple #[.int .i64 (now + 1 : Nat), .int .i64 0, .int .i64 0]) ∧ ∃ ring', ST w0 w' S (now + 1) ring' G := by
  have n0 := h.n
  have hk8 : now % 8 < 8 := Nat.mod_lt _ (by decide)
  have q0 := h.c (now % 8) hk8
  have q1 := h.c1 (now % 8) hk8
  have q2 := h.c2 (now % 8) hk8
  have e4 : (now : Int).tmod 8 = ((now % 8 : Nat) : Int) := by rw [Int.tmod_eq_emod_of_nonneg (by omega)]; omega
  have hg := h.g now (Nat.le_refl _) (by omega)
  obtain ⟨a1, cp1, hv, _, _⟩ := hg.form
  rw [hv] at q0 hg
  obtain ⟨ab, cpb, rfl, _, hcb⟩ := hbv.form
  go_enter Try.func6, Try.ntmps6
  go_wp2_with fail
  have hoA := (Below.refl _ w).alloc (Nat.le_refl _) (.cells #[.slice none 0 0, .slice none 0 0, .slice none 0 0] 30)
  have hA1 : ∀ W, Below w.heap.size w W → Calls Try.prog 9 #[.agg #[.slice a1 (G now).length cp1, .slice none 0 0, .slice none 0 0], .slice ab 1 cpb] W fun e w' => ∃ v', e = .returned (.tuple #[.agg #[v', .slice none 0 0, .slice none 0 0], .int .i64 0, .int .i64 0]) ∧ NO w' W.heap.size v' (G (now + 1)) ∧ Below W.heap.size W w' := fun W hW => by
    rw [hG]
    refine Apply_any _ _ (G now) [n] W (hg.below hW) ha (by simpa using hcb.below hW) (Nat.le_refl 1) ?_
    intro x hx
    rw [List.mem_singleton.1 hx]
    exact ⟨hn1, hn2⟩
  have hBx : B3 (w.alloc (.cells #[.slice none 0 0, .slice none 0 0, .slice none 0 0] 30)).drew w.heap.size (.slice none 0 0) (.slice none 0 0) (.slice none 0 0) := by
    have q := B3.new w (.slice none 0 0) (.slice none 0 0) (.slice none 0 0)
    exact ⟨q.lt, q.c0, q.c1, q.c2, q.f⟩
  have hT := h.below hoA
  have s0 := hT.c (now % 8) hk8
  have s1 := hT.c1 (now % 8) hk8
  have s2 := hT.c2 (now % 8) hk8
  have sn := hT.n
  rw [hv] at s0
  clear hT
  go_region_with ((first
    | (go_at_call 9; refine (hA1 _ (by first | exact (Below.refl _ w).drew | exact hoA.drew)).mono ?_; rintro e w4 ⟨v4, rfl, hno4, hb4⟩; obtain ⟨a4, cp4, rfl, _, _⟩ := hno4.ns.form; first | (have hB4 := hBx.below hb4; have r0 := hB4.c0; have r1 := hB4.c1; have r2 := hB4.c2; have rf := hB4.f) | skip)))
  all_goals
    have hL : (G (now + 1)).length = (G now).length + 1 := by rw [hG]; simp
    rw [hL] at hno4
    have hvS : (Value.slice a4 ((G now).length + 1) cp4).ownBlock ≠ some S := fun e => by have h1 := (World.ownsRow.lt hno4 S e).1; have h2 := h.lt; have h3 := hoA.size; simp at h1; omega
    first
      | (have hbW := hoA.trans ((show Below (w.alloc (.cells #[.slice none 0 0, .slice none 0 0, .slice none 0 0] 30)).heap.size (w.alloc (.cells #[.slice none 0 0, .slice none 0 0, .slice none 0 0] 30)) w4 from ⟨hb4.os, hb4.tape, hb4.output, hb4.size, hb4.block⟩).mono hoA.size)
         have hB6 := hB4.set (.slice a4 ((G now).length + 1) cp4) (.slice none 0 0) (.slice none 0 0)
         have hb6 := below_three hbW w.heap.size (Nat.le_refl _) (.slice a4 ((G now).length + 1) cp4) (.slice none 0 0) (.slice none 0 0)
         have hNS6 := hno4.ns.keep (three_keep (Keep.refl (fun k => k = w.heap.size) w4) w.heap.size (.slice a4 ((G now).length + 1) cp4) (.slice none 0 0) (.slice none 0 0) (.inl rfl)) (fun b hb e => by have h1 := (World.ownsRow.lt hno4 b hb).1; simp at h1; omega)
         generalize ((w4.setCell ⟨w.heap.size, 0, none⟩ (.slice a4 ((G now).length + 1) cp4)).setCell ⟨w.heap.size, 1, none⟩ (.slice none 0 0)).setCell ⟨w.heap.size, 2, none⟩ (.slice none 0 0) = W6 at *)
      | (have hbW : Below w.heap.size w w4 := ⟨hb4.os, hb4.tape, hb4.output, hb4.size, hb4.block⟩
         have hB6 := B3.new w4 (.slice a4 ((G now).length + 1) cp4) (.slice none 0 0) (.slice none 0 0)
         have hb6 := hbW.trans (((Below.refl _ w4).alloc (Nat.le_refl _) (.cells #[.slice a4 ((G now).length + 1) cp4, .slice none 0 0, .slice none 0 0] 30)).mono hbW.size)
         have hNS6 := hno4.ns.below ((Below.refl _ w4).alloc (Nat.le_refl _) (.cells #[.slice a4 ((G now).length + 1) cp4, .slice none 0 0, .slice none 0 0] 30))
         generalize w4.alloc (.cells #[.slice a4 ((G now).length + 1) cp4, .slice none 0 0, .slice none 0 0] 30) = W6 at *)
    have hT6 := h.below hb6
    have t24 := hT6.n
    have tf := hT6.f
    have hfin := hT6.put hNS6 hvS
    have hr8 : (now + 1) % 8 < 8 := Nat.mod_lt _ (by decide)
    have e5 : ((now : Int) + 1).tmod 8 = (((now + 1) % 8 : Nat) : Int) := by rw [Int.tmod_eq_emod_of_nonneg (by omega)]; omega
    have u24 : (W6.setCell ⟨S, 24, none⟩ (.int .i64 ((now : Int) + 1))).cell? ⟨S, 24, none⟩ = some (.int .i64 ((now : Int) + 1)) := World.cell?_setCell_same _ _ _ t24
    have u0 := cell_set (j := 24) (x := .int .i64 ((now : Int) + 1)) (hT6.c _ hr8)
    have u1 := cell_set (j := 24) (x := .int .i64 ((now : Int) + 1)) (hT6.c1 _ hr8)
    have u2 := cell_set (j := 24) (x := .int .i64 ((now : Int) + 1)) (hT6.c2 _ hr8)
    rw [if_neg (by omega)] at u0 u1 u2
    have v0 := (World.cell?_setCell_other W6 ⟨S, 24, none⟩ _ (.int .i64 ((now : Int) + 1)) (by intro e; injection e with e1 _; have := h.lt; have := hbW.size; omega)).trans hB6.c0
    have v1 := (World.cell?_setCell_other W6 ⟨S, 24, none⟩ _ (.int .i64 ((now : Int) + 1)) (by intro e; injection e with e1 _; have := h.lt; have := hbW.size; omega)).trans hB6.c1
    have v2 := (World.cell?_setCell_other W6 ⟨S, 24, none⟩ _ (.int .i64 ((now : Int) + 1)) (by intro e; injection e with e1 _; have := h.lt; have := hbW.size; omega)).trans hB6.c2
    have uf : ∀ j, (W6.setCell ⟨S, 24, none⟩ (.int .i64 ((now : Int) + 1))).frozen? ⟨S, j, none⟩ = false := fun j => by rw [World.frozen?_setCell]; exact tf j
    go_wp2_with fail
    go_region
    have hfd := hfin.below (Below.refl _ _).drew
    have fn := hfin.n
    unfold cput at fn hfd
    simp only [Int.natCast_add, Int.cast_ofNat_Int] at fn hfd
    go_wp2_with fail
    go_ret3
    exact ⟨rfl, _, hfd⟩
end Go.Proofs.Ytcgjkllgfdgmeaa
