/- Graphs of nodes alone: Insert at the end, an edit that adds a node. -/
import Derived.Test.YtcgjkllgfdgmeaaD
import Derived.Scope
import Derived.Deep.RegionHeld3
namespace Go.Proofs.Ytcgjkllgfdgmeaa
open Go.RowKit

set_option maxHeartbeats 8000000 in
set_option maxRecDepth 100000 in
theorem Insert_any (v vs : Value) (ids : List Nat) (n base : Nat) (w : World) (h : NO w base v ids) (hv : NS w vs [n]) (hl : ids.length ≤ 1000) (hb : base ≤ w.heap.size) :
    Calls Try.prog 24 #[v, .int .i64 ids.length, vs] w fun e w' => ∃ v', e = .returned v' ∧ NO w' base v' (ids ++ [n]) ∧ Keep (fun k => v.ownBlock = some k) w w' ∧ (v'.ownBlock = v.ownBlock ∨ v'.ownBlock = some w.heap.size) := by
  obtain ⟨a, cap, rfl, hm, hc⟩ := h.ns.form
  obtain ⟨a2, cap2, rfl, hm2, hc2⟩ := hv.form
  have hcap : ids.length ≤ cap := by
    rcases Nat.eq_zero_or_pos ids.length with e | e
    · omega
    · obtain ⟨G, cp, he, _, _, h1, _⟩ := h.row e
      injection he with _ _ e3
      omega
  have hcm : cap ≤ maxLen := by
    rcases Nat.eq_zero_or_pos ids.length with e | e
    · rcases h.2 with ⟨he, _⟩ | ⟨_, _, _, he, _, _, _, h1, _⟩
      · injection he with _ _ e3
        rw [e3]; exact Nat.zero_le _
      · injection he with _ _ e3
        rw [e3]; exact h1
    · obtain ⟨G, cp, he, _, _, _, h1, _⟩ := h.row e
      injection he with _ _ e3
      rw [e3]; exact h1
  go_enter Try.func24, Try.ntmps24
  go_wp2_with (at_builtin; refine wpList_append_sl rfl _ _ 26 56 rfl base _ 3 32 Try.underlying26 info56 rfl (by decide) (by decide) (.slice a ids.length cap) ids.length (ids.flatMap nd) rfl h (.slice a2 1 cap2) 1 ([n].flatMap nd) rfl hc2 (nd_one [n]) (by omega) hb ?_; intro v1 w3 ho hg hbl)
  all_goals
    go_ret
    refine ⟨v1, rfl, ?_, Keep.grown (Keep.refl _ w) hg (fun k e => .inl (by cases a <;> exact e)), by cases a <;> exact hbl⟩
    unfold NO
    rw [List.length_append, List.flatMap_append]
    exact ho
theorem NO.new (w : World) (n : Nat) : NO (w.alloc (.cells #[.int .i64 n, .bool false, .complex .f64 0 0] 56)) w.heap.size (.slice (some ⟨w.heap.size, 0, none⟩) 1 1) [n] :=
  ⟨by simp [nd], .inr ⟨_, 1, _, rfl, Nat.le_refl _, heap_alloc_new _ _, Nat.le_refl _, by decide, rfl, by simp [nd]⟩⟩
theorem do_end {w wA w6 : World} {Hb base : Nat} {v v6 : Value} {L : List Nat} (hno6 : NO w6 base v6 L) (hK0 : Keep (fun _ => False) w wA) (hK6 : Keep (fun k => v.ownBlock = some k) wA w6)
    (hbl6 : v6.ownBlock = v.ownBlock ∨ v6.ownBlock = some wA.heap.size) (hHb : Hb < w.heap.size) (hvH : ¬ v.ownBlock = some Hb)
    (gfA : ∀ j, wA.frozen? ⟨Hb, j, none⟩ = false) (q0 : wA.cell? ⟨Hb, 0, none⟩ = some v) (q1 : wA.cell? ⟨Hb, 1, none⟩ = some (.slice none 0 0)) (q2 : wA.cell? ⟨Hb, 2, none⟩ = some (.slice none 0 0)) :
    ∃ v', NO (w6.setCell ⟨Hb, 0, none⟩ v6) base v' L ∧ (w6.setCell ⟨Hb, 0, none⟩ v6).cell? ⟨Hb, 0, none⟩ = some v' ∧ (w6.setCell ⟨Hb, 0, none⟩ v6).cell? ⟨Hb, 1, none⟩ = some (.slice none 0 0) ∧
      (w6.setCell ⟨Hb, 0, none⟩ v6).cell? ⟨Hb, 2, none⟩ = some (.slice none 0 0) ∧ Keep (fun k => k = Hb ∨ v.ownBlock = some k) w (w6.setCell ⟨Hb, 0, none⟩ v6) ∧ ∀ j, (w6.setCell ⟨Hb, 0, none⟩ v6).frozen? ⟨Hb, j, none⟩ = false := by
  have hsz := hK0.size
  have hKs : Keep (fun k => k = Hb) w6 (w6.setCell ⟨Hb, 0, none⟩ v6) := (Keep.refl (fun k => k = Hb) w6).setCell _ _ (.inl rfl)
  refine ⟨v6, hKs.owns hno6 (fun k hk e => ?_), World.cell?_setCell_same _ _ _ (hK6.cell (a := ⟨Hb, 0, none⟩) q0 hvH), ?_, ?_, ?_, fun j => by rw [World.frozen?_setCell]; exact hK6.unfrozen (a := ⟨Hb, j, none⟩) (show Hb < wA.heap.size by omega) (gfA j) hvH⟩
  · subst e
    rcases hbl6 with e | e
    · rw [e] at hk; exact hvH hk
    · rw [e] at hk; injection hk with hk; omega
  · rw [World.cell?_setCell_other _ _ _ _ (by simp)]; exact hK6.cell (a := ⟨Hb, 1, none⟩) q1 hvH
  · rw [World.cell?_setCell_other _ _ _ _ (by simp)]; exact hK6.cell (a := ⟨Hb, 2, none⟩) q2 hvH
  · have h1 : Keep (fun k => k = Hb ∨ v.ownBlock = some k) w wA := hK0.mono fun _ _ h => h.elim
    have h2 : Keep (fun k => k = Hb ∨ v.ownBlock = some k) wA w6 := hK6.mono fun _ _ h => .inr h
    exact (h1.trans h2).setCell _ _ (.inl (.inl rfl))
/-- An edit that adds a node at nought. -/
def edV (n : Nat) : Value := .agg #[.int .i64 1, .int .i64 n, .int .i64 0, .int .i64 0, .int .i64 0, .complex .f64 0 0, .int .u32 0, .int .i64 0, .bool false]
set_option maxHeartbeats 8000000 in
set_option maxRecDepth 100000 in
theorem do_any (Hb base n : Nat) (v : Value) (ids : List Nat) (w : World) (h : NO w base v ids) (g0 : w.cell? ⟨Hb, 0, none⟩ = some v) (g1 : w.cell? ⟨Hb, 1, none⟩ = some (.slice none 0 0)) (g2 : w.cell? ⟨Hb, 2, none⟩ = some (.slice none 0 0))
    (gf : ∀ j, w.frozen? ⟨Hb, j, none⟩ = false) (hne : ∀ k, v.ownBlock = some k → k ≠ Hb) (hb : base ≤ w.heap.size) (hn : n < 128) (hl : ids.length ≤ 128) (ht : ∀ x ∈ ids, x < n) :
    Calls Try.prog 13 #[.pointer (some ⟨Hb, 0, none⟩), .agg #[.int .i64 1, .int .i64 n, .int .i64 0, .int .i64 0, .int .i64 0, .complex .f64 0 0, .int .u32 0, .int .i64 0, .bool false]] w fun e w' => e = .returned (.int .i64 0) ∧
      ∃ v', NO w' base v' (ids ++ [n]) ∧ w'.cell? ⟨Hb, 0, none⟩ = some v' ∧ w'.cell? ⟨Hb, 1, none⟩ = some (.slice none 0 0) ∧ w'.cell? ⟨Hb, 2, none⟩ = some (.slice none 0 0) ∧ Keep (fun k => k = Hb ∨ v.ownBlock = some k) w w' ∧ ∀ j, w'.frozen? ⟨Hb, j, none⟩ = false := by
  have hn1 : decide ((n : Int) ≤ 127) = true := by simp; omega
  have hn0 : decide (0 ≤ (n : Int)) = true := by simp
  obtain ⟨E0, hE0⟩ : ∃ E0 : Array Value, E0 = #[.int .i64 1, .int .i64 n, .int .i64 0, .int .i64 0, .int .i64 0, .complex .f64 0 0, .int .u32 0, .int .i64 0, .bool false] := ⟨_, rfl⟩
  have hA := (Below.refl _ w).alloc (Nat.le_refl _) (.cells E0 39)
  have x0 := box_new w E0 39 0 (.int .i64 1) (by rw [hE0]; rfl)
  have x1 := box_new w E0 39 1 (.int .i64 n) (by rw [hE0]; rfl)
  have x5 := box_new w E0 39 5 (.complex .f64 0 0) (by rw [hE0]; rfl)
  have h1 : NO (w.alloc (.cells E0 39)) base v ids := h.below hA
  have k0 := (hA.cell (World.block_lt_of_cell? _ _ g0)).trans g0
  have k1 := (hA.cell (World.block_lt_of_cell? _ _ g1)).trans g1
  have k2 := (hA.cell (World.block_lt_of_cell? _ _ g2)).trans g2
  have kf := fun j => (hA.frozen (p := ⟨Hb, j, none⟩) (show Hb < _ from World.block_lt_of_cell? _ _ g0)).trans (gf j)
  rw [hE0] at hA x0 x1 x5 h1 k0 k1 k2 kf
  clear hE0
  go_enter Try.func13, Try.ntmps13
  go_wp2_with fail
  generalize hW1 : w.alloc (.cells #[.int .i64 1, .int .i64 n, .int .i64 0, .int .i64 0, .int .i64 0, .complex .f64 0 0, .int .u32 0, .int .i64 0, .bool false] 39) = W1 at *
  clear hW1
  refine wp_scope_straight ?_
  go_wp2_with (go_at_call 14; refine (in_any _ _).mono ?_; rintro e w' ⟨rfl, rfl⟩)
  generalize hX : w.heap.size = X at *
  have hW1s : X + 1 ≤ W1.heap.size := World.block_lt_of_cell? _ _ x0
  have hD : NO W1.drew base v ids := h1
  have hbx : ∀ {w' : World}, Below W1.drew.heap.size W1.drew w' → ∀ {b i : Nat} {u : Value}, W1.drew.cell? ⟨b, i, none⟩ = some u → w'.cell? ⟨b, i, none⟩ = some u := fun {w'} bb {b i u} e => (bb.cell (World.block_lt_of_cell? _ _ e)).trans e
  have d0 : W1.drew.cell? ⟨Hb, 0, none⟩ = some v := k0
  have d1 : W1.drew.cell? ⟨Hb, 1, none⟩ = some (.slice none 0 0) := k1
  have d2 : W1.drew.cell? ⟨Hb, 2, none⟩ = some (.slice none 0 0) := k2
  have df : ∀ j, W1.drew.frozen? ⟨Hb, j, none⟩ = false := kf
  have e0 : W1.drew.cell? ⟨X, 0, none⟩ = some (.int .i64 1) := x0
  have e1 : W1.drew.cell? ⟨X, 1, none⟩ = some (.int .i64 n) := x1
  have e5 : W1.drew.cell? ⟨X, 5, none⟩ = some (.complex .f64 0 0) := x5
  go_region_held3 (fun w' => w'.cell? ⟨Hb, 0, none⟩ = some v ∧ w'.cell? ⟨Hb, 1, none⟩ = some (.slice none 0 0) ∧ w'.cell? ⟨Hb, 2, none⟩ = some (.slice none 0 0) ∧ w'.cell? ⟨X, 1, none⟩ = some (.int .i64 n))
    ((first | exact ⟨k0, k1, k2, x1⟩ | assumption))
    ((first
      | (go_at_call 23; refine (nodeAt_any v ids n _ hD.ns hl ht).mono ?_; rintro e w3 ⟨rfl, hb3⟩; have k3 := And.intro (hbx hb3 d0) (And.intro (hbx hb3 d1) (And.intro (hbx hb3 d2) (hbx hb3 e1))))))
  have hb13 : Below W1.heap.size W1 w3 := ⟨hb3.os, hb3.tape, hb3.output, hb3.size, hb3.block⟩
  obtain ⟨m0, m1, m2, y1⟩ := k3
  have y0 := hbx hb3 e0
  have y5 := hbx hb3 e5
  have mf : ∀ j, w3.frozen? ⟨Hb, j, none⟩ = false := fun j => (hb3.frozen (p := ⟨Hb, j, none⟩) (show Hb < _ from World.block_lt_of_cell? _ _ d0)).trans (df j)
  have h3 : NO w3 base v ids := hD.below hb3
  clear hbx d0 d1 d2 df e0 e1 e5 k0 k1 k2 kf x0 x1 x5 hb3 h1 hD
  go_wp2_with (go_at_call 15; refine (Ok_zero _).mono ?_; rintro e w' ⟨rfl, rfl⟩)
  obtain ⟨o4, ho4⟩ : ∃ o4, o4 = Obj.cells #[.int .i64 n, .bool false, .complex .f64 0 0] 56 := ⟨_, rfl⟩
  have hA4 := (Below.refl _ w3).alloc (Nat.le_refl _) o4
  have hx4 : ∀ {b i : Nat} {u : Value}, w3.cell? ⟨b, i, none⟩ = some u → (w3.alloc o4).cell? ⟨b, i, none⟩ = some u := fun {b i u} e => (hA4.cell (World.block_lt_of_cell? _ _ e)).trans e
  have q0 := hx4 m0
  have q1 := hx4 m1
  have q2 := hx4 m2
  have z1 := hx4 y1
  have z5 := hx4 y5
  have qfa := fun j => (hA4.frozen (p := ⟨Hb, j, none⟩) (show Hb < _ from World.block_lt_of_cell? _ _ m0)).trans (mf j)
  have qf := qfa 0
  have hN4 : NO (w3.alloc o4).drew base v ids := h3.below hA4.drew
  have hS4 : NS (w3.alloc o4).drew (.slice (some ⟨w3.heap.size, 0, none⟩) 1 1) [n] := by rw [ho4]; exact (NO.new _ n).ns
  have hI := Insert_any v (.slice (some ⟨w3.heap.size, 0, none⟩) 1 1) ids n base (w3.alloc o4).drew hN4 hS4 (by omega) (by
    have h1 := hA4.size
    have h2 := hb13.size
    show base ≤ (w3.alloc o4).heap.size
    omega)
  have hHX : X ≠ Hb := fun e => by have := World.block_lt_of_cell? _ _ g0; simp at this; omega
  have hvH : ¬ v.ownBlock = some Hb := fun e => hne _ e rfl
  have hvX : ¬ v.ownBlock = some X := fun e => by have := (World.ownsRow.lt h _ e).2; omega
  rw [ho4] at q0 q1 q2 z1 z5 qf hI
  simp only [ho4] at qfa
  have hqf : Hid _ := qfa
  clear qfa
  clear hx4 hS4
  have hHbl : Hb < w.heap.size := by have := World.block_lt_of_cell? _ _ g0; simpa using this
  have hK0 : Keep (fun _ => False) w ((w3.alloc (.cells #[.int .i64 n, .bool false, .complex .f64 0 0] 56)).drew) := by
    refine (Keep.of_below (show Below w.heap.size w W1 by rw [hX]; exact hA)).trans ((Keep.of_below hb13).trans ?_)
    have : Below w3.heap.size w3 (w3.alloc (.cells #[.int .i64 n, .bool false, .complex .f64 0 0] 56)).drew := by
      rw [← ho4]; exact hA4.drew
    exact Keep.of_below this
  go_region_with ((first
      | (go_at_call 22; refine (plain_zero _).mono ?_; rintro e w4 ⟨rfl, rfl⟩)
      | (go_at_call 24; refine hI.mono ?_; rintro e w6 ⟨v6, rfl, hno6, hK6, hbl6⟩; obtain ⟨a6, cp6, rfl, _, _⟩ := hno6.ns.form; have t6 := hK6.cell (a := ⟨Hb, 0, none⟩) q0 hvH; have tf := hK6.unfrozen (World.block_lt_of_cell? _ _ (show ((w3.alloc _).drew).cell? ⟨Hb, 0, none⟩ = some v from q0)) qf hvH)))
  all_goals
    have hfin := do_end (Hb := Hb) hno6 hK0 hK6 hbl6 hHbl hvH hqf.out q0 q1 q2
    simp only [List.length_append, List.length_singleton] at hfin
    clear hno6 hK6 hbl6 hI hN4
    go_wp2_with fail
    simp only [Exit.noGoto]
    go_ret
    exact ⟨rfl, hfin⟩
end Go.Proofs.Ytcgjkllgfdgmeaa
