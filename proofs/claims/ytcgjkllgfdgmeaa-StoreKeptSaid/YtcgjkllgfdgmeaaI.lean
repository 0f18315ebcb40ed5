/- The store: New. -/
import Derived.Test.YtcgjkllgfdgmeaaH
namespace Go.Proofs.Ytcgjkllgfdgmeaa
open Go.RowKit

theorem st0_at (i : Nat) (h : i < 24) : st0[i]? = some (.slice none 0 0) := by
  unfold st0
  rw [Array.getElem?_append_left (by simpa using h), Array.getElem?_replicate, if_pos h]
theorem st0_now : st0[24]? = some (.int .i64 0) := by
  unfold st0
  rw [Array.getElem?_append_right (by simp)]
  simp
theorem ST.new {w0 w : World} {G : Nat → List Nat} (hb : Below w0.heap.size w0 w) (hG : G 0 = []) :
    ST w0 (w.alloc (.cells st0 49)) w.heap.size 0 (fun _ => .slice none 0 0) G := by
  have hsz : (w.alloc (.cells st0 49)).heap.size = w.heap.size + 1 := by simp
  refine ⟨hb.alloc hb.size _, hb.size, by omega, fun r hr => ?_, fun r hr => ?_, fun r hr => ?_, ?_, fun j => free_new _ _ _ _, fun k h1 h2 => ?_, fun r hr => by intro h; cases h⟩
  · exact box_new w st0 49 _ _ (st0_at _ (by omega))
  · exact box_new w st0 49 _ _ (st0_at _ (by omega))
  · exact box_new w st0 49 _ _ (st0_at _ (by omega))
  · exact box_new w st0 49 _ _ st0_now
  · have : k = 0 := by omega
    subst this
    rw [hG]
    exact SlR.nil _ _
/-- The world behind the first generation's stores. -/
def cput0 (w : World) (S : Nat) (v : Value) : World :=
  (((w.setCell ⟨S, 0, none⟩ v).setCell ⟨S, 1, none⟩ (.slice none 0 0)).setCell ⟨S, 2, none⟩ (.slice none 0 0))
theorem ST.put0 {w0 w : World} {S : Nat} {ring : Nat → Value} {G : Nat → List Nat} {v : Value} (h : ST w0 w S 0 ring G) (hv : NS w v (G 0)) (hvS : v.ownBlock ≠ some S) :
    ST w0 (cput0 w S v) S 0 (rput ring 0 v) G := by
  have hK : Keep (fun k => k = S) w (cput0 w S v) := (((Keep.refl (fun k => k = S) w).setCell _ _ (.inl rfl)).setCell _ _ (.inl rfl)).setCell _ _ (.inl rfl)
  have hcell : ∀ {i : Nat} {u : Value}, w.cell? ⟨S, i, none⟩ = some u → (cput0 w S v).cell? ⟨S, i, none⟩ = some (if i = 2 then .slice none 0 0 else if i = 1 then .slice none 0 0 else if i = 0 then v else u) := fun e => cell_set (cell_set (cell_set e))
  refine ⟨Below.keep h.hb (by have := h.hb.size; exact this) hK (fun k hk => by rw [hk]; exact h.hS), h.hS, Nat.lt_of_lt_of_le h.lt hK.size, fun r hr => ?_, fun r hr => ?_, fun r hr => ?_, ?_, fun j => ?_, fun k h1 h2 => ?_, fun r hr => ?_⟩
  · rw [hcell (h.c r hr)]
    unfold rput
    by_cases e : r = 0
    · subst e
      rw [if_neg (by omega), if_neg (by omega), if_pos rfl]
    · rw [if_neg (by omega), if_neg (by omega), if_neg (by omega), if_neg e]
  · rw [hcell (h.c1 r hr)]
    congr 1
    repeat' split
    all_goals first | rfl | omega
  · rw [hcell (h.c2 r hr)]
    congr 1
    repeat' split
    all_goals first | rfl | omega
  · rw [hcell h.n, if_neg (by omega), if_neg (by omega), if_neg (by omega)]
  · unfold cput0
    rw [World.frozen?_setCell, World.frozen?_setCell, World.frozen?_setCell]
    exact h.f j
  · unfold rput
    have : k = 0 := by omega
    subst this
    rw [if_pos rfl]
    exact hv.keep hK (fun b hb e => hvS (by rw [hb, e]))
  · unfold rput
    split
    · exact hvS
    · exact h.d r hr
set_option maxHeartbeats 8000000 in
set_option maxRecDepth 100000 in
theorem New_any {w : World} (G : Nat → List Nat) (hG : G 0 = []) :
    Calls Try.prog 4 #[.agg #[.slice none 0 0, .slice none 0 0, .slice none 0 0]] w fun e w' => ∃ S, e = .returned (.tuple #[.pointer (some ⟨S, 0, none⟩), .int .i64 0]) ∧ ∃ ring, ST w w' S 0 ring G := by
  have hB := B3.new w (.slice none 0 0) (.slice none 0 0) (.slice none 0 0)
  have hoA := (Below.refl _ w).alloc (Nat.le_refl _) (.cells #[.slice none 0 0, .slice none 0 0, .slice none 0 0] 30)
  have hz := zero49
  go_enter Try.func4, Try.ntmps4
  go_wp2_with (go_at_call 9; refine (Apply_any (.slice none 0 0) (.slice none 0 0) [] [] _ (SlR.nil _ _) ⟨fun _ h => (nomatch h), List.Pairwise.nil⟩ (SlR.nil _ _) (by decide) (fun _ h => nomatch h)).mono ?_; rintro e w4 ⟨v4, rfl, hno4, hb4⟩; obtain ⟨a4, cp4, rfl, _, _⟩ := hno4.ns.form; have hB4 := hB.below hb4; have r0 := hB4.c0; have r1 := hB4.c1; have r2 := hB4.c2; have rf := hB4.f; have hb4' := hoA.trans (hb4.mono hoA.size); have hB5 := hB4.set (.slice a4 0 cp4) (.slice none 0 0) (.slice none 0 0); have hb5 := below_three hb4' w.heap.size (Nat.le_refl _) (.slice a4 0 cp4) (.slice none 0 0) (.slice none 0 0); have hno5 : NO _ _ _ _ := (three_keep (Keep.refl (fun k => k = w.heap.size) w4) w.heap.size (.slice a4 0 cp4) (.slice none 0 0) (.slice none 0 0) (.inl rfl)).owns hno4 (fun k hk e => (by have := (World.ownsRow.lt hno4 k hk).1; have := hB.lt; omega)))
  have sz5 : (((w4.setCell ⟨w.heap.size, 0, none⟩ (.slice a4 0 cp4)).setCell ⟨w.heap.size, 1, none⟩ (.slice none 0 0)).setCell ⟨w.heap.size, 2, none⟩ (.slice none 0 0)).heap.size = w4.heap.size := by simp only [World.size_setCell]
  clear hB4 r0 r1 r2 rf
  generalize ((w4.setCell ⟨w.heap.size, 0, none⟩ (.slice a4 0 cp4)).setCell ⟨w.heap.size, 1, none⟩ (.slice none 0 0)).setCell ⟨w.heap.size, 2, none⟩ (.slice none 0 0) = W5 at *
  have hT := ST.new hb5 hG
  have hA6 := (Below.refl _ W5).alloc (Nat.le_refl _) (.cells st0 49)
  have hB6 := hB5.below hA6
  have r0 := hB6.c0
  have r1 := hB6.c1
  have r2 := hB6.c2
  have c0 := hT.c 0 (by decide)
  have c1 := hT.c1 0 (by decide)
  have c2 := hT.c2 0 (by decide)
  have cf := hT.f
  have hlt := hT.lt
  have hvS : (Value.slice a4 0 cp4).ownBlock ≠ some W5.heap.size := fun e => by have h1 := (World.ownsRow.lt hno5 _ e).2; omega
  have hNS : NS (W5.alloc (.cells st0 49)) (.slice a4 0 cp4) (G 0) := by rw [hG]; exact hno5.ns.below hA6
  have hfin := hT.put0 hNS hvS
  have hfd := hfin.below (Below.refl _ _).drew
  rw [← sz5]
  clear sz5
  generalize W5.heap.size = S at *
  generalize W5.alloc (.cells st0 49) = W6 at *
  go_region
  go_wp2_with fail
  go_ret2
  exact ⟨_, rfl, _, hfd⟩
end Go.Proofs.Ytcgjkllgfdgmeaa
