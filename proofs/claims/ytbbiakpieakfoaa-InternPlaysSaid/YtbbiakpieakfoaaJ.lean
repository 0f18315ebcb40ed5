/- The union by definition. -/
import Derived.Test.YtbbiakpieakfoaaI
namespace Go.Proofs.Ytbbiakpieakfoaa
open Go.RowKit

/-- The boxes of Union by definition. -/
structure UnB (w wr : World) (v : Value) (L : List Bt) (G : Nat) : Prop where
  b : Below w.heap.size w wr
  c3 : wr.cell? ⟨w.heap.size, 0, none⟩ = some v
  c8 : wr.cell? ⟨w.heap.size + 1, 0, none⟩ = some (.slice none 0 0)
  f8 : wr.frozen? ⟨w.heap.size + 1, 0, none⟩ = false
  t : RefT wr v L G
  sz : w.heap.size + 1 < wr.heap.size
theorem UnB.below {w wr w2 : World} {v : Value} {L : List Bt} {G : Nat} (h : UnB w wr v L G) (hb : Below wr.heap.size wr w2) : UnB w w2 v L G := by
  have k := Keep.of_below (S := fun _ => False) hb
  exact ⟨h.b.trans (hb.mono h.b.size), k.cell h.c3 (by simp), k.cell h.c8 (by simp), k.unfrozen (World.block_lt_of_cell? _ _ h.c8) h.f8 (by simp), h.t.below hb, Nat.lt_of_lt_of_le h.sz hb.size⟩
theorem UnB.alloc {w wr : World} {v : Value} {L : List Bt} {G : Nat} (h : UnB w wr v L G) (o : Obj) : UnB w (wr.alloc o) v L G := h.below ((Below.refl _ _).alloc (Nat.le_refl _) o)
theorem UnB.drew {w wr : World} {v : Value} {L : List Bt} {G : Nat} (h : UnB w wr v L G) : UnB w wr.drew v L G := h.below (below_drewN (Below.refl _ _) 1)
theorem UnB.new (w : World) (v : Value) (L : List Bt) (G : Nat) (h : RefT w v L G) : UnB w ((w.alloc (.cells #[v] 41)).alloc (.cells #[.slice none 0 0] 41)) v L G := by
  have b1 := (Below.refl w.heap.size w).alloc (Nat.le_refl _) (.cells #[v] 41)
  have b2 := b1.alloc (by simp) (.cells #[.slice none 0 0] 41)
  have hh := heap_alloc_new w (.cells #[v] 41)
  have hc := heap_alloc_new (w.alloc (.cells #[v] 41)) (.cells #[.slice none 0 0] 41)
  rw [World.size_alloc] at hc
  refine ⟨b2, ?_, ?_, ?_, h.below b2, by simp⟩
  · rw [World.cell?_alloc_past _ _ _ (by simp)]
    simp only [World.cell?, hh]
    rfl
  · simp only [World.cell?, hc]
    rfl
  · simp only [World.frozen?, hc]
    rfl
/-- The end: the answer is laid into its box. -/
theorem un_end {w W2 : World} {v v' : Value} {L L' : List Bt} {G G' : Nat} (hI : UnB w W2 v L G) (t : RefT W2 v' L' G') (hG : G' = G ∨ w.heap.size ≤ G') (hne : G' ≠ w.heap.size + 1) :
    (W2.setCell ⟨w.heap.size + 1, 0, none⟩ v').cell? ⟨w.heap.size + 1, 0, none⟩ = some v' ∧ RefT (W2.setCell ⟨w.heap.size + 1, 0, none⟩ v') v' L' G' ∧ Below w.heap.size w (W2.setCell ⟨w.heap.size + 1, 0, none⟩ v') ∧ (G' = G ∨ w.heap.size ≤ G') := by
  have k : Keep (fun j => j = w.heap.size + 1) W2 (W2.setCell ⟨w.heap.size + 1, 0, none⟩ v') := (Keep.refl (fun j => j = w.heap.size + 1) W2).setCell _ _ (.inl rfl)
  exact ⟨World.cell?_setCell_same _ _ _ hI.c8, t.keep k hne, hI.b.setCell (by simp) _, hG⟩

set_option maxHeartbeats 4000000 in
set_option maxRecDepth 100000 in
theorem refUnion_any (v : Value) (G : Nat) (a b : Int) (L : List Bt) (w : World) (h : RefT w v L G) (hlen : L.length ≤ 1024) (hpos : 0 < L.length) :
    Calls Try.prog 17 #[.agg #[v], .int .i64 a, .int .i64 b] w (IdAns w G (unionR L a b)) := by
  obtain ⟨P, hP⟩ : ∃ P, Veil (setR L a = P) := ⟨_, ⟨rfl⟩⟩
  obtain ⟨Q, hQ⟩ : ∃ Q, Veil (setR L b = Q) := ⟨_, ⟨rfl⟩⟩
  obtain ⟨R, hR⟩ : ∃ R, Veil (unionR L a b = R) := ⟨_, ⟨rfl⟩⟩
  rw [hR.out]
  have rP : Veil (P.2 = 0 ∨ P.2 = 2) := ⟨hP.out ▸ setR_err L a⟩
  have rQ : Veil (Q.2 = 0 ∨ Q.2 = 2) := ⟨hQ.out ▸ setR_err L b⟩
  have hin : Veil (P.2 = 0 → Q.2 = 0 → R = idRes (orB P.1 Q.1) L) := ⟨by rw [← hP.out, ← hQ.out, ← hR.out]; exact unionR_in L a b⟩
  have hout : Veil (¬ (P.2 = 0 ∧ Q.2 = 0) → R = (0, 2, L)) := ⟨by rw [← hP.out, ← hQ.out, ← hR.out]; exact unionR_out L a b⟩
  have hlt := h.lt
  obtain ⟨cap, rfl, ho⟩ := id h
  have hU := UnB.new w _ L G h
  clear ho h
  go_enter Try.func17, Try.ntmps17
  go_wp2_with fail
  generalize (w.alloc (.cells #[.slice (some ⟨G, 0, none⟩) L.length cap] 41)).alloc (.cells #[.slice none 0 0] 41) = W0 at hU ⊢
  refine (refSet_any _ G a L W0 hU.t).mono ?_
  rintro e w1 ⟨rfl, hb1⟩
  rw [hP.out]
  obtain ⟨w2, e2⟩ : ∃ w2, w1.alloc (.cells #[.int .u64 (u P.1.1), .int .u64 (u P.1.2)] 24) = w2 := ⟨_, rfl⟩
  obtain ⟨B9, hB9⟩ : ∃ B, w1.heap.size = B := ⟨_, rfl⟩
  have a9 := Port.Arr.new w1 P.1
  replace hU := (hU.below hb1).alloc (.cells #[.int .u64 (u P.1.1), .int .u64 (u P.1.2)] 24)
  rw [e2] at a9 hU
  rw [hB9] at a9
  clear hb1
  obtain ⟨_, c3, c8, f8, _, _⟩ := id hU
  go_wp2_with fail
  clear c3 c8 f8
  refine (refSet_any _ G b L w2 hU.t).mono ?_
  rintro e w3 ⟨rfl, hb3⟩
  rw [hQ.out]
  obtain ⟨w4, e4⟩ : ∃ w4, w3.alloc (.cells #[.int .u64 (u Q.1.1), .int .u64 (u Q.1.2)] 24) = w4 := ⟨_, rfl⟩
  obtain ⟨B11, hB11⟩ : ∃ B, w3.heap.size = B := ⟨_, rfl⟩
  have a11 := Port.Arr.new w3 Q.1
  replace hU := (hU.below hb3).alloc (.cells #[.int .u64 (u Q.1.1), .int .u64 (u Q.1.2)] 24)
  replace a9 := (a9.below hb3).alloc (Nat.lt_of_lt_of_le (World.block_lt_of_cell? _ _ a9.1) hb3.size) (.cells #[.int .u64 (u Q.1.1), .int .u64 (u Q.1.2)] 24)
  rw [e4] at a9 a11 hU
  rw [hB11] at a11
  clear hb3
  obtain ⟨p, pe⟩ := P
  obtain ⟨q, qe⟩ := Q
  dsimp only at rP rQ hin hout a9 a11 e4 ⊢
  rcases rP.out with rfl | rfl
  · rcases rQ.out with rfl | rfl
    · have hRk := hin.out rfl rfl
      subst hRk
      clear hin hout rP rQ hP hQ hR
      obtain ⟨_, c3, c8, f8, _, _⟩ := id hU
      obtain ⟨a90, a91, _, _⟩ := id a9
      obtain ⟨a110, a111, _, _⟩ := id a11
      go_wp2_with fail
      replace hU := hU.drew
      go_region_with (first | (go_at_call 20; refine (refOr_any p q _).mono ?_; rintro e w5 ⟨rfl, hb5⟩; have hU5 := hU.below hb5; obtain ⟨_, x3, x8, y8, _, _⟩ := id hU5) | (go_at_call 15; refine (refID_any _ G (orB p q) L _ hU5.t hlen hpos).mono ?_; rintro e w6 ⟨v', G', rfl, ht', hb6, hG'⟩; have hU6 := hU5.below hb6; obtain ⟨cap', rfl, _⟩ := id ht'; obtain ⟨_, z3, z8, zf8, _, _⟩ := id hU6))
      all_goals
        have hsz5 := hU5.sz
        have hend := Veil.mk (un_end hU6 ht' (by rcases hG' with h | h <;> first | exact .inl h | exact .inr (by omega)) (by rcases hG' with h | h <;> omega))
        go_wp2
        exact bodyPost_ret (v := .tuple #[.int .i64 (idRes (orB p q) L).1, .int .i64 (idRes (orB p q) L).2.1, .agg #[.slice (some ⟨G', 0, none⟩) (idRes (orB p q) L).2.2.length cap']]) (by have e := hend.out.1; simp [results, Try.results17, go_sem, e]) rfl ⟨_, G', rfl, hend.out.2⟩
    · have hRk := hout.out (by simp)
      subst hRk
      clear hin hout rP rQ hP hQ hR
      obtain ⟨_, c3, c8, f8, ht, _⟩ := id hU
      have hend := Veil.mk (un_end hU ht (.inl rfl) (by omega))
      go_wp2_with fail
      go_region
      go_wp2
      exact bodyPost_ret (v := .tuple #[.int .i64 0, .int .i64 2, .agg #[.slice (some ⟨G, 0, none⟩) L.length cap]]) (by have e := hend.out.1; simp [results, Try.results17, go_sem, e]) rfl ⟨_, G, rfl, hend.out.2.1.below (below_drewN (Below.refl _ _) 1), below_drewN hend.out.2.2.1 1, .inl rfl⟩
  · have hRk := hout.out (by simp)
    subst hRk
    clear hin hout hP hQ hR
    obtain ⟨_, c3, c8, f8, ht, _⟩ := id hU
    have hend := Veil.mk (un_end hU ht (.inl rfl) (by omega))
    rcases rQ.out with rfl | rfl
    · clear rP rQ
      go_wp2_with fail
      go_region
      go_wp2
      exact bodyPost_ret (v := .tuple #[.int .i64 0, .int .i64 2, .agg #[.slice (some ⟨G, 0, none⟩) L.length cap]]) (by have e := hend.out.1; simp [results, Try.results17, go_sem, e]) rfl ⟨_, G, rfl, hend.out.2.1.below (below_drewN (Below.refl _ _) 1), below_drewN hend.out.2.2.1 1, .inl rfl⟩
    · clear rP rQ
      go_wp2_with fail
      go_region
      go_wp2
      exact bodyPost_ret (v := .tuple #[.int .i64 0, .int .i64 2, .agg #[.slice (some ⟨G, 0, none⟩) L.length cap]]) (by have e := hend.out.1; simp [results, Try.results17, go_sem, e]) rfl ⟨_, G, rfl, hend.out.2.1.below (below_drewN (Below.refl _ _) 1), below_drewN hend.out.2.2.1 1, .inl rfl⟩
end Go.Proofs.Ytbbiakpieakfoaa
