/- The heap: take. -/
import Derived.Test.YtpapknmkiampgaaC
namespace Go.Proofs.Ytpapknmkiampgaa
open Go.RowKit

theorem up_len (s : HS) (i : Nat) : (upS s i).1.length = s.1.length := by
  induction i using Nat.strongRecOn generalizing s with
  | _ i ih =>
    rw [upS]
    split
    · split
      · rename_i h
        rw [ih _ (by omega), swS_len]
      · rfl
    · rfl

theorem ec_dropLast (es : List En) : (es.flatMap ec).take ((es.length - 1) * 2) = es.dropLast.flatMap ec := by
  induction es with
  | nil => rfl
  | cons e es ih =>
    cases es with
    | nil => rfl
    | cons e' es =>
      rw [List.dropLast_cons_cons, List.flatMap_cons, List.flatMap_cons (xs := (e' :: es).dropLast), ← ih]
      have : (es.length + 1 + 1 - 1) * 2 = (es.length + 1 - 1) * 2 + 2 := by omega
      simp only [List.length_cons, this]
      rfl

theorem HW.trunc {w : World} {H G cap : Nat} {es : List En} {po : Nat → Nat} (h : HW w H (.slice (some ⟨G, 0, none⟩) es.length cap) es po) :
    HW (w.setCell ⟨H, 0, none⟩ (.slice (some ⟨G, 0, none⟩) (es.length - 1) cap)) H (.slice (some ⟨G, 0, none⟩) (es.length - 1) cap) es.dropLast po := by
  have hap : G ≠ H := by simpa [Value.ownBlock] using h.apart
  have K : Keep (fun k => k = H) w (w.setCell ⟨H, 0, none⟩ (.slice (some ⟨G, 0, none⟩) (es.length - 1) cap)) := (Keep.refl (fun k => k = H) w).setCell ⟨H, 0, none⟩ _ (.inl rfl)
  refine ⟨World.cell?_setCell_same w _ _ h.c0, ?_, fun n hn => ?_, fun n hn => ?_, ?_, h.apart, ?_, h.small, fun e he => h.node e (List.dropLast_subset _ he)⟩
  · rw [World.frozen?_setCell]; exact h.f0
  · rw [World.cell?_setCell_other _ _ _ _ (by simp)]; exact h.at_ n hn
  · rw [World.frozen?_setCell]; exact h.fa n hn
  · refine K.owns ?_ ?_
    · obtain ⟨h1, h2⟩ := h.own
      rcases h2 with ⟨e, _⟩ | ⟨g, cap', cur, e, hb, hh, r1, r2, r3, r4⟩
      · cases e
      · injection e with e1 e2 e3
        injection e1 with e1
        injection e1 with e1
        subst e1 e3
        refine ⟨by rw [ec_len], .inr ⟨G, cap, cur, by rw [List.length_dropLast], hb, hh, by rw [List.length_dropLast]; omega, r2, r3, ?_⟩⟩
        rw [← ec_dropLast, ← r4, List.take_take, List.length_dropLast]
        congr 1
        omega
    · intro k hk
      simp only [Value.ownBlock, Option.some.injEq] at hk
      subst hk
      exact hap
  · rw [List.length_dropLast]
    have := h.len
    omega

theorem new_cell (w : World) (n : Nat) (hz : w.heap.size = n) (cs : Array Value) (t : TypeId) (j : Nat) (v : Value) (hv : cs[j]? = some v) : (w.alloc (.cells cs t)).cell? ⟨n, j, none⟩ = some v := by
  subst hz
  simp only [World.cell?, heap_alloc_new]
  exact hv
theorem new_free (w : World) (cs : Array Value) (t : TypeId) (j : Nat) : (w.alloc (.cells cs t)).frozen? ⟨w.heap.size, j, none⟩ = false := by
  simp only [World.frozen?, heap_alloc_new]
  simp
theorem take_close (H G n cap L : Nat) (s : HS) (a : En) (w W5 : World) (hW5 : HW W5 H (.slice (some ⟨G, 0, none⟩) n cap) s.1 s.2) (hKT : Keep (fun k => k = H ∨ (Value.slice (some ⟨G, 0, none⟩) L cap).ownBlock = some k) w W5)
    (hRH : w.heap.size ≠ H) (hRG : w.heap.size ≠ G) : ∃ v', HW ((W5.setCell ⟨w.heap.size, 0, none⟩ (.int .i64 a.1)).setCell ⟨w.heap.size, 1, none⟩ (.int .i64 a.2)) H v' s.1 s.2 ∧ v'.ownBlock = (Value.slice (some ⟨G, 0, none⟩) L cap).ownBlock ∧
      Keep (fun k => k = H ∨ (Value.slice (some ⟨G, 0, none⟩) L cap).ownBlock = some k) w ((W5.setCell ⟨w.heap.size, 0, none⟩ (.int .i64 a.1)).setCell ⟨w.heap.size, 1, none⟩ (.int .i64 a.2)) := by
  refine ⟨.slice (some ⟨G, 0, none⟩) n cap, ?_, rfl, (hKT.setCell ⟨w.heap.size, 0, none⟩ _ (.inr (Nat.le_refl _))).setCell ⟨w.heap.size, 1, none⟩ _ (.inr (Nat.le_refl _))⟩
  exact hW5.keep (((Keep.refl (fun k => k = w.heap.size) W5).setCell ⟨w.heap.size, 0, none⟩ _ (.inl rfl)).setCell ⟨w.heap.size, 1, none⟩ _ (.inl rfl)) (Ne.symm hRH) (fun g hg e => by simp [Value.ownBlock] at hg; omega)
/-- The heap without the entry at i, which is a. -/
def takeS (s : HS) (i : Nat) (a b : En) : HS :=
  if i < s.1.length - 1 then downS (upS ((swS s i (s.1.length - 1) a b).1.dropLast, upd (swS s i (s.1.length - 1) a b).2 a.2 0) i) i
  else ((swS s i (s.1.length - 1) a b).1.dropLast, upd (swS s i (s.1.length - 1) a b).2 a.2 0)

def TakeOk (H : Nat) (v : Value) (s : HS) (w w' : World) : Prop := ∃ v', HW w' H v' s.1 s.2 ∧ v'.ownBlock = v.ownBlock ∧ Keep (fun k => k = H ∨ v.ownBlock = some k) w w'

set_option maxHeartbeats 4000000 in
theorem take_any (H : Nat) (v : Value) (s : HS) (i : Nat) (a b : En) (w : World) (h : HW w H v s.1 s.2) (hi : s.1[i]? = some a) (hb : s.1[s.1.length - 1]? = some b) :
    Calls Try.prog 37 #[.pointer (some ⟨H, 0, none⟩), .int .i64 i] w fun e w' => e = .returned (.agg #[.int .i64 a.1, .int .i64 a.2]) ∧ TakeOk H v (takeS s i a b) w w' := by
  have hl := h.len
  have hil : i < s.1.length := (List.getElem?_eq_some_iff.1 hi).1
  have hH := h.lt
  have c0 := h.c0
  obtain ⟨G, cap, rfl, hG, hGl, hcap, hcm, hrow⟩ := h.row (by omega)
  unfold maxLen at hcm
  have HI := Lib.hid hi
  have HB := Lib.hid hb
  have bR : Below w.heap.size w (w.alloc (.cells #[.int .i64 0, .int .i64 0] 69)) := (Below.refl _ _).alloc (Nat.le_refl _) _
  have h1 := h.below bR
  clear hi hb hrow
  go_enter Try.func37, Try.ntmps37
  go_wp2_with fail
  refine (swap_at H _ s.1 s.2 i (s.1.length - 1) a b _ _ _ (by omega) (by omega) h1 HI.out HB.out).mono ?_
  rintro e W1 ⟨rfl, hW1, hK1⟩
  have hlen : (swS (s.1, s.2) i (s.1.length - 1) a b).1.length = s.1.length := swS_len (s.1, s.2) i (s.1.length - 1) a b
  have hla : (swS (s.1, s.2) i (s.1.length - 1) a b).1[s.1.length - 1]? = some a := by
    simp only [swS]
    rw [List.getElem?_set_self]
    simp
    omega
  obtain ⟨t, HT⟩ : ∃ t, Veil (swS s i (s.1.length - 1) a b = t) := ⟨_, ⟨rfl⟩⟩
  have HT2 : swS (s.1, s.2) i (s.1.length - 1) a b = t := HT.out
  rw [HT2] at hW1 hlen hla
  clear HT2
  have hrow := hW1.row (by omega)
  obtain ⟨G', cap', hv', _, _, _, _, hrow⟩ := hrow
  rw [hlen] at hv'
  injection hv' with e1 e2 e3
  injection e1 with e1
  injection e1 with e1
  subst e1 e3
  obtain ⟨x0, x1, _, _⟩ := hrow (s.1.length - 1) a hla
  have na : a.2 < 128 := hW1.node a (List.mem_of_getElem? hla)
  have c1 := hW1.c0
  have f1 := hW1.f0
  have p1 := hW1.at_ a.2 na
  have pf1 := hW1.fa a.2 na
  have hH1 := hW1.lt
  have hR1 : w.heap.size < W1.heap.size := by have := hK1.size; simp at this; omega
  have hG1 : G < W1.heap.size := by omega
  clear hrow e2 c0
  have HL := Lib.hid hlen
  have HLA := Lib.hid hla
  clear hlen hla
  have HG : Veil (HW W1 H (.slice (some ⟨G, 0, none⟩) t.1.length cap) t.1 t.2) := ⟨by rw [HL.out]; exact hW1⟩
  go_wp2_with fail
  obtain ⟨W2, hw2⟩ : ∃ W2, W2 = (W1.setCell ⟨H, 0, none⟩ (.slice (some ⟨G, 0, none⟩) (s.1.length - 1) cap)).alloc (.cells #[.int .i64 a.1, .int .i64 a.2] 69) := ⟨_, rfl⟩
  have hW2 : HW W2 H (.slice (some ⟨G, 0, none⟩) (s.1.length - 1) cap) t.1.dropLast t.2 := by
    rw [hw2]
    have := HG.out.trunc
    rw [HL.out] at this
    exact this.below ((Below.refl _ _).alloc (Nat.le_refl _) _)
  have hK2 : Keep (fun k => k = H ∨ (Value.slice (some ⟨G, 0, none⟩) s.1.length cap).ownBlock = some k) W1 W2 := by
    rw [hw2]
    exact ((Keep.refl _ W1).setCell ⟨H, 0, none⟩ _ (.inl (.inl rfl))).alloc _
  have hz : (W1.setCell ⟨H, 0, none⟩ (.slice (some ⟨G, 0, none⟩) (s.1.length - 1) cap)).heap.size = W1.heap.size := by simp [World.setCell]
  have q0 : W2.cell? ⟨W1.heap.size, 0, none⟩ = some (.int .i64 a.1) := by rw [hw2]; exact new_cell _ _ hz _ _ 0 _ rfl
  have q1 : W2.cell? ⟨W1.heap.size, 1, none⟩ = some (.int .i64 a.2) := by rw [hw2]; exact new_cell _ _ hz _ _ 1 _ rfl
  have hX2 : W1.heap.size < W2.heap.size := by rw [hw2]; simp [World.setCell]
  clear hz
  rw [← hw2]
  clear hw2 x0 x1 c1 f1 p1 pf1
  have hK12 := hK1.trans hK2
  have hRH : w.heap.size ≠ H := by omega
  have hRG : w.heap.size ≠ G := by omega
  have r0 := hK12.cell (a := ⟨w.heap.size, 0, none⟩) (v := .int .i64 0) (new_cell w _ rfl _ _ 0 _ rfl) (by rintro (e | e); exact hRH e; simp [Value.ownBlock] at e; omega)
  have r1 := hK12.cell (a := ⟨w.heap.size, 1, none⟩) (v := .int .i64 0) (new_cell w _ rfl _ _ 1 _ rfl) (by rintro (e | e); exact hRH e; simp [Value.ownBlock] at e; omega)
  have g0 := hK12.unfrozen (a := ⟨w.heap.size, 0, none⟩) (b := false) (by simp) (new_free w _ _ 0) (by rintro (e | e); exact hRH e; simp [Value.ownBlock] at e; omega)
  have g1 := hK12.unfrozen (a := ⟨w.heap.size, 1, none⟩) (b := false) (by simp) (new_free w _ _ 1) (by rintro (e | e); exact hRH e; simp [Value.ownBlock] at e; omega)
  have p2 := hW2.at_ a.2 na
  have pf2 := hW2.fa a.2 na
  have hH2 := hW2.lt
  have hK02 := ((Keep.refl (fun k => k = H ∨ (Value.slice (some ⟨G, 0, none⟩) s.1.length cap).ownBlock = some k) w).alloc (.cells #[.int .i64 0, .int .i64 0] 69)).trans hK12
  have HTA : Veil (takeS s i a b = if i < s.1.length - 1 then downS (upS (t.1.dropLast, upd t.2 a.2 0) i) i else (t.1.dropLast, upd t.2 a.2 0)) := ⟨by unfold takeS; rw [HT.out]⟩
  have hDL : t.1.dropLast.length = s.1.length - 1 := by rw [List.length_dropLast, HL.out]
  generalize hd : t.1.dropLast = d at hW2 HTA hDL
  have HDL := Lib.hid hDL
  clear hd HT HG HLA hK1 hK2 hK12 hW1 bR h1 h hDL
  go_region
  obtain ⟨W3, hw3⟩ : ∃ W3, W3 = (W2.setCell ⟨H, 1 + a.2, none⟩ (.int .i64 0)).drew := ⟨_, rfl⟩
  have hK3 : Keep (fun k => k = H ∨ (Value.slice (some ⟨G, 0, none⟩) s.1.length cap).ownBlock = some k) W2 W3 := by
    rw [hw3]
    exact ((Keep.refl _ W2).setCell ⟨H, 1 + a.2, none⟩ _ (.inl (.inl rfl))).drewN 1
  have hW3 : HW W3 H (.slice (some ⟨G, 0, none⟩) (s.1.length - 1) cap) d (upd t.2 a.2 0) := by
    rw [hw3]
    exact (hW2.setP a.2 0 (by omega)).drew
  rw [← hw3]
  clear hw3 p2 pf2 hH2
  by_cases hlast : i < s.1.length - 1
  · rw [if_pos hlast] at HTA
    go_wp2_with fail
    refine (up_any H _ (d, upd t.2 a.2 0) i W3 hW3 (by rw [HDL.out]; exact hlast)).mono ?_
    rintro e W4 ⟨rfl, hW4, hK4⟩
    go_wp2_with fail
    refine (down_any H _ (upS (d, upd t.2 a.2 0) i) i W4 hW4 (by rw [up_len, HDL.out]; exact hlast)).mono ?_
    rintro e W5 ⟨rfl, hW5, hK5⟩
    rw [← HTA.out] at hW5
    have hKt : Keep (fun k => k = H ∨ (Value.slice (some ⟨G, 0, none⟩) s.1.length cap).ownBlock = some k) W2 W5 := hK3.trans (hK4.trans hK5)
    have hKT := hK02.trans hKt
    have q0' := hKt.cell q0 (by rintro (e | e); simp at e; omega; simp [Value.ownBlock] at e; omega)
    have q1' := hKt.cell q1 (by rintro (e | e); simp at e; omega; simp [Value.ownBlock] at e; omega)
    have r0' := hKt.cell r0 (by rintro (e | e); exact hRH e; simp [Value.ownBlock] at e; omega)
    have r1' := hKt.cell r1 (by rintro (e | e); exact hRH e; simp [Value.ownBlock] at e; omega)
    have g0' := hKt.unfrozen (World.block_lt_of_cell? _ _ r0) g0 (by rintro (e | e); exact hRH e; simp [Value.ownBlock] at e; omega)
    have g1' := hKt.unfrozen (World.block_lt_of_cell? _ _ r1) g1 (by rintro (e | e); exact hRH e; simp [Value.ownBlock] at e; omega)
    have hfin := take_close H G _ cap s.1.length (takeS s i a b) a w _ hW5 hKT hRH hRG
    clear hK3 hK4 hK5 hW4 hW3 q0 q1 r0 r1 g0 g1 hK02 hKt hKT hW5
    go_wp2
    exact bodyPost_ret (v := .agg #[.int .i64 a.1, .int .i64 a.2]) (by simp [results, Try.results37, go_sem, r0', r1']) rfl ⟨rfl, hfin⟩
  · rw [if_neg hlast] at HTA
    have hW5 := hW3
    have e5 := HTA.out.symm
    rw [show d = (d, upd t.2 a.2 0).1 from rfl, show upd t.2 a.2 0 = (d, upd t.2 a.2 0).2 from rfl, e5] at hW5
    clear e5
    have hKt := hK3
    have hKT := hK02.trans hKt
    have q0' := hKt.cell q0 (by rintro (e | e); simp at e; omega; simp [Value.ownBlock] at e; omega)
    have q1' := hKt.cell q1 (by rintro (e | e); simp at e; omega; simp [Value.ownBlock] at e; omega)
    have r0' := hKt.cell r0 (by rintro (e | e); exact hRH e; simp [Value.ownBlock] at e; omega)
    have r1' := hKt.cell r1 (by rintro (e | e); exact hRH e; simp [Value.ownBlock] at e; omega)
    have g0' := hKt.unfrozen (World.block_lt_of_cell? _ _ r0) g0 (by rintro (e | e); exact hRH e; simp [Value.ownBlock] at e; omega)
    have g1' := hKt.unfrozen (World.block_lt_of_cell? _ _ r1) g1 (by rintro (e | e); exact hRH e; simp [Value.ownBlock] at e; omega)
    have hfin := take_close H G _ cap s.1.length (takeS s i a b) a w _ hW5 hKT hRH hRG
    clear hK3 hW3 q0 q1 r0 r1 g0 g1 hK02 hKt hKT hW5
    go_wp2
    exact bodyPost_ret (v := .agg #[.int .i64 a.1, .int .i64 a.2]) (by simp [results, Try.results37, go_sem, r0', r1']) rfl ⟨rfl, hfin⟩
end Go.Proofs.Ytpapknmkiampgaa
