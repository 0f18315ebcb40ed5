/- Parts of this proof, joined. -/
import Derived.Test.YtpebpfaecdmabaaGreatDoorZF03
import Derived.Test.YtpebpfaecdmabaaGreatDoorRows
import Derived.Test.YtpebpfaecdmabaaGreatDoorZF00
/- The heap: take. -/
namespace Go.Proofs.YtpebpfaecdmabaaGreatDoor.Hp
open Go.RowKit

theorem up_len (s : HS) (i : Nat) : (upS s i).1.length = s.1.length := by
  induction i using Nat.strongRecOn generalizing s with
  | _ i ih =>
    rw [upS]
    split
    · split
      · rename_i h
        rw [ih _ (by omega), swS_len]
      · rfl
    · rfl

theorem ec_dropLast (es : List En) : (es.flatMap ec).take ((es.length - 1) * 2) = es.dropLast.flatMap ec := by
  induction es with
  | nil => rfl
  | cons e es ih =>
    cases es with
    | nil => rfl
    | cons e' es =>
      rw [List.dropLast_cons_cons, List.flatMap_cons, List.flatMap_cons (xs := (e' :: es).dropLast), ← ih]
      have : (es.length + 1 + 1 - 1) * 2 = (es.length + 1 - 1) * 2 + 2 := by omega
      simp only [List.length_cons, this]
      rfl

theorem HW.trunc {w : World} {H G cap : Nat} {es : List En} {po : Nat → Nat} (h : HW w H (.slice (some ⟨G, 0, none⟩) es.length cap) es po) :
    HW (w.setCell ⟨H, 0, none⟩ (.slice (some ⟨G, 0, none⟩) (es.length - 1) cap)) H (.slice (some ⟨G, 0, none⟩) (es.length - 1) cap) es.dropLast po := by
  have hap : G ≠ H := by simpa [Value.ownBlock] using h.apart
  have K : Keep (fun k => k = H) w (w.setCell ⟨H, 0, none⟩ (.slice (some ⟨G, 0, none⟩) (es.length - 1) cap)) := (Keep.refl (fun k => k = H) w).setCell ⟨H, 0, none⟩ _ (.inl rfl)
  refine ⟨World.cell?_setCell_same w _ _ h.c0, ?_, fun n hn => ?_, fun n hn => ?_, ?_, h.apart, ?_, h.small, fun e he => h.node e (List.dropLast_subset _ he)⟩
  · rw [World.frozen?_setCell]; exact h.f0
  · rw [World.cell?_setCell_other _ _ _ _ (by simp)]; exact h.at_ n hn
  · rw [World.frozen?_setCell]; exact h.fa n hn
  · refine K.owns ?_ ?_
    · obtain ⟨h1, h2⟩ := h.own
      rcases h2 with ⟨e, _⟩ | ⟨g, cap', cur, e, hb, hh, r1, r2, r3, r4⟩
      · cases e
      · injection e with e1 e2 e3
        injection e1 with e1
        injection e1 with e1
        subst e1 e3
        refine ⟨by rw [ec_len], .inr ⟨G, cap, cur, by rw [List.length_dropLast], hb, hh, by rw [List.length_dropLast]; omega, r2, r3, ?_⟩⟩
        rw [← ec_dropLast, ← r4, List.take_take, List.length_dropLast]
        congr 1
        omega
    · intro k hk
      simp only [Value.ownBlock, Option.some.injEq] at hk
      subst hk
      exact hap
  · rw [List.length_dropLast]
    have := h.len
    omega

theorem new_cell (w : World) (n : Nat) (hz : w.heap.size = n) (cs : Array Value) (t : TypeId) (j : Nat) (v : Value) (hv : cs[j]? = some v) : (w.alloc (.cells cs t)).cell? ⟨n, j, none⟩ = some v := by
  subst hz
  simp only [World.cell?, heap_alloc_new]
  exact hv
theorem new_free (w : World) (cs : Array Value) (t : TypeId) (j : Nat) : (w.alloc (.cells cs t)).frozen? ⟨w.heap.size, j, none⟩ = false := by
  simp only [World.frozen?, heap_alloc_new]
  simp
theorem take_close (H G n cap L : Nat) (s : HS) (a : En) (w W5 : World) (hW5 : HW W5 H (.slice (some ⟨G, 0, none⟩) n cap) s.1 s.2) (hKT : Keep (fun k => k = H ∨ (Value.slice (some ⟨G, 0, none⟩) L cap).ownBlock = some k) w W5)
    (hRH : w.heap.size ≠ H) (hRG : w.heap.size ≠ G) : ∃ v', HW ((W5.setCell ⟨w.heap.size, 0, none⟩ (.int .i64 a.1)).setCell ⟨w.heap.size, 1, none⟩ (.int .i64 a.2)) H v' s.1 s.2 ∧ v'.ownBlock = (Value.slice (some ⟨G, 0, none⟩) L cap).ownBlock ∧
      Keep (fun k => k = H ∨ (Value.slice (some ⟨G, 0, none⟩) L cap).ownBlock = some k) w ((W5.setCell ⟨w.heap.size, 0, none⟩ (.int .i64 a.1)).setCell ⟨w.heap.size, 1, none⟩ (.int .i64 a.2)) := by
  refine ⟨.slice (some ⟨G, 0, none⟩) n cap, ?_, rfl, (hKT.setCell ⟨w.heap.size, 0, none⟩ _ (.inr (Nat.le_refl _))).setCell ⟨w.heap.size, 1, none⟩ _ (.inr (Nat.le_refl _))⟩
  exact hW5.keep (((Keep.refl (fun k => k = w.heap.size) W5).setCell ⟨w.heap.size, 0, none⟩ _ (.inl rfl)).setCell ⟨w.heap.size, 1, none⟩ _ (.inl rfl)) (Ne.symm hRH) (fun g hg e => by simp [Value.ownBlock] at hg; omega)
/-- The heap without the entry at i, which is a. -/
def takeS (s : HS) (i : Nat) (a b : En) : HS :=
  if i < s.1.length - 1 then downS (upS ((swS s i (s.1.length - 1) a b).1.dropLast, upd (swS s i (s.1.length - 1) a b).2 a.2 0) i) i
  else ((swS s i (s.1.length - 1) a b).1.dropLast, upd (swS s i (s.1.length - 1) a b).2 a.2 0)

def TakeOk (H : Nat) (v : Value) (s : HS) (w w' : World) : Prop := ∃ v', HW w' H v' s.1 s.2 ∧ v'.ownBlock = v.ownBlock ∧ Keep (fun k => k = H ∨ v.ownBlock = some k) w w'

set_option maxHeartbeats 4000000 in
theorem take_any (H : Nat) (v : Value) (s : HS) (i : Nat) (a b : En) (w : World) (h : HW w H v s.1 s.2) (hi : s.1[i]? = some a) (hb : s.1[s.1.length - 1]? = some b) :
    Calls Tryz.prog 85 #[.pointer (some ⟨H, 0, none⟩), .int .i64 i] w fun e w' => e = .returned (.agg #[.int .i64 a.1, .int .i64 a.2]) ∧ TakeOk H v (takeS s i a b) w w' := by
  have hl := h.len
  have hil : i < s.1.length := (List.getElem?_eq_some_iff.1 hi).1
  have hH := h.lt
  have c0 := h.c0
  obtain ⟨G, cap, rfl, hG, hGl, hcap, hcm, hrow⟩ := h.row (by omega)
  unfold maxLen at hcm
  have HI := Lib.hid hi
  have HB := Lib.hid hb
  have bR : Below w.heap.size w (w.alloc (.cells #[.int .i64 0, .int .i64 0] 139)) := (Below.refl _ _).alloc (Nat.le_refl _) _
  have h1 := h.below bR
  clear hi hb hrow
  go_enter Tryz.func85, Tryz.ntmps85
  go_wp2_with fail
  refine (swap_at H _ s.1 s.2 i (s.1.length - 1) a b _ _ _ (by omega) (by omega) h1 HI.out HB.out).mono ?_
  rintro e W1 ⟨rfl, hW1, hK1⟩
  have hlen : (swS (s.1, s.2) i (s.1.length - 1) a b).1.length = s.1.length := swS_len (s.1, s.2) i (s.1.length - 1) a b
  have hla : (swS (s.1, s.2) i (s.1.length - 1) a b).1[s.1.length - 1]? = some a := by
    simp only [swS]
    rw [List.getElem?_set_self]
    simp
    omega
  obtain ⟨t, HT⟩ : ∃ t, Veil (swS s i (s.1.length - 1) a b = t) := ⟨_, ⟨rfl⟩⟩
  have HT2 : swS (s.1, s.2) i (s.1.length - 1) a b = t := HT.out
  rw [HT2] at hW1 hlen hla
  clear HT2
  have hrow := hW1.row (by omega)
  obtain ⟨G', cap', hv', _, _, _, _, hrow⟩ := hrow
  rw [hlen] at hv'
  injection hv' with e1 e2 e3
  injection e1 with e1
  injection e1 with e1
  subst e1 e3
  obtain ⟨x0, x1, _, _⟩ := hrow (s.1.length - 1) a hla
  have na : a.2 < 128 := hW1.node a (List.mem_of_getElem? hla)
  have c1 := hW1.c0
  have f1 := hW1.f0
  have p1 := hW1.at_ a.2 na
  have pf1 := hW1.fa a.2 na
  have hH1 := hW1.lt
  have hR1 : w.heap.size < W1.heap.size := by have := hK1.size; simp at this; omega
  have hG1 : G < W1.heap.size := by omega
  clear hrow e2 c0
  have HL := Lib.hid hlen
  have HLA := Lib.hid hla
  clear hlen hla
  have HG : Veil (HW W1 H (.slice (some ⟨G, 0, none⟩) t.1.length cap) t.1 t.2) := ⟨by rw [HL.out]; exact hW1⟩
  go_wp2_with fail
  obtain ⟨W2, hw2⟩ : ∃ W2, W2 = (W1.setCell ⟨H, 0, none⟩ (.slice (some ⟨G, 0, none⟩) (s.1.length - 1) cap)).alloc (.cells #[.int .i64 a.1, .int .i64 a.2] 139) := ⟨_, rfl⟩
  have hW2 : HW W2 H (.slice (some ⟨G, 0, none⟩) (s.1.length - 1) cap) t.1.dropLast t.2 := by
    rw [hw2]
    have := HG.out.trunc
    rw [HL.out] at this
    exact this.below ((Below.refl _ _).alloc (Nat.le_refl _) _)
  have hK2 : Keep (fun k => k = H ∨ (Value.slice (some ⟨G, 0, none⟩) s.1.length cap).ownBlock = some k) W1 W2 := by
    rw [hw2]
    exact ((Keep.refl _ W1).setCell ⟨H, 0, none⟩ _ (.inl (.inl rfl))).alloc _
  have hz : (W1.setCell ⟨H, 0, none⟩ (.slice (some ⟨G, 0, none⟩) (s.1.length - 1) cap)).heap.size = W1.heap.size := by simp [World.setCell]
  have q0 : W2.cell? ⟨W1.heap.size, 0, none⟩ = some (.int .i64 a.1) := by rw [hw2]; exact new_cell _ _ hz _ _ 0 _ rfl
  have q1 : W2.cell? ⟨W1.heap.size, 1, none⟩ = some (.int .i64 a.2) := by rw [hw2]; exact new_cell _ _ hz _ _ 1 _ rfl
  have hX2 : W1.heap.size < W2.heap.size := by rw [hw2]; simp [World.setCell]
  clear hz
  rw [← hw2]
  clear hw2 x0 x1 c1 f1 p1 pf1
  have hK12 := hK1.trans hK2
  have hRH : w.heap.size ≠ H := by omega
  have hRG : w.heap.size ≠ G := by omega
  have r0 := hK12.cell (a := ⟨w.heap.size, 0, none⟩) (v := .int .i64 0) (new_cell w _ rfl _ _ 0 _ rfl) (by rintro (e | e); exact hRH e; simp [Value.ownBlock] at e; omega)
  have r1 := hK12.cell (a := ⟨w.heap.size, 1, none⟩) (v := .int .i64 0) (new_cell w _ rfl _ _ 1 _ rfl) (by rintro (e | e); exact hRH e; simp [Value.ownBlock] at e; omega)
  have g0 := hK12.unfrozen (a := ⟨w.heap.size, 0, none⟩) (b := false) (by simp) (new_free w _ _ 0) (by rintro (e | e); exact hRH e; simp [Value.ownBlock] at e; omega)
  have g1 := hK12.unfrozen (a := ⟨w.heap.size, 1, none⟩) (b := false) (by simp) (new_free w _ _ 1) (by rintro (e | e); exact hRH e; simp [Value.ownBlock] at e; omega)
  have p2 := hW2.at_ a.2 na
  have pf2 := hW2.fa a.2 na
  have hH2 := hW2.lt
  have hK02 := ((Keep.refl (fun k => k = H ∨ (Value.slice (some ⟨G, 0, none⟩) s.1.length cap).ownBlock = some k) w).alloc (.cells #[.int .i64 0, .int .i64 0] 139)).trans hK12
  have HTA : Veil (takeS s i a b = if i < s.1.length - 1 then downS (upS (t.1.dropLast, upd t.2 a.2 0) i) i else (t.1.dropLast, upd t.2 a.2 0)) := ⟨by unfold takeS; rw [HT.out]⟩
  have hDL : t.1.dropLast.length = s.1.length - 1 := by rw [List.length_dropLast, HL.out]
  generalize hd : t.1.dropLast = d at hW2 HTA hDL
  have HDL := Lib.hid hDL
  clear hd HT HG HLA hK1 hK2 hK12 hW1 bR h1 h hDL
  go_region
  obtain ⟨W3, hw3⟩ : ∃ W3, W3 = (W2.setCell ⟨H, 1 + a.2, none⟩ (.int .i64 0)).drew := ⟨_, rfl⟩
  have hK3 : Keep (fun k => k = H ∨ (Value.slice (some ⟨G, 0, none⟩) s.1.length cap).ownBlock = some k) W2 W3 := by
    rw [hw3]
    exact ((Keep.refl _ W2).setCell ⟨H, 1 + a.2, none⟩ _ (.inl (.inl rfl))).drewN 1
  have hW3 : HW W3 H (.slice (some ⟨G, 0, none⟩) (s.1.length - 1) cap) d (upd t.2 a.2 0) := by
    rw [hw3]
    exact (hW2.setP a.2 0 (by omega)).drew
  rw [← hw3]
  clear hw3 p2 pf2 hH2
  by_cases hlast : i < s.1.length - 1
  · rw [if_pos hlast] at HTA
    go_wp2_with fail
    refine (up_any H _ (d, upd t.2 a.2 0) i W3 hW3 (by rw [HDL.out]; exact hlast)).mono ?_
    rintro e W4 ⟨rfl, hW4, hK4⟩
    go_wp2_with fail
    refine (down_any H _ (upS (d, upd t.2 a.2 0) i) i W4 hW4 (by rw [up_len, HDL.out]; exact hlast)).mono ?_
    rintro e W5 ⟨rfl, hW5, hK5⟩
    rw [← HTA.out] at hW5
    have hKt : Keep (fun k => k = H ∨ (Value.slice (some ⟨G, 0, none⟩) s.1.length cap).ownBlock = some k) W2 W5 := hK3.trans (hK4.trans hK5)
    have hKT := hK02.trans hKt
    have q0' := hKt.cell q0 (by rintro (e | e); simp at e; omega; simp [Value.ownBlock] at e; omega)
    have q1' := hKt.cell q1 (by rintro (e | e); simp at e; omega; simp [Value.ownBlock] at e; omega)
    have r0' := hKt.cell r0 (by rintro (e | e); exact hRH e; simp [Value.ownBlock] at e; omega)
    have r1' := hKt.cell r1 (by rintro (e | e); exact hRH e; simp [Value.ownBlock] at e; omega)
    have g0' := hKt.unfrozen (World.block_lt_of_cell? _ _ r0) g0 (by rintro (e | e); exact hRH e; simp [Value.ownBlock] at e; omega)
    have g1' := hKt.unfrozen (World.block_lt_of_cell? _ _ r1) g1 (by rintro (e | e); exact hRH e; simp [Value.ownBlock] at e; omega)
    have hfin := take_close H G _ cap s.1.length (takeS s i a b) a w _ hW5 hKT hRH hRG
    clear hK3 hK4 hK5 hW4 hW3 q0 q1 r0 r1 g0 g1 hK02 hKt hKT hW5
    go_wp2
    exact bodyPost_ret (v := .agg #[.int .i64 a.1, .int .i64 a.2]) (by simp [results, Tryz.results85, go_sem, r0', r1']) rfl ⟨rfl, hfin⟩
  · rw [if_neg hlast] at HTA
    have hW5 := hW3
    have e5 := HTA.out.symm
    rw [show d = (d, upd t.2 a.2 0).1 from rfl, show upd t.2 a.2 0 = (d, upd t.2 a.2 0).2 from rfl, e5] at hW5
    clear e5
    have hKt := hK3
    have hKT := hK02.trans hKt
    have q0' := hKt.cell q0 (by rintro (e | e); simp at e; omega; simp [Value.ownBlock] at e; omega)
    have q1' := hKt.cell q1 (by rintro (e | e); simp at e; omega; simp [Value.ownBlock] at e; omega)
    have r0' := hKt.cell r0 (by rintro (e | e); exact hRH e; simp [Value.ownBlock] at e; omega)
    have r1' := hKt.cell r1 (by rintro (e | e); exact hRH e; simp [Value.ownBlock] at e; omega)
    have g0' := hKt.unfrozen (World.block_lt_of_cell? _ _ r0) g0 (by rintro (e | e); exact hRH e; simp [Value.ownBlock] at e; omega)
    have g1' := hKt.unfrozen (World.block_lt_of_cell? _ _ r1) g1 (by rintro (e | e); exact hRH e; simp [Value.ownBlock] at e; omega)
    have hfin := take_close H G _ cap s.1.length (takeS s i a b) a w _ hW5 hKT hRH hRG
    clear hK3 hW3 q0 q1 r0 r1 g0 g1 hK02 hKt hKT hW5
    go_wp2
    exact bodyPost_ret (v := .agg #[.int .i64 a.1, .int .i64 a.2]) (by simp [results, Tryz.results85, go_sem, r0', r1']) rfl ⟨rfl, hfin⟩
end Go.Proofs.YtpebpfaecdmabaaGreatDoor.Hp
/- The heap: New, Len, Top, in. -/
namespace Go.Proofs.YtpebpfaecdmabaaGreatDoor.Hp
open Go.RowKit

/-- The cells of a heap that holds nothing. -/
def heap0 : Array Value := #[.slice none 0 0] ++ Array.replicate 128 (.int .i64 0)
theorem heap0_zero : heap0[0]? = some (.slice none 0 0) := by kernel_rfl
theorem heap0_at (n : Nat) (h : n < 128) : heap0[1 + n]? = some (.int .i64 0) := by
  unfold heap0
  rw [Array.getElem?_append_right (by simp), Array.getElem?_replicate]
  simp [h]
theorem zero66 (w : World) : (zeroValue 137).run Tryz.prog w = .ok (.agg heap0) w := by kernel_rfl
theorem HW.new (w : World) : HW (w.alloc (.cells heap0 137)) w.heap.size (.slice none 0 0) [] (fun _ => 0) :=
  ⟨new_cell w _ rfl _ _ 0 _ heap0_zero, new_free w _ _ _, fun n hn => new_cell w _ rfl _ _ _ _ (heap0_at n hn), fun n _ => new_free w _ _ _, World.ownsRow_nil _ _ _ _, by simp [Value.ownBlock], by simp, by simp, by simp⟩
theorem new_any (w : World) : Calls Tryz.prog 67 #[] w fun e w' => e = .returned (.pointer (some ⟨w.heap.size, 0, none⟩)) ∧ HW w' w.heap.size (.slice none 0 0) [] (fun _ => 0) ∧ Below w.heap.size w w' := by
  have hz := zero66 w
  go_enter Tryz.func67, Tryz.ntmps67
  go_wp2
  go_ret
  exact ⟨rfl, HW.new w, (Below.refl _ _).alloc (Nat.le_refl _) _⟩

theorem in_any (n : Int) (w : World) : Calls Tryz.prog 82 #[.int .i64 n] w fun e w' => e = .returned (.bool (decide (0 ≤ n) && decide (n ≤ 127))) ∧ w = w' := by
  go_enter Tryz.func82, Tryz.ntmps82
  by_cases h : 0 ≤ n
  all_goals
    go_wp2
    go_ret
    exact ⟨ret_bool (by first | (simp [h]; done) | (simp; omega)), rfl⟩

def topR (es : List En) : Value := match es with | [] => .tuple #[.int .i64 0, .int .i64 0, .int .i64 8] | a :: _ => .tuple #[.int .i64 a.2, .int .i64 a.1, .int .i64 0]
theorem top_any (H : Nat) (v : Value) (s : HS) (w : World) (h : HW w H v s.1 s.2) : Calls Tryz.prog 84 #[.pointer (some ⟨H, 0, none⟩)] w fun e w' => e = .returned (topR s.1) ∧ ∃ n, w' = w.drewN n := by
  obtain ⟨es, po⟩ := s
  have c0 := h.c0
  cases es with
  | nil =>
    obtain ⟨a, cap, hv⟩ : ∃ a cap, v = .slice a 0 cap := by
      rcases h.own.2 with ⟨e, h0⟩ | ⟨g, cap, cur, e, _⟩
      · exact ⟨none, 0, by rw [e]⟩
      · exact ⟨_, _, e⟩
    subst hv
    go_enter Tryz.func84, Tryz.ntmps84
    go_wp2
    go_ret3
    exact ⟨rfl, 0, rfl⟩
  | cons a es =>
    obtain ⟨G, cap, rfl, hG, hGl, hcap, hcm, hrow⟩ := h.row (by simp)
    obtain ⟨i0, i1, _, _⟩ := hrow 0 a rfl
    simp only [Nat.zero_mul, Nat.zero_add, List.length_cons] at i0 i1 c0 hcap
    clear hrow
    unfold maxLen at hcm
    go_enter Tryz.func84, Tryz.ntmps84
    go_wp2
    go_quiet (fail)
    go_wp2
    go_ret3
    exact ⟨rfl, _, rfl⟩
theorem top_nil (w : World) : Calls Tryz.prog 84 #[.pointer none] w fun e w' => e = .returned (.tuple #[.int .i64 0, .int .i64 0, .int .i64 2]) ∧ w = w' := by
  go_enter Tryz.func84, Tryz.ntmps84
  go_wp2
  go_ret3
  exact ⟨rfl, rfl⟩
end Go.Proofs.YtpebpfaecdmabaaGreatDoor.Hp
/- The heap: Push, Drop, Pop. -/
namespace Go.Proofs.YtpebpfaecdmabaaGreatDoor.Hp
open Go.RowKit

theorem info69 : (Tryz.prog.info? 139).map (fun i => (i.zero, i.size, i.bytes)) = some (some (.agg #[.int .i64 0, .int .i64 0]), 2, 16) := by kernel_rfl

/-- The heap behind a call: its list may lie in a new block. -/
def Ok (H : Nat) (v : Value) (s : HS) (w w' : World) : Prop := ∃ v', HW w' H v' s.1 s.2 ∧ Keep (fun k => k = H ∨ v.ownBlock = some k) w w' ∧ (v'.ownBlock = v.ownBlock ∨ ∃ g, v'.ownBlock = some g ∧ w.heap.size ≤ g)

theorem push_out (p : Value) (n k : Int) (w : World) (hp : p = .pointer none ∨ ∃ H, p = .pointer (some ⟨H, 0, none⟩)) (hn : p = .pointer none ∨ n < 0 ∨ 127 < n) :
    Calls Tryz.prog 68 #[p, .int .i64 n, .int .i64 k] w fun e w' => e = .returned (.int .i64 2) ∧ w = w' := by
  rcases hp with rfl | ⟨H, rfl⟩
  · go_enter Tryz.func68, Tryz.ntmps68
    go_wp2
    go_ret
    exact ⟨rfl, rfl⟩
  · have hf : (decide (0 ≤ n) && decide (n ≤ 127)) = false := by
      rcases hn with hn | hn | hn
      · cases hn
      · simp; omega
      · simp; omega
    go_enter Tryz.func68, Tryz.ntmps68
    go_wp2_with (go_at_call 82; refine (in_any n _).mono ?_; rintro e w' ⟨rfl, rfl⟩)
    go_ret
    exact ⟨rfl, rfl⟩

theorem push_twice (H : Nat) (v : Value) (s : HS) (n : Nat) (k : Int) (w : World) (h : HW w H v s.1 s.2) (hn : n < 128) (ht : s.2 n ≠ 0) :
    Calls Tryz.prog 68 #[.pointer (some ⟨H, 0, none⟩), .int .i64 n, .int .i64 k] w fun e w' => e = .returned (.int .i64 5) ∧ w = w' := by
  have hf0 : decide (0 ≤ (n : Int)) = true := by simp
  have hf : decide ((n : Int) ≤ 127) = true := by simp; omega
  have ha := h.at_ n hn
  have ht' : ((s.2 n : Int) != 0) = true := by simpa using ht
  go_enter Tryz.func68, Tryz.ntmps68
  go_wp2_with (go_at_call 82; refine (in_any n _).mono ?_; rintro e w' ⟨rfl, rfl⟩)
  go_ret
  exact ⟨rfl, rfl⟩

theorem own_form {w : World} {base : Nat} {e : TypeId} {size : Nat} {v : Value} {n : Nat} {xs : List Value} (hn : 0 < n) (h : w.ownsRow base e size v n xs) : ∃ g cap, v = .slice (some ⟨g, 0, none⟩) n cap := by
  rcases h.2 with ⟨_, h0⟩ | ⟨g, cap, cur, e, _⟩
  · omega
  · exact ⟨g, cap, e⟩
theorem keep_grown {H : Nat} {v : Value} {s : HS} {w w1 : World} {o : Obj} (_ : HW w H v s.1 s.2) (hg : (w.alloc o).grownBy w1 v.ownBlock) : Keep (fun k => v.ownBlock = some k) w w1 :=
  ((Keep.refl (fun k => v.ownBlock = some k) w).alloc o).grown hg (fun _ hk => .inl hk)
theorem _root_.Go.Proofs.YtpebpfaecdmabaaGreatDoor.Keep.then {S S' : Nat → Prop} {w w1 w2 : World} (h : Keep S w w1) (k : Keep S' w1 w2) (hs : ∀ i, i < w.heap.size → S' i → S i) : Keep S w w2 :=
  ⟨k.os.trans h.os, k.tape.trans h.tape, k.output.trans h.output, Nat.le_trans h.size k.size, fun i hi hn => (k.block i (Nat.lt_of_lt_of_le hi h.size) (fun h' => hn (hs i hi h'))).trans (h.block i hi hn)⟩
theorem push_cells {H : Nat} {v : Value} {s : HS} {w w1 : World} {o : Obj} (h : HW w H v s.1 s.2) (hg : (w.alloc o).grownBy w1 v.ownBlock) {n : Nat} (hn : n < 128) :
    w1.cell? ⟨H, 0, none⟩ = some v ∧ w1.frozen? ⟨H, 0, none⟩ = false ∧ w1.cell? ⟨H, 1 + n, none⟩ = some (.int .i64 (s.2 n)) ∧ w1.frozen? ⟨H, 1 + n, none⟩ = false := by
  have K := keep_grown h hg
  exact ⟨K.cell h.c0 h.apart, K.unfrozen h.lt h.f0 h.apart, K.cell (h.at_ n hn) h.apart, K.unfrozen h.lt (h.fa n hn) h.apart⟩

theorem push_state {H : Nat} {v : Value} {s : HS} {w w1 : World} {o : Obj} {g1 cap1 n : Nat} {k : Int} (h : HW w H v s.1 s.2) (hg : (w.alloc o).grownBy w1 v.ownBlock)
    (hown : w1.ownsRow 0 139 2 (.slice (some ⟨g1, 0, none⟩) (s.1.length + 1) cap1) (s.1.length + 1) (s.1.flatMap ec ++ ec (k, n)))
    (hat : (Value.slice (some ⟨g1, 0, none⟩) (s.1.length + 1) cap1).ownBlock = v.ownBlock ∨ (Value.slice (some ⟨g1, 0, none⟩) (s.1.length + 1) cap1).ownBlock = some (w.alloc o).heap.size) (hn : n < 128) (hl : s.1.length < 128) :
    HW (w1.setCell ⟨H, 0, none⟩ (.slice (some ⟨g1, 0, none⟩) (s.1.length + 1) cap1)) H (.slice (some ⟨g1, 0, none⟩) (s.1.length + 1) cap1) (s.1 ++ [(k, n)]) s.2 := by
  have K := keep_grown h hg
  have hap : (Value.slice (some ⟨g1, 0, none⟩) (s.1.length + 1) cap1).ownBlock ≠ some H := by
    rcases hat with e | e
    · rw [e]; exact h.apart
    · rw [e]
      have := h.lt
      simp
      omega
  refine ⟨World.cell?_setCell_same w1 _ _ (K.cell h.c0 h.apart), ?_, fun m hm => ?_, fun m hm => ?_, ?_, hap, by simp; omega, h.small, ?_⟩
  · rw [World.frozen?_setCell]; exact K.unfrozen h.lt h.f0 h.apart
  · rw [World.cell?_setCell_other _ _ _ _ (by simp)]; exact K.cell (h.at_ m hm) h.apart
  · rw [World.frozen?_setCell]; exact K.unfrozen h.lt (h.fa m hm) h.apart
  · have K2 : Keep (fun k => k = H) w1 (w1.setCell ⟨H, 0, none⟩ (.slice (some ⟨g1, 0, none⟩) (s.1.length + 1) cap1)) := (Keep.refl (fun k => k = H) w1).setCell ⟨H, 0, none⟩ _ (.inl rfl)
    have := K2.owns hown (fun k hk e => by subst e; exact hap hk)
    simpa using this
  · intro e he
    rcases List.mem_append.1 he with he | he
    · exact h.node e he
    · simp at he
      subst he
      exact hn
theorem up_at (H : Nat) (v : Value) (s : HS) (i : Nat) (x : Int) (w : World) (hx : x = i) (h : HW w H v s.1 s.2) (hi : i < s.1.length) :
    Calls Tryz.prog 83 #[.pointer (some ⟨H, 0, none⟩), .int .i64 x] w fun e w' => e = .returned (.tuple #[]) ∧ HW w' H v (upS s i).1 (upS s i).2 ∧ Keep (fun k => k = H ∨ v.ownBlock = some k) w w' := by
  subst hx
  exact up_any H v s i w h hi

set_option maxHeartbeats 2000000 in
theorem push_new (H : Nat) (v : Value) (s : HS) (n : Nat) (k : Int) (w : World) (h : HW w H v s.1 s.2) (hn : n < 128) (ht : s.2 n = 0) (hl : s.1.length < 128) :
    Calls Tryz.prog 68 #[.pointer (some ⟨H, 0, none⟩), .int .i64 n, .int .i64 k] w fun e w' => e = .returned (.int .i64 0) ∧ Ok H v (upS (s.1 ++ [(k, n)], upd s.2 n (s.1.length + 1)) s.1.length) w w' := by
  have hf0 : decide (0 ≤ (n : Int)) = true := by simp
  have hf : decide ((n : Int) ≤ 127) = true := by simp; omega
  have ha := h.at_ n hn
  have fa := h.fa n hn
  rw [ht] at ha
  have c0 := h.c0
  have f0 := h.f0
  have hH := h.lt
  obtain ⟨ad, cap, hv⟩ : ∃ ad cap, v = .slice ad s.1.length cap := by
    rcases h.own.2 with ⟨e, h0⟩ | ⟨g, cap, cur, e, _⟩
    · exact ⟨none, 0, by rw [e, h0]⟩
    · exact ⟨_, _, e⟩
  subst hv
  have hown := h.own
  have hap := h.apart
  have hsl : SlR (w.alloc (.cells #[.int .i64 k, .int .i64 n] 139)) 2 (.slice (some ⟨w.heap.size, 0, none⟩) 1 1) 1 (ec (k, n)) :=
    ⟨rfl, by simp [maxLen], _, 1, rfl, by simp, .inr ⟨w.heap.size, 0, rfl, fun j u hu => by rw [Nat.zero_add]; exact new_cell w _ rfl _ _ j u (by simpa [ec] using hu)⟩⟩
  go_enter Tryz.func68, Tryz.ntmps68
  go_wp2_with (first | (go_at_call 82; refine (in_any n _).mono ?_; rintro e w' ⟨rfl, rfl⟩) | (at_builtin; refine wpList_append_sl rfl _ _ 134 139 rfl 0 (.agg #[.int .i64 0, .int .i64 0]) 2 16 Tryz.underlying134 info69 rfl (by decide) (by decide) (.slice ad s.1.length cap) _ _ rfl (hown.alloc _) _ 1 (ec (k, n)) rfl hsl (ec_one _) (by omega) (by simp) ?_; intro v1 w1 hown1 hg hat; obtain ⟨g1, cap1, rfl⟩ := own_form (by omega) hown1; obtain ⟨c01, f01, ha1, fa1⟩ := push_cells h hg hn))
  have hP := push_state h hg hown1 hat hn hl
  clear c01 f01 ha1 fa1 ha fa c0 f0
  have hap1 : g1 ≠ H := by simpa [Value.ownBlock] using hP.apart
  have c01 := hP.c0
  have ha1 := hP.at_ n hn
  have fa1 := hP.fa n hn
  obtain ⟨W1, hw1⟩ : ∃ W1, W1 = w1.setCell ⟨H, 0, none⟩ (.slice (some ⟨g1, 0, none⟩) (s.1.length + 1) cap1) := ⟨_, rfl⟩
  have hK1 : Keep (fun k => k = H ∨ (Value.slice ad s.1.length cap).ownBlock = some k) w W1 := by
    rw [hw1]
    exact ((keep_grown h hg).mono (fun k _ hk => .inr hk)).setCell ⟨H, 0, none⟩ _ (.inl (.inl rfl))
  have hat' : Veil ((Value.slice (some ⟨g1, 0, none⟩) (s.1.length + 1) cap1).ownBlock = (Value.slice ad s.1.length cap).ownBlock ∨ ∃ g, (Value.slice (some ⟨g1, 0, none⟩) (s.1.length + 1) cap1).ownBlock = some g ∧ w.heap.size ≤ g) := by
    refine ⟨?_⟩
    rcases hat with e | e
    · exact .inl e
    · exact .inr ⟨_, e, by simp⟩
  rw [← hw1] at hP c01 ha1 fa1 ⊢
  clear hw1 hat hg hown hown1 h hap hsl
  go_region
  obtain ⟨W2, hw2⟩ : ∃ W2, W2 = (W1.setCell ⟨H, 1 + n, none⟩ (.int .i64 (s.1.length + 1 : Nat))).drew := ⟨_, rfl⟩
  have hK2 : Keep (fun k => k = H ∨ (Value.slice ad s.1.length cap).ownBlock = some k) w W2 := by
    rw [hw2]
    exact (hK1.setCell ⟨H, 1 + n, none⟩ _ (.inl (.inl rfl))).drewN 1
  have hW2 : HW W2 H (.slice (some ⟨g1, 0, none⟩) (s.1.length + 1) cap1) (s.1 ++ [(k, (n : Nat))]) (upd s.2 n (s.1.length + 1)) := by
    rw [hw2]
    exact (hP.setP n (s.1.length + 1) (by omega)).drew
  have c02 := hW2.c0
  rw [show ((s.1.length : Int) + 1) = ((s.1.length + 1 : Nat) : Int) from rfl, ← hw2]
  clear hw2 hP c01 ha1 fa1 hK1
  go_wp2_with fail
  refine (up_at H _ (s.1 ++ [(k, (n : Nat))], upd s.2 n (s.1.length + 1)) s.1.length _ W2 (by omega) hW2 (by simp)).mono ?_
  rintro e W3 ⟨rfl, hW3, hK3⟩
  have hOk : Ok H (.slice ad s.1.length cap) (upS (s.1 ++ [(k, n)], upd s.2 n (s.1.length + 1)) s.1.length) w W3 := by
    refine ⟨_, hW3, hK2.then hK3 ?_, hat'.out⟩
    rintro j hj (e | e)
    · exact .inl e
    · rcases hat'.out with h1 | ⟨g, h1, h2⟩
      · rw [h1] at e; exact .inr e
      · rw [h1] at e
        injection e with e
        omega
  clear hW3 hK3 hK2 hW2 c02
  go_wp2
  go_ret
  exact ⟨rfl, hOk⟩

theorem take_at (H : Nat) (v : Value) (s : HS) (i : Nat) (x : Int) (a b : En) (w : World) (hx : x = i) (h : HW w H v s.1 s.2) (hi : s.1[i]? = some a) (hb : s.1[s.1.length - 1]? = some b) :
    Calls Tryz.prog 85 #[.pointer (some ⟨H, 0, none⟩), .int .i64 x] w fun e w' => e = .returned (.agg #[.int .i64 a.1, .int .i64 a.2]) ∧ TakeOk H v (takeS s i a b) w w' := by
  subst hx
  exact take_any H v s i a b w h hi hb
theorem pop_none (H : Nat) (v : Value) (s : HS) (w : World) (h : HW w H v s.1 s.2) (hs : s.1 = []) :
    Calls Tryz.prog 69 #[.pointer (some ⟨H, 0, none⟩)] w fun e w' => e = .returned (.tuple #[.int .i64 0, .int .i64 0, .int .i64 8]) ∧ ∃ n, w' = w.drewN n := by
  have ht := top_any H v s w h
  rw [hs] at ht
  simp only [topR] at ht
  have HT := Lib.hid ht
  clear ht hs
  go_enter Tryz.func69, Tryz.ntmps69
  go_wp2_with (go_at_call 84; refine (HT.out).mono ?_; rintro e w' ⟨rfl, nn, rfl⟩)
  go_ret3
  exact ⟨rfl, _, rfl⟩
theorem pop_nil (w : World) : Calls Tryz.prog 69 #[.pointer none] w fun e w' => e = .returned (.tuple #[.int .i64 0, .int .i64 0, .int .i64 2]) ∧ w = w' := by
  go_enter Tryz.func69, Tryz.ntmps69
  go_wp2_with (go_at_call 84; refine (top_nil _).mono ?_; rintro e w' ⟨rfl, rfl⟩)
  go_ret3
  exact ⟨rfl, rfl⟩
theorem TakeOk.drewN {H : Nat} {v : Value} {s : HS} {w w' : World} {n : Nat} (h : TakeOk H v s (w.drewN n) w') : TakeOk H v s w w' := by
  obtain ⟨v', h1, h2, h3⟩ := h
  exact ⟨v', h1, h2, h3.os, h3.tape, h3.output, h3.size, h3.block⟩
theorem HW.drewN {w : World} {H : Nat} {v : Value} {es : List En} {po : Nat → Nat} (h : HW w H v es po) (n : Nat) : HW (w.drewN n) H v es po := ⟨h.c0, h.f0, h.at_, h.fa, h.own, h.apart, h.len, h.small, h.node⟩
theorem pop_some (H : Nat) (v : Value) (s : HS) (a b : En) (w : World) (h : HW w H v s.1 s.2) (hi : s.1[0]? = some a) (hb : s.1[s.1.length - 1]? = some b) :
    Calls Tryz.prog 69 #[.pointer (some ⟨H, 0, none⟩)] w fun e w' => e = .returned (.tuple #[.int .i64 a.2, .int .i64 a.1, .int .i64 0]) ∧ TakeOk H v (takeS s 0 a b) w w' := by
  have ht := top_any H v s w h
  have e1 : topR s.1 = .tuple #[.int .i64 a.2, .int .i64 a.1, .int .i64 0] := by
    cases hs : s.1 with
    | nil => rw [hs] at hi; simp at hi
    | cons x l => rw [hs] at hi; simp at hi; subst hi; rfl
  rw [e1] at ht
  have HT := Lib.hid ht
  have HI := Lib.hid hi
  have HB := Lib.hid hb
  clear ht e1 hi hb
  go_enter Tryz.func69, Tryz.ntmps69
  go_wp2_with (go_at_call 84; refine (HT.out).mono ?_; rintro e w' ⟨rfl, nn, rfl⟩)
  refine (take_at H v s 0 _ a b _ (by rfl) (h.drewN nn) HI.out HB.out).mono ?_
  rintro e w' ⟨rfl, hT⟩
  go_wp2
  go_ret3
  exact ⟨rfl, hT.drewN⟩
end Go.Proofs.YtpebpfaecdmabaaGreatDoor.Hp
/- The contracts of the small functions of layer 1. -/
namespace Go.Proofs.YtpebpfaecdmabaaGreatDoor.Ds
open Go.RowKit

def clampI (n : Int) : Int := if n < 0 then 0 else if 1073741824 < n then 1073741824 else n
theorem clampI_bd (n : Int) : 0 ≤ clampI n ∧ clampI n ≤ 1073741824 := by unfold clampI; split <;> (try split) <;> omega



set_option maxHeartbeats 400000 in
theorem clamp_any (n : Int) (w : World) :
    Calls Tryz.prog 40 #[.int .i64 n] w fun e w' => e = .returned (.int .i64 (clampI n)) ∧ w = w' := by
  by_cases h0 : n < 0
  · go_enter Tryz.func40, Tryz.ntmps40
    go_wp2
    go_ret
    exact ⟨ret_int (by unfold clampI; (repeat' split) <;> omega), rfl⟩
  · by_cases h1 : 1073741824 < n
    · go_enter Tryz.func40, Tryz.ntmps40
      go_wp2
      go_ret
      exact ⟨ret_int (by unfold clampI; (repeat' split) <;> omega), rfl⟩
    · go_enter Tryz.func40, Tryz.ntmps40
      go_wp2
      go_ret
      exact ⟨ret_int (by unfold clampI; (repeat' split) <;> omega), rfl⟩

def sumI (a b : Int) : Int := clampI (clampI a + clampI b)

set_option maxHeartbeats 400000 in
theorem Sum_any (a b : Int) (w : World) :
    Calls Tryz.prog 30 #[.int .i64 a, .int .i64 b] w fun e w' => e = .returned (.int .i64 (sumI a b)) ∧ w = w' := by
  have h1 := clampI_bd a
  have h2 := clampI_bd b
  go_enter Tryz.func30, Tryz.ntmps30
  go_wp2_with (go_at_call 40; refine (clamp_any _ _).mono ?_; rintro e w' ⟨rfl, rfl⟩)
  all_goals
    go_ret
    exact ⟨ret_int (by unfold sumI; generalize clampI a = x at *; generalize clampI b = y at *; unfold clampI; (repeat' split) <;> omega), rfl⟩

def lessB (a b : Int) : Bool := decide (clampI a < clampI b)

theorem f3bits : floatOfInt .f64 3 = 4613937818241073152 := by decide +kernel
theorem f4bits : floatOfInt .f64 4 = 4616189618054758400 := by decide +kernel
theorem sum25 : sumI 2 5 = 7 := by decide

theorem sumI_comm (a b : Int) : sumI a b = sumI b a := by unfold sumI; rw [Int.add_comm]

end Go.Proofs.YtpebpfaecdmabaaGreatDoor.Ds
/- Sets of nodes as two words of 64 bits. No program stands in it. -/
namespace Go.Proofs.YtpebpfaecdmabaaGreatDoor
open Go.RowKit

/-- A set: its two words. -/
abbrev Bt := UInt64 × UInt64
/-- A word as the machine's number. -/
def u (x : UInt64) : Int := (x.toNat : Int)
theorem u_inj {a b : UInt64} (h : u a = u b) : a = b := by
  unfold u at h
  exact UInt64.toNat_inj.1 (by omega)
theorem u_beq (a b : UInt64) : (u a == u b) = (a == b) := by
  rw [Bool.eq_iff_iff, beq_iff_eq, beq_iff_eq]
  exact ⟨u_inj, fun h => by rw [h]⟩
theorem u_or (a b : UInt64) : bits .or .u64 (u a) (u b) = u (a ||| b) := by
  unfold u
  rw [u64_or_nat _ _ (UInt64.toNat_lt a) (UInt64.toNat_lt b), UInt64.toNat_or]
theorem u_and (a b : UInt64) : bits .and .u64 (u a) (u b) = u (a &&& b) := by
  unfold u
  rw [u64_and_nat _ _ (UInt64.toNat_lt a) (UInt64.toNat_lt b), UInt64.toNat_and]
theorem u_andNot (a b : UInt64) : bits .andNot .u64 (u a) (u b) = u (a &&& ~~~b) := by
  unfold u
  rw [u64_andNot_nat _ _ (UInt64.toNat_lt a) (UInt64.toNat_lt b), UInt64.toNat_and, UInt64.toNat_not]
  rfl
theorem u_nat {n : Int} (h0 : 0 ≤ n) (h1 : n < 18446744073709551616) : ∃ x : UInt64, n = u x := by
  refine ⟨UInt64.ofNat n.toNat, ?_⟩
  unfold u
  rw [UInt64.toNat_ofNat']
  omega
/-- A set's cells, and its value. -/
def bc (s : Bt) : List Value := [.int .u64 (u s.1), .int .u64 (u s.2)]
abbrev bv (s : Bt) : Value := .agg #[.int .u64 (u s.1), .int .u64 (u s.2)]
theorem bc_one (s : Bt) : ∀ x ∈ bc s, x.oneCell' = true := by
  intro x hx
  simp [bc] at hx
  rcases hx with rfl | rfl <;> rfl
end Go.Proofs.YtpebpfaecdmabaaGreatDoor
