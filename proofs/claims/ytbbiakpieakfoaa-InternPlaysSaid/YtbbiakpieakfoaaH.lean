/- Set and ID by definition. -/
import Derived.Test.YtbbiakpieakfoaaG
namespace Go.Proofs.Ytbbiakpieakfoaa
open Go.RowKit

set_option maxHeartbeats 1000000 in
set_option maxRecDepth 100000 in
theorem refSet_in (v : Value) (G i : Nat) (L : List Bt) (w : World) (h : RefT w v L G) (hi : i < L.length) :
    Calls Try.prog 16 #[.agg #[v], .int .i64 i] w fun e w' => e = .returned (.tuple #[bv L[i], .int .i64 0]) ∧ Below w.heap.size w w' := by
  have hlt := h.lt
  obtain ⟨e0, e1⟩ := h.set_at i hi
  obtain ⟨cap, rfl, ho⟩ := h
  have d1 : ((L.length : Int) ≤ (i : Int)) = False := by simp; omega
  have d0 : ((i : Int) < 0) = False := by simp
  generalize L[i] = s at e0 e1 ⊢
  clear ho
  have hy := Port.Arr.new (w.alloc (.cells #[.slice (some ⟨G, 0, none⟩) L.length cap] 41)) s
  rw [World.size_alloc] at hy
  go_enter Try.func16, Try.ntmps16
  go_wp2
  exact bodyPost_ret (v := .tuple #[bv s, .int .i64 0]) (by simp [results, Try.results16, go_sem, hy.1, hy.2.1]) rfl ⟨rfl, ((Below.refl _ _).alloc (Nat.le_refl _) _).alloc (by simp) _⟩

set_option maxHeartbeats 1000000 in
set_option maxRecDepth 100000 in
theorem refSet_out (v : Value) (G : Nat) (n : Int) (L : List Bt) (w : World) (h : RefT w v L G) (hi : n < 0 ∨ (L.length : Int) ≤ n) :
    Calls Try.prog 16 #[.agg #[v], .int .i64 n] w fun e w' => e = .returned (.tuple #[bv (0, 0), .int .i64 2]) ∧ Below w.heap.size w w' := by
  have hlt := h.lt
  obtain ⟨cap, rfl, ho⟩ := h
  have hz : bv (0, 0) = .agg #[.int .u64 0, .int .u64 0] := rfl
  have HZ := Lib.hid hz
  clear hz ho
  have hy := Port.Arr.new (w.alloc (.cells #[.slice (some ⟨G, 0, none⟩) L.length cap] 41)) (0, 0)
  rw [World.size_alloc] at hy
  by_cases h0 : n < 0
  · go_enter Try.func16, Try.ntmps16
    go_wp2
    exact bodyPost_ret (v := .tuple #[bv (0, 0), .int .i64 2]) (by have e0 : u 0 = 0 := rfl; simp only [e0] at hy; simp [results, Try.results16, go_sem, e0, hy.1, hy.2.1]) rfl ⟨rfl, ((Below.refl _ _).alloc (Nat.le_refl _) _).alloc (by simp) _⟩
  · have h1 : (L.length : Int) ≤ n := by omega
    clear hi
    go_enter Try.func16, Try.ntmps16
    go_wp2
    exact bodyPost_ret (v := .tuple #[bv (0, 0), .int .i64 2]) (by have e0 : u 0 = 0 := rfl; simp only [e0] at hy; simp [results, Try.results16, go_sem, e0, hy.1, hy.2.1]) rfl ⟨rfl, ((Below.refl _ _).alloc (Nat.le_refl _) _).alloc (by simp) _⟩
/-- A fact that the walk does not see. -/
structure Veil (p : Prop) : Prop where
  out : p

/-- The boxes of ID by definition, behind any number of rounds. -/
structure IdB (w wr : World) (v : Value) (s : Bt) (L : List Bt) (G : Nat) : Prop where
  b : Below w.heap.size w wr
  c2 : wr.cell? ⟨w.heap.size, 0, none⟩ = some v
  c30 : wr.cell? ⟨w.heap.size + 1, 0, none⟩ = some (.int .u64 (u s.1))
  c31 : wr.cell? ⟨w.heap.size + 1, 1, none⟩ = some (.int .u64 (u s.2))
  c6 : wr.cell? ⟨w.heap.size + 1 + 1, 0, none⟩ = some (.slice none 0 0)
  f6 : wr.frozen? ⟨w.heap.size + 1 + 1, 0, none⟩ = false
  t : RefT wr v L G
  sz : w.heap.size + 2 < wr.heap.size
theorem IdB.below {w wr w2 : World} {v : Value} {s : Bt} {L : List Bt} {G : Nat} (h : IdB w wr v s L G) (hb : Below wr.heap.size wr w2) : IdB w w2 v s L G := by
  have k := Keep.of_below (S := fun _ => False) hb
  have hsz := hb.size
  exact ⟨h.b.trans (hb.mono h.b.size), k.cell h.c2 (by simp), k.cell h.c30 (by simp), k.cell h.c31 (by simp), k.cell h.c6 (by simp), k.unfrozen (World.block_lt_of_cell? _ _ h.c6) h.f6 (by simp), h.t.below hb, Nat.lt_of_lt_of_le h.sz hb.size⟩
theorem IdB.drew {w wr : World} {v : Value} {s : Bt} {L : List Bt} {G : Nat} (h : IdB w wr v s L G) (n : Nat) : IdB w (wr.drewN n) v s L G := h.below (below_drewN (Below.refl _ _) n)
theorem IdB.keep {w wr w2 : World} {v : Value} {s : Bt} {L : List Bt} {G : Nat} {S : Nat → Prop} (h : IdB w wr v s L G) (k : Keep S wr w2) (hS : ∀ i, S i → w.heap.size + 2 < i) (hG : G < w.heap.size) : IdB w w2 v s L G := by
  have n0 : ¬ S w.heap.size := fun h => by have := hS _ h; omega
  have n1 : ¬ S (w.heap.size + 1) := fun h => by have := hS _ h; omega
  have n2 : ¬ S (w.heap.size + 1 + 1) := fun h => by have := hS _ h; omega
  have nG : ¬ S G := fun h => by have := hS _ h; omega
  have hsz := k.size
  exact ⟨Below.keep h.b h.b.size k (fun i hi => by have := hS i hi; omega), k.cell h.c2 n0, k.cell h.c30 n1, k.cell h.c31 n1, k.cell h.c6 n2, k.unfrozen (World.block_lt_of_cell? _ _ h.c6) h.f6 n2, h.t.keep k nG, Nat.lt_of_lt_of_le h.sz k.size⟩
theorem made_row24 (w : World) (B : Nat) (hB : w.heap.size = B) : (w.alloc (.cells #[] 24)).ownsRow B 24 2 (.slice (some ⟨B, 0, none⟩) 0 0) 0 [] := by
  subst hB
  exact World.ownsRow_made w #[] 0 (Nat.le_refl _) (by simp [maxLen]) rfl

theorem id_end {w W2 : World} {v v' : Value} {s : Bt} {L L' : List Bt} {G G' : Nat} (hI : IdB w W2 v s L G) (t : RefT W2 v' L' G') (hG : G' = G ∨ w.heap.size ≤ G') (hne : G' ≠ w.heap.size + 1 + 1) :
    (W2.setCell ⟨w.heap.size + 1 + 1, 0, none⟩ v').drew.cell? ⟨w.heap.size + 1 + 1, 0, none⟩ = some v' ∧ RefT (W2.setCell ⟨w.heap.size + 1 + 1, 0, none⟩ v').drew v' L' G' ∧ Below w.heap.size w (W2.setCell ⟨w.heap.size + 1 + 1, 0, none⟩ v').drew ∧ (G' = G ∨ w.heap.size ≤ G') := by
  have k : Keep (fun j => j = w.heap.size + 1 + 1) W2 (W2.setCell ⟨w.heap.size + 1 + 1, 0, none⟩ v').drew := ((Keep.refl (fun j => j = w.heap.size + 1 + 1) W2).setCell _ _ (.inl rfl)).drewN 1
  exact ⟨World.cell?_setCell_same _ _ _ hI.c6, t.keep k hne, (hI.b.setCell (by simp; omega) _).drew, hG⟩
theorem own_slice {w : World} {base n : Nat} {v : Value} {xs : List Value} (hn : 0 < n) (h : w.ownsRow base 24 2 v n xs) : ∃ g cap, v = .slice (some ⟨g, 0, none⟩) n cap ∧ base ≤ g ∧ g < w.heap.size := by
  rcases id h.2 with ⟨_, h0⟩ | ⟨g, cap, cur, he, hb, hh, r⟩
  · omega
  · exact ⟨g, cap, he, hb, (Array.getElem?_eq_some_iff.1 hh).1⟩
theorem id_grown {w w1 : World} {B : Nat} (hB : w.heap.size = B) (hg : (w.alloc (.cells #[] 24)).grownBy w1 (Value.slice (some ⟨B, 0, none⟩) 0 0).ownBlock) : Below w.heap.size w w1 :=
  ((Below.refl _ _).alloc (Nat.le_refl _) _).grown hg (by simp) (by intro k hk; simp [Value.ownBlock] at hk; omega)
theorem one_set (s : Bt) (w : World) (B : Nat) (hB : w.heap.size = B) : SlR (w.alloc (.cells #[.int .u64 (u s.1), .int .u64 (u s.2)] 24)) 2 (.slice (some ⟨B, 0, none⟩) 1 1) 1 (bc s) := by
  subst hB
  exact SlR.of_owns (World.ownsRow_lit (base := 0) (e := 24) (size := 2) w #[.int .u64 (u s.1), .int .u64 (u s.2)] 1 (Nat.zero_le _) (by simp [maxLen]) rfl)
theorem id_more {w W w2 : World} {v : Value} {s : Bt} {L : List Bt} {G g1 n cap1 : Nat} (hI : IdB w W v s L G) (hg : W.grownBy w2 (Value.slice (some ⟨g1, 0, none⟩) n cap1).ownBlock) (hg1 : w.heap.size + 2 < g1) (hG : G < w.heap.size) : IdB w w2 v s L G :=
  hI.keep ((Keep.refl (fun k => k = g1) W).grown hg (by intro k hk; simp [Value.ownBlock] at hk; exact .inl hk.symm)) (by intro i hi; omega) hG
theorem id_box {w1 w2 : World} {g1 n cap1 : Nat} {x : Value} {t : TypeId} {o : Obj} (hg : ((w1.alloc (.cells #[x] t)).alloc o).grownBy w2 (Value.slice (some ⟨g1, 0, none⟩) n cap1).ownBlock) (hlt : g1 < w1.heap.size) :
    w2.cell? ⟨w1.heap.size, 0, none⟩ = some x ∧ w2.frozen? ⟨w1.heap.size, 0, none⟩ = false := by
  have k : Keep (fun k => k = g1) ((w1.alloc (.cells #[x] t)).alloc o) w2 := (Keep.refl (fun k => k = g1) _).grown hg (by intro k hk; simp [Value.ownBlock] at hk; exact .inl hk.symm)
  have h := heap_alloc_new w1 (.cells #[x] t)
  have c : ((w1.alloc (.cells #[x] t)).alloc o).cell? ⟨w1.heap.size, 0, none⟩ = some x := by
    rw [World.cell?_alloc_past _ _ _ (by simp)]
    simp only [World.cell?, h]
    rfl
  have f : ((w1.alloc (.cells #[x] t)).alloc o).frozen? ⟨w1.heap.size, 0, none⟩ = false := by
    rw [World.frozen?_alloc_past _ _ _ (by simp)]
    simp only [World.frozen?, h]
    rfl
  exact ⟨k.cell c (by simp; omega), k.unfrozen (by simp; omega) f (by simp; omega)⟩
theorem owns_base0 {w : World} {base : Nat} {e : TypeId} {size : Nat} {v : Value} {n : Nat} {xs : List Value} (h : w.ownsRow base e size v n xs) : w.ownsRow 0 e size v n xs := by
  obtain ⟨h1, h2⟩ := h
  refine ⟨h1, ?_⟩
  rcases h2 with h | ⟨g, cap, cur, he, _, r⟩
  · exact .inl h
  · exact .inr ⟨g, cap, cur, he, Nat.zero_le _, r⟩
theorem idx_drop (s : Bt) (L : List Bt) (k : Nat) (hk : k < L.length) : idxFrom k s (L.drop k) = if s = L[k] then some k else idxFrom (k + 1) s (L.drop (k + 1)) := by
  rw [List.drop_eq_getElem_cons hk]
  rfl

/-- What ID by definition answers. -/
def IdAns (w : World) (G : Nat) (R : Nat × Nat × List Bt) (e : Ending) (w' : World) : Prop :=
  ∃ v' G', e = .returned (.tuple #[.int .i64 R.1, .int .i64 R.2.1, .agg #[v']]) ∧ RefT w' v' R.2.2 G' ∧ Below w.heap.size w w' ∧ (G' = G ∨ w.heap.size ≤ G')

theorem Port.bc_all (L : List Bt) : ∀ u ∈ L.flatMap bc, u.oneCell' = true := by
  intro u hu
  rw [List.mem_flatMap] at hu
  obtain ⟨s, _, hs⟩ := hu
  exact bc_one s u hs

set_option maxHeartbeats 2000000 in
set_option maxRecDepth 100000 in
theorem refID_any (v : Value) (G : Nat) (s : Bt) (L : List Bt) (w : World) (h : RefT w v L G) (hlen : L.length ≤ 1024) (hpos : 0 < L.length) :
    Calls Try.prog 15 #[.agg #[v], bv s] w (IdAns w G (idRes s L)) := by
  obtain ⟨R, hR⟩ : ∃ R, Veil (idRes s L = R) := ⟨_, ⟨rfl⟩⟩
  rw [hR.out]
  have hlt := h.lt
  obtain ⟨cap, rfl, ho⟩ := id h
  have hst : IdB w (((w.alloc (.cells #[.slice (some ⟨G, 0, none⟩) L.length cap] 41)).alloc (.cells #[.int .u64 (u s.1), .int .u64 (u s.2)] 24)).alloc (.cells #[.slice none 0 0] 41)) (.slice (some ⟨G, 0, none⟩) L.length cap) s L G := by
    have b1 := (Below.refl w.heap.size w).alloc (Nat.le_refl _) (.cells #[.slice (some ⟨G, 0, none⟩) L.length cap] 41)
    have b2 := b1.alloc (by simp) (.cells #[.int .u64 (u s.1), .int .u64 (u s.2)] 24)
    have b3 := b2.alloc (by simp; omega) (.cells #[.slice none 0 0] 41)
    have hh := heap_alloc_new w (.cells #[.slice (some ⟨G, 0, none⟩) L.length cap] 41)
    have ha := (Port.Arr.new (w.alloc (.cells #[.slice (some ⟨G, 0, none⟩) L.length cap] 41)) s).alloc (by simp) (.cells #[.slice none 0 0] 41)
    have hc := heap_alloc_new ((w.alloc (.cells #[.slice (some ⟨G, 0, none⟩) L.length cap] 41)).alloc (.cells #[.int .u64 (u s.1), .int .u64 (u s.2)] 24)) (.cells #[.slice none 0 0] 41)
    simp only [World.size_alloc] at ha hc
    refine ⟨b3, ?_, ha.1, ha.2.1, ?_, ?_, h.below b3, by simp⟩
    · rw [World.cell?_alloc_past _ _ _ (by simp; omega), World.cell?_alloc_past _ _ _ (by simp)]
      simp only [World.cell?, hh]
      rfl
    · simp only [World.cell?, hc]
      rfl
    · simp only [World.frozen?, hc]
      rfl
  have heq := eq_bt4
  go_enter Try.func15, Try.ntmps15
  go_wp2
  go_loopw [7] (fun i wr => ∃ k : Nat, k ≤ L.length ∧ i = .int .i64 k ∧ Veil (idxFrom 0 s L = idxFrom k s (L.drop k)) ∧ IdB w wr (.slice (some ⟨G, 0, none⟩) L.length cap) s L G) (fun i _ => L.length - (intOf i).toNat)
  case atStart => exact ⟨0, Nat.zero_le _, rfl, ⟨rfl⟩, hst⟩
  case round =>
    obtain ⟨k, hk, rfl, hidx, hI⟩ := hrel
    clear hst ho h
    obtain ⟨hb, c2, c30, c31, c6, f6, ht, hsz⟩ := id hI
    by_cases hl : k < L.length
    · obtain ⟨d0, d1⟩ := ht.set_at k hl
      have hd := idx_drop s L k hl
      generalize L[k] = t at d0 d1 hd
      by_cases hst : t = s
      · have e1 : ((t.1, t.2) == (s.1, s.2)) = true := by rw [hst]; simp
        rw [if_pos hst.symm] at hd
        go_wp2
        go_quiet (fail)
        go_wp2_with fail
        obtain ⟨nq', hnq⟩ : ∃ m, m = nq := ⟨_, rfl⟩
        replace hI := hI.drew nq
        generalize wr.drewN nq = W2 at hI ⊢
        clear hb c2 c30 c31 c6 f6 ht hsz d0 d1
        obtain ⟨hb, c2, c30, c31, c6, f6, ht, hsz⟩ := id hI
        have hend := Veil.mk (id_end hI ht (.inl rfl) (by omega))
        have hRk : R = (k, 0, L) := by
          rw [← hR.out]
          simp only [idRes, hidx.out, hd]
        subst hRk
        go_region
        go_wp2
        exact bodyPost_ret (v := .tuple #[.int .i64 k, .int .i64 0, .agg #[.slice (some ⟨G, 0, none⟩) L.length cap]]) (by have e := hend.out.1; simp [results, Try.results15, go_sem, e]) rfl ⟨_, G, rfl, hend.out.2.1, hend.out.2.2.1, .inl rfl⟩
      · have e1 : ((t.1, t.2) == (s.1, s.2)) = false := by
          simp
          intro h1 h2
          exact hst (Prod.ext h1 h2)
        rw [if_neg (fun e => hst e.symm)] at hd
        go_wp2
        go_quiet (fail)
        go_wp2
        go_roundw
        case rel => exact ⟨k + 1, by omega, by go_num, ⟨hidx.out.trans hd⟩, hI.drew _⟩
        case measure => simp [intOf]; omega
    · have hd : idxFrom 0 s L = none := by
        rw [hidx.out, List.drop_eq_nil_of_le (by omega)]
        rfl
      by_cases hful : 1024 ≤ L.length
      · go_wp2_with fail
        have hend := Veil.mk (id_end hI ht (.inl rfl) (by omega))
        have hRk : R = (0, 7, L) := by
          rw [← hR.out]
          simp only [idRes, hd, if_pos hful]
        subst hRk
        go_region
        go_wp2
        exact bodyPost_ret (v := .tuple #[.int .i64 0, .int .i64 7, .agg #[.slice (some ⟨G, 0, none⟩) L.length cap]]) (by have e := hend.out.1; simp [results, Try.results15, go_sem, e]) rfl ⟨_, G, rfl, hend.out.2.1, hend.out.2.2.1, .inl rfl⟩
      · obtain ⟨B, hB⟩ : ∃ B, wr.heap.size = B := ⟨_, rfl⟩
        have hI1 := hI.below ((Below.refl _ _).alloc (Nat.le_refl _) (.cells #[] 24))
        have hmr := made_row24 wr B hB
        obtain ⟨hb1, x2, x30, x31, x6, y6, ht1, hsz1⟩ := id hI1
        have hslt : SlR (wr.alloc (.cells #[] 24)) 2 (.slice (some ⟨G, 0, none⟩) L.length cap) L.length (L.flatMap bc) := by
          obtain ⟨c, e, h⟩ := ht1
          exact SlR.of_owns (by injection e with _ _ e; subst e; exact h)
        have hRk : R = (L.length, 0, L ++ [s]) := by
          rw [← hR.out]
          simp only [idRes, hd, if_neg hful]
        go_wp2_with (first | (at_builtin; refine wpList_append_sl rfl _ _ 39 24 rfl B (.agg #[.int .u64 0, .int .u64 0]) 2 16 Try.underlying39 info24 rfl (by decide) (by decide) (.slice (some ⟨B, 0, none⟩) 0 0) 0 [] rfl hmr _ L.length (L.flatMap bc) rfl hslt (Port.bc_all L) (by omega) (by simp; omega) ?_; intro v1 w1 hown1 hg1 hat1; obtain ⟨g1, cap1, rfl, hr1⟩ := own_slice (by omega) hown1; rw [Nat.zero_add] at hown1; have hI2 := hI.below (id_grown hB hg1); have hI3 := hI2.below ((Below.refl _ _).alloc (Nat.le_refl _) (.cells #[.slice (some ⟨g1, 0, none⟩) L.length cap1] 41)); obtain ⟨_, p2, p30, p31, p6, pf6, _, _⟩ := id hI3) | (at_builtin; refine wpList_append_sl rfl _ _ 39 24 rfl B (.agg #[.int .u64 0, .int .u64 0]) 2 16 Try.underlying39 info24 rfl (by decide) (by decide) (.slice (some ⟨g1, 0, none⟩) L.length cap1) L.length (L.flatMap bc) rfl ((hown1.alloc _).alloc _) _ 1 (bc s) rfl (one_set s _ _ (by simp)) (bc_one s) (by omega) (by simp; omega) ?_; intro v2 w2 hown2 hg2 hat2; obtain ⟨g2, cap2, rfl, hr2⟩ := own_slice (by omega) hown2; have hI4 := id_more (hI3.below ((Below.refl _ _).alloc (Nat.le_refl _) (.cells #[.int .u64 (u s.1), .int .u64 (u s.2)] 24))) hg2 (by omega) hlt; have hb8 := id_box hg2 hr1.2; obtain ⟨b8, bf8⟩ := hb8))
        have hlt1 : B ≤ w1.heap.size := by rw [← hB]; exact (id_grown hB hg1).size
        have hI5 : IdB w (w2.setCell ⟨w1.heap.size, 0, none⟩ (.slice (some ⟨g2, 0, none⟩) (L.length + 1) cap2)) (.slice (some ⟨G, 0, none⟩) L.length cap) s L G :=
          hI4.keep ((Keep.refl (fun k => k = w1.heap.size) w2).setCell _ _ (.inl rfl)) (by intro i hi; omega) hlt
        have h8 : (w2.setCell ⟨w1.heap.size, 0, none⟩ (.slice (some ⟨g2, 0, none⟩) (L.length + 1) cap2)).cell? ⟨w1.heap.size, 0, none⟩ = some (.slice (some ⟨g2, 0, none⟩) (L.length + 1) cap2) := World.cell?_setCell_same _ _ _ b8
        have ht2 : RefT w2 (.slice (some ⟨g2, 0, none⟩) (L.length + 1) cap2) (L ++ [s]) g2 := by
          refine ⟨cap2, by simp, ?_⟩
          rw [List.flatMap_append, List.length_append]
          simpa using owns_base0 hown2
        have hne : g2 ≠ w1.heap.size := by
          intro e
          simp [Value.ownBlock] at hat2
          omega
        have hwB : w.heap.size + 2 < B := by omega
        have ht5 := ht2.keep ((Keep.refl (fun k => k = w1.heap.size) w2).setCell ⟨w1.heap.size, 0, none⟩ (.slice (some ⟨g2, 0, none⟩) (L.length + 1) cap2) (.inl rfl)) hne
        generalize w2.setCell ⟨w1.heap.size, 0, none⟩ (.slice (some ⟨g2, 0, none⟩) (L.length + 1) cap2) = W5 at hI5 h8 ht5 ⊢
        clear c2 c30 c31 c6 f6 ht hI hb hsz hI1 hmr hb1 x2 x30 x31 x6 y6 ht1 hsz1 hslt hown1 hg1 hat1 hI2 hI3 p2 p30 p31 p6 pf6 hown2 hg2 hat2 hI4 b8 bf8 ht2
        have hend := Veil.mk (id_end hI5 ht5 (.inr (by omega)) (by omega))
        obtain ⟨hb, c2, c30, c31, c6, f6, ht, hsz⟩ := id hI5
        subst hRk
        go_region
        go_wp2
        exact bodyPost_ret (v := .tuple #[.int .i64 L.length, .int .i64 0, .agg #[.slice (some ⟨g2, 0, none⟩) (L.length + 1) cap2]]) (by have e := hend.out.1; simp [results, Try.results15, go_sem, e]) rfl ⟨_, g2, rfl, hend.out.2.1, hend.out.2.2.1, .inr (by omega)⟩
end Go.Proofs.Ytbbiakpieakfoaa
