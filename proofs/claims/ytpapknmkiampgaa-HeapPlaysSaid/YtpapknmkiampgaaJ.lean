/- The heap: its methods as steps of a rising list; awake. -/
import Derived.Test.YtpapknmkiampgaaI
namespace Go.Proofs.Ytpapknmkiampgaa
open Go.RowKit

/-- The heap in block H, its list in v, holds the entries of L. -/
def HB (w : World) (H : Nat) (v : Value) (L : List En) : Prop := ∃ s, HW w H v s.1 s.2 ∧ Hs s L
theorem HB.lt {w : World} {H : Nat} {v : Value} {L : List En} (h : HB w H v L) : H < w.heap.size := by
  obtain ⟨s, h1, _⟩ := h
  exact h1.lt
theorem HB.own_lt {w : World} {H : Nat} {v : Value} {L : List En} (h : HB w H v L) : ∀ g, v.ownBlock = some g → g < w.heap.size := by
  obtain ⟨s, h1, _⟩ := h
  exact fun g hg => (h1.own.lt g hg).2
theorem HB.keep {w w' : World} {H : Nat} {v : Value} {L : List En} {S : Nat → Prop} (h : HB w H v L) (k : Keep S w w') (hH : ¬ S H) (hG : ∀ G, v.ownBlock = some G → ¬ S G) : HB w' H v L := by
  obtain ⟨s, h1, h2⟩ := h
  exact ⟨s, h1.keep k hH hG, h2⟩
theorem HB.below {w w' : World} {H : Nat} {v : Value} {L : List En} (h : HB w H v L) (b : Below w.heap.size w w') : HB w' H v L := by
  obtain ⟨s, h1, h2⟩ := h
  exact ⟨s, h1.below b, h2⟩
theorem HB.srt {w : World} {H : Nat} {v : Value} {L : List En} (h : HB w H v L) : Srt L := by
  obtain ⟨s, _, h2⟩ := h
  exact h2.srt
theorem HB.node {w : World} {H : Nat} {v : Value} {L : List En} (h : HB w H v L) : ∀ a ∈ L, a.2 < 128 := by
  obtain ⟨s, h1, h2⟩ := h
  exact fun a ha => h1.node a (h2.perm.symm.subset ha)
theorem HB.inj {w : World} {H : Nat} {v : Value} {L : List En} (h : HB w H v L) {a b : En} (ha : a ∈ L) (hb : b ∈ L) (e : a.2 = b.2) : a = b := by
  obtain ⟨s, _, h2⟩ := h
  exact h2.node ha hb e
theorem HB.len {w : World} {H : Nat} {v : Value} {L : List En} (h : HB w H v L) : L.length ≤ 128 := by
  obtain ⟨s, h1, h2⟩ := h
  rw [← h2.length]
  exact h1.len

/-- What a step makes of it. -/
def HStep (H : Nat) (v : Value) (L : List En) (w w' : World) : Prop :=
  ∃ v', HB w' H v' L ∧ Keep (fun k => k = H ∨ v.ownBlock = some k) w w' ∧ (v'.ownBlock = v.ownBlock ∨ ∃ g, v'.ownBlock = some g ∧ w.heap.size ≤ g)

theorem nodup_bound : ∀ (m : Nat) (l : List Nat), l.Nodup → (∀ x ∈ l, x < m) → l.length ≤ m := by
  intro m
  induction m with
  | zero =>
    intro l _ h
    cases l with
    | nil => simp
    | cons x l => have := h x (by simp); omega
  | succ m ih =>
    intro l hn h
    by_cases hm : m ∈ l
    · have h1 := ih (l.erase m) (hn.erase m) (fun x hx => by
        have hx' := (List.Nodup.mem_erase_iff hn).1 hx
        have := h x hx'.2
        have := hx'.1
        omega)
      rw [List.length_erase_of_mem hm] at h1
      omega
    · have h1 := ih l hn (fun x hx => by
        have := h x hx
        have : x ≠ m := fun e => hm (e ▸ hx)
        omega)
      omega

theorem Hs.room {s : HS} {L : List En} (h : Hs s L) (hn : ∀ e ∈ s.1, e.2 < 128) {n : Nat} (hlt : n < 128) (hz : s.2 n = 0) : s.1.length < 128 := by
  have hnd : (n :: s.1.map (·.2)).Nodup := by
    refine List.nodup_cons.2 ⟨fun hm => ?_, ?_⟩
    · obtain ⟨a, ha, e⟩ := List.mem_map.1 hm
      obtain ⟨i, hi⟩ := List.getElem?_of_mem ha
      have := h.coh.at_ i a hi
      rw [e, hz] at this
      omega
    · refine List.pairwise_iff_getElem.2 fun p q hp hq hpq he => ?_
      rw [List.getElem_map, List.getElem_map] at he
      rw [List.length_map] at hp hq
      have := h.coh.inj (List.getElem?_eq_getElem hp) (List.getElem?_eq_getElem hq) he
      omega
  have := nodup_bound 128 _ hnd (fun x hx => by
    rcases List.mem_cons.1 hx with rfl | hx
    · exact hlt
    · obtain ⟨a, ha, rfl⟩ := List.mem_map.1 hx
      exact hn a ha)
  simp at this
  omega

theorem Push_new (H : Nat) (v : Value) (L : List En) (n : Nat) (x k : Int) (w : World) (hx : x = n) (h : HB w H v L) (hn : n < 128) (hL : ∀ a ∈ L, a.2 ≠ n) :
    Calls Try.prog 9 #[.pointer (some ⟨H, 0, none⟩), .int .i64 x, .int .i64 k] w fun e w' => e = .returned (.int .i64 0) ∧ HStep H v (ins (k, n) L) w w' := by
  subst hx
  obtain ⟨s, h1, h2⟩ := h
  have hz : s.2 n = 0 := by
    by_cases hz : s.2 n = 0
    · exact hz
    · obtain ⟨a, ha, e⟩ := (h2.there n).1 hz
      exact absurd e (hL a ha)
  refine (push_new H v s n k w h1 hn hz (h2.room h1.node hn hz)).mono ?_
  rintro e w' ⟨he, v', h3, h4, h5⟩
  exact ⟨he, v', ⟨_, h3, h2.push hz⟩, h4, h5⟩
theorem Push_twice (H : Nat) (v : Value) (L : List En) (n : Nat) (x k : Int) (w : World) (hx : x = n) (h : HB w H v L) (hn : n < 128) (hL : ∃ a ∈ L, a.2 = n) :
    Calls Try.prog 9 #[.pointer (some ⟨H, 0, none⟩), .int .i64 x, .int .i64 k] w fun e w' => e = .returned (.int .i64 5) ∧ w = w' := by
  subst hx
  obtain ⟨s, h1, h2⟩ := h
  exact push_twice H v s n k w h1 hn ((h2.there n).2 hL)
theorem Drop_none (H : Nat) (v : Value) (L : List En) (n : Nat) (x : Int) (w : World) (hx : x = n) (h : HB w H v L) (hn : n < 128) (hL : ∀ a ∈ L, a.2 ≠ n) :
    Calls Try.prog 10 #[.pointer (some ⟨H, 0, none⟩), .int .i64 x] w fun e w' => e = .returned (.int .i64 8) ∧ w = w' := by
  subst hx
  obtain ⟨s, h1, h2⟩ := h
  have hz : s.2 n = 0 := by
    by_cases hz : s.2 n = 0
    · exact hz
    · obtain ⟨a, ha, e⟩ := (h2.there n).1 hz
      exact absurd e (hL a ha)
  exact drop_none H v s n w h1 hn hz
theorem Drop_some (H : Nat) (v : Value) (L : List En) (n : Nat) (x : Int) (w : World) (hx : x = n) (h : HB w H v L) (hn : n < 128) (hL : ∃ a ∈ L, a.2 = n) :
    Calls Try.prog 10 #[.pointer (some ⟨H, 0, none⟩), .int .i64 x] w fun e w' => e = .returned (.int .i64 0) ∧ HStep H v (L.filter fun x => x.2 != n) w w' := by
  subst hx
  obtain ⟨s, h1, h2⟩ := h
  obtain ⟨i, a, hi, ha, e, haL⟩ := h2.place ((h2.there n).2 hL)
  obtain ⟨b, hb⟩ := h2.last (by have := List.length_pos_of_mem haL; omega)
  refine (drop_some H v s n i a b w h1 hn hi ha hb).mono ?_
  rintro e' w' ⟨he, v', h3, h4, h5⟩
  have h6 := h2.drop ha hb
  rw [e] at h6
  exact ⟨he, v', ⟨_, h3, h6⟩, h5, .inl h4⟩
theorem Pop_none (H : Nat) (v : Value) (w : World) (h : HB w H v []) :
    Calls Try.prog 12 #[.pointer (some ⟨H, 0, none⟩)] w fun e w' => e = .returned (.tuple #[.int .i64 0, .int .i64 0, .int .i64 8]) ∧ Below w.heap.size w w' := by
  obtain ⟨s, h1, h2⟩ := h
  refine (pop_none H v s w h1 (List.perm_nil.1 h2.perm)).mono ?_
  rintro e w' ⟨he, n, rfl⟩
  exact ⟨he, below_drewN (Below.refl _ _) n⟩
theorem Pop_some (H : Nat) (v : Value) (a : En) (L : List En) (w : World) (h : HB w H v (a :: L)) :
    Calls Try.prog 12 #[.pointer (some ⟨H, 0, none⟩)] w fun e w' => e = .returned (.tuple #[.int .i64 a.2, .int .i64 a.1, .int .i64 0]) ∧ HStep H v L w w' := by
  obtain ⟨s, h1, h2⟩ := h
  obtain ⟨b, hb⟩ := h2.last (by simp)
  refine (pop_some H v s a b w h1 h2.head hb).mono ?_
  rintro e' w' ⟨he, v', h3, h4, h5⟩
  exact ⟨he, v', ⟨_, h3, h2.pop hb⟩, h5, .inl h4⟩
theorem Top_any (H : Nat) (v : Value) (L : List En) (w : World) (h : HB w H v L) :
    Calls Try.prog 28 #[.pointer (some ⟨H, 0, none⟩)] w fun e w' => e = .returned (topR L) ∧ Below w.heap.size w w' := by
  obtain ⟨s, h1, h2⟩ := h
  refine (top_any H v s w h1).mono ?_
  rintro e w' ⟨he, n, rfl⟩
  refine ⟨?_, below_drewN (Below.refl _ _) n⟩
  rw [he]
  cases L with
  | nil => rw [List.perm_nil.1 h2.perm]
  | cons a L =>
    have := h2.head
    cases hs : s.1 with
    | nil => rw [hs] at this; simp at this
    | cons c l => rw [hs] at this; simp at this; subst this; rfl
theorem Len_any (H : Nat) (v : Value) (L : List En) (w : World) (h : HB w H v L) : Calls Try.prog 11 #[.pointer (some ⟨H, 0, none⟩)] w fun e w' => e = .returned (.int .i64 L.length) ∧ w = w' := by
  obtain ⟨s, h1, h2⟩ := h
  rw [← h2.length]
  exact len_any H v s w h1
theorem New_any (w : World) : Calls Try.prog 8 #[] w fun e w' => e = .returned (.pointer (some ⟨w.heap.size, 0, none⟩)) ∧ HB w' w.heap.size (.slice none 0 0) [] ∧ Below w.heap.size w w' :=
  (new_any w).mono fun _ _ ⟨h1, h2, h3⟩ => ⟨h1, ⟨([], fun _ => 0), h2, Hs.new⟩, h3⟩
/-- The answer of Nodes. -/
def NodesR (L : List En) (w : World) (e : Ending) (w' : World) : Prop :=
  ∃ out, e = .returned out ∧ w'.ownsRow w.heap.size 3 1 out L.length (natL (L.map (·.2))) ∧ Below w.heap.size w w'
theorem Nodes_any (H : Nat) (v : Value) (L : List En) (w : World) (h : HB w H v L) : Calls Try.prog 13 #[.pointer (some ⟨H, 0, none⟩)] w (NodesR L w) := by
  obtain ⟨s, h1, h2⟩ := h
  have hn := h2.nodes
  have : Calls Try.prog 13 #[.pointer (some ⟨H, 0, none⟩)] w (NodesOk s w) := by
    by_cases h0 : 0 < s.1.length
    · exact nodes_some H v s w h1 h0
    · exact nodes_none H v s w h1 (List.eq_nil_of_length_eq_zero (by omega))
  refine this.mono ?_
  rintro e w' ⟨out, h3, h4, h5⟩
  rw [hn, List.length_map] at h4
  exact ⟨out, h3, h4, h5⟩
theorem nodes_nil (w : World) : Calls Try.prog 13 #[.pointer none] w fun e w' => e = .returned (.slice none 0 0) ∧ w = w' := by
  go_enter Try.func13, Try.ntmps13
  go_wp2
  go_ret
  exact ⟨rfl, rfl⟩
theorem lower_nil (n k : Int) (w : World) : Calls Try.prog 19 #[.pointer none, .int .i64 n, .int .i64 k] w fun e w' => e = .returned (.int .i64 2) ∧ w = w' := by
  go_enter Try.func19, Try.ntmps19
  go_wp2
  go_ret
  exact ⟨rfl, rfl⟩
theorem key_nil (n : Int) (w : World) : Calls Try.prog 24 #[.pointer none, .int .i64 n] w fun e w' => e = .returned (.tuple #[.int .i64 0, .int .i64 2]) ∧ w = w' := by
  go_enter Try.func24, Try.ntmps24
  go_wp2
  go_ret2
  exact ⟨rfl, rfl⟩

/-- A step of a heap made behind w. -/
theorem HStep.below {H : Nat} {v : Value} {L : List En} {w w1 w2 : World} (b : Below w.heap.size w w1) (hH : w.heap.size ≤ H) (hv : ∀ g, v.ownBlock = some g → w.heap.size ≤ g) (h : HStep H v L w1 w2) :
    ∃ v', HB w2 H v' L ∧ Below w.heap.size w w2 ∧ ∀ g, v'.ownBlock = some g → w.heap.size ≤ g := by
  obtain ⟨v', h1, h2, h3⟩ := h
  refine ⟨v', h1, Go.Proofs.Ytpapknmkiampgaa.Below.keep b b.size h2 (by rintro i (e | e); omega; exact hv i e), fun g hg => ?_⟩
  rcases h3 with e | ⟨g', e, hg'⟩
  · rw [e] at hg; exact hv g hg
  · rw [e] at hg
    injection hg with hg
    have := b.size
    omega

set_option maxHeartbeats 1000000 in
theorem awake_true (w : World) : Calls Try.prog 7 #[] w fun e w' => e = .returned (.bool true) ∧ Below w.heap.size w w' := by
  go_enter Try.func7, Try.ntmps7
  go_wp2_with fail
  refine (New_any w).mono ?_
  rintro e w1 ⟨rfl, hB, hb⟩
  obtain ⟨v, hv⟩ : ∃ v, v = Value.slice none 0 0 := ⟨_, rfl⟩
  have hg : ∀ g, v.ownBlock = some g → w.heap.size ≤ g := by rw [hv]; intro g h; cases h
  rw [← hv] at hB
  obtain ⟨H, hH⟩ : ∃ H, H = w.heap.size := ⟨_, rfl⟩
  rw [← hH] at hB ⊢
  have hH' : w.heap.size ≤ H := by omega
  clear hv hH
  go_wp2_with fail
  refine (Push_new H v [] 5 _ 20 _ rfl hB (by omega) (by simp)).mono ?_
  rintro e w2 ⟨rfl, hS⟩
  obtain ⟨v2, hB2, hb2, hg2⟩ := hS.below hb hH' hg
  clear hS hB hb hg
  go_wp2_with fail
  refine (Push_new H v2 (ins (20, 5) []) 3 _ 10 _ rfl hB2 (by omega) (by simp [ins])).mono ?_
  rintro e w3 ⟨rfl, hS⟩
  obtain ⟨v3, hB3, hb3, hg3⟩ := hS.below hb2 hH' hg2
  have e3 : ins (10, 3) (ins (20, 5) []) = [(10, 3), (20, 5)] := by decide
  rw [e3] at hB3
  clear hS hB2 hb2 hg2 e3
  go_wp2_with fail
  refine (Pop_some H v3 (10, 3) [(20, 5)] _ hB3).mono ?_
  rintro e w4 ⟨rfl, hS⟩
  obtain ⟨v4, hB4, hb4, hg4⟩ := hS.below hb3 hH' hg3
  clear hS hB3 hb3 hg3
  go_wp2_with (go_at_call 11; refine (Len_any H v4 _ _ hB4).mono ?_; rintro e w' ⟨rfl, rfl⟩)
  go_ret
  exact ⟨rfl, hb4⟩
end Go.Proofs.Ytpapknmkiampgaa
