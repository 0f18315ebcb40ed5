/- The laws InternUnions and InternFull: the walks. -/
import Derived.Test.YtbbiakpieakfoaaB
namespace Go.Proofs.Ytbbiakpieakfoaa
open Go.RowKit

theorem ID_awake (T M g : Nat) (w : World) (h : Tab w T M g [(0, 0)]) :
    Calls Try.prog 9 #[.pointer (some ⟨T, 0, none⟩), .agg #[.int .u64 5, .int .u64 0]] w fun e w' => e = .returned (.tuple #[.int .i64 1, .int .i64 0]) ∧
      ∃ g', Tab w' T M g' [(0, 0), (5, 0)] ∧ Keep (fun k => k = T ∨ k = M ∨ k = g) w w' ∧ (g' = g ∨ w.heap.size ≤ g') := by
  have := ID_any (5, 0) T M g [(0, 0)] w h
  have e : idRes (5, 0) [(0, 0)] = (1, 0, [(0, 0), (5, 0)]) := by decide
  rw [e] at this
  exact this

theorem Union_awake (T M g : Nat) (w : World) (h : Tab w T M g [(0, 0), (5, 0)]) :
    Calls Try.prog 10 #[.pointer (some ⟨T, 0, none⟩), .int .i64 1, .int .i64 0] w fun e w' => e = .returned (.tuple #[.int .i64 1, .int .i64 0]) ∧
      ∃ g', Tab w' T M g' [(0, 0), (5, 0)] ∧ Keep (fun k => k = T ∨ k = M ∨ k = g) w w' ∧ (g' = g ∨ w.heap.size ≤ g') := by
  have := Union_in T M g 1 0 [(0, 0), (5, 0)] w h (by decide) (by decide)
  have e : idRes (orB (5, 0) (0, 0)) [(0, 0), (5, 0)] = (1, 0, [(0, 0), (5, 0)]) := by decide
  simp only [List.getElem_cons_succ, List.getElem_cons_zero] at this
  rw [e] at this
  exact this

set_option maxHeartbeats 1000000 in
set_option maxRecDepth 100000 in
theorem awake_true (w : World) :
    Calls Try.prog 8 #[] w fun e w' => e = .returned (.bool true) ∧ Below w.heap.size w w' := by
  go_enter Try.func8, Try.ntmps8
  go_wp2_with fail
  refine (New_any w).mono ?_
  rintro e w1 ⟨T, M, g, rfl, hb1, h1, gT, gM, gg⟩
  go_wp2_with fail
  refine (ID_awake T M g _ h1).mono ?_
  rintro e w2 ⟨rfl, g2, h2, k2, r2⟩
  go_wp2_with fail
  refine (Union_awake T M g2 _ h2).mono ?_
  rintro e w3 ⟨rfl, g3, h3, k3, r3⟩
  go_wp2_with fail
  refine (Len_any T M g3 _ _ h3).mono ?_
  rintro e w4 ⟨rfl, rfl⟩
  go_wp2_with fail
  go_ret
  have z1 := hb1.size
  have z2 := k2.size
  have b2 := Below.keep hb1 z1 k2 (by rintro i (rfl | rfl | rfl) <;> assumption)
  exact ⟨rfl, Below.keep b2 (by omega) k3 (by rintro i (rfl | rfl | rfl) <;> omega)⟩

/-! ### The plain law -/
theorem idxFrom_some (s : Bt) : ∀ (L : List Bt) (n j : Nat), idxFrom n s L = some j → n ≤ j ∧ L[j - n]? = some s := by
  intro L
  induction L with
  | nil => intro n j h; simp [idxFrom] at h
  | cons x L ih =>
    intro n j h
    unfold idxFrom at h
    split at h
    · rename_i hx
      simp only [Option.some.injEq] at h
      subst h
      subst hx
      simp
    · obtain ⟨h1, h2⟩ := ih _ _ h
      refine ⟨by omega, ?_⟩
      rw [show j - n = (j - (n + 1)) + 1 by omega]
      simpa using h2
theorem idxFrom_none (s : Bt) : ∀ (L : List Bt) (n : Nat), idxFrom n s L = none → s ∉ L := by
  intro L
  induction L with
  | nil => intro n _; simp
  | cons x L ih =>
    intro n h
    unfold idxFrom at h
    split at h
    · cases h
    · rename_i hx
      have := ih _ h
      simp [hx, this]
theorem idxFrom_nodup (s : Bt) (L : List Bt) (h : L.Nodup) (j : Nat) (hj : L[j]? = some s) : idxFrom 0 s L = some j := by
  cases hi : idxFrom 0 s L with
  | none =>
    have := idxFrom_none s L 0 hi
    exact absurd (List.mem_of_getElem? hj) this
  | some i =>
    have h2 := (idxFrom_some s L 0 i hi).2
    rw [Nat.sub_zero] at h2
    obtain ⟨a1, a2⟩ := List.getElem?_eq_some_iff.1 h2
    obtain ⟨b1, b2⟩ := List.getElem?_eq_some_iff.1 hj
    congr 1
    exact (List.getElem_inj h).1 (by rw [a2, b2])

/-- What ID does to a list without doubles that has room. -/
theorem idRes_spec (s : Bt) (L : List Bt) (h : L.Nodup) (hn : L.length < 1024) :
    ∃ j L', idRes s L = (j, 0, L') ∧ L'.Nodup ∧ (∀ (i : Nat) (t : Bt), L[i]? = some t → L'[i]? = some t) ∧ L'[j]? = some s ∧ L'.length ≤ L.length + 1 := by
  cases hj : idxFrom 0 s L with
  | some j =>
    exact ⟨j, L, by simp [idRes, hj], h, fun _ _ h => h, by simpa using (idxFrom_some s L 0 j hj).2, by omega⟩
  | none =>
    refine ⟨L.length, L ++ [s], by simp [idRes, hj, Nat.not_le.2 hn], ?_, ?_, by simp, by simp⟩
    · rw [List.nodup_append]
      refine ⟨h, by simp, ?_⟩
      intro a ha b hb
      simp at hb
      subst hb
      exact fun e => idxFrom_none b L 0 hj (e ▸ ha)
    · intro i t hi
      rw [List.getElem?_append_left (List.getElem?_eq_some_iff.1 hi).1]
      exact hi

/-- A table and its sets, which are different ones and fewer than 1024. -/
structure TabG (w : World) (T M : Nat) (B : Nat) (L : List Bt) : Prop where
  tab : ∃ g, B ≤ g ∧ Tab w T M g L
  nodup : L.Nodup

def Grew (L L' : List Bt) : Prop := (∀ (i : Nat) (t : Bt), L[i]? = some t → L'[i]? = some t) ∧ L'.length ≤ L.length + 1

theorem ID_good (s : Bt) (T M B : Nat) (L : List Bt) (w : World) (h : TabG w T M B L) (hn : L.length < 1024) (hB : B ≤ w.heap.size) (hT : B ≤ T) (hM : B ≤ M) :
    Calls Try.prog 9 #[.pointer (some ⟨T, 0, none⟩), bv s] w fun e w' => ∃ (j : Nat) (L' : List Bt), e = .returned (.tuple #[.int .i64 j, .int .i64 0]) ∧ TabG w' T M B L' ∧ Below B w w' ∧ Hid (Grew L L' ∧ L'[j]? = some s) := by
  obtain ⟨⟨g, hg, ht⟩, hd⟩ := h
  obtain ⟨j, L', e, h1, h2, h3, h4⟩ := idRes_spec s L hd hn
  have := ID_any s T M g L w ht
  rw [e] at this
  refine this.mono ?_
  rintro e w' ⟨rfl, g', h5, h6, h7⟩
  exact ⟨j, L', rfl, ⟨⟨g', by omega, h5⟩, h1⟩, Below.keep (Below.refl _ _) hB h6 (by rintro i (rfl | rfl | rfl) <;> assumption), ⟨h2, h4⟩, h3⟩

theorem Union_good (a b : Bt) (T M B i k : Nat) (L : List Bt) (w : World) (h : TabG w T M B L) (hn : L.length < 1024) (hB : B ≤ w.heap.size) (hT : B ≤ T) (hM : B ≤ M) (ha : L[i]? = some a) (hb : L[k]? = some b) :
    Calls Try.prog 10 #[.pointer (some ⟨T, 0, none⟩), .int .i64 i, .int .i64 k] w fun e w' => ∃ (j : Nat) (L' : List Bt), e = .returned (.tuple #[.int .i64 j, .int .i64 0]) ∧ TabG w' T M B L' ∧ Below B w w' ∧ Hid (Grew L L' ∧ L'[j]? = some (orB a b)) := by
  obtain ⟨⟨g, hg, ht⟩, hd⟩ := h
  obtain ⟨hi, ha'⟩ := List.getElem?_eq_some_iff.1 ha
  obtain ⟨hk, hb'⟩ := List.getElem?_eq_some_iff.1 hb
  obtain ⟨j, L', e, h1, h2, h3, h4⟩ := idRes_spec (orB a b) L hd hn
  have := Union_in T M g i k L w ht hi hk
  rw [ha', hb', e] at this
  refine this.mono ?_
  rintro e w' ⟨rfl, g', h5, h6, h7⟩
  exact ⟨j, L', rfl, ⟨⟨g', by omega, h5⟩, h1⟩, Below.keep (Below.refl _ _) hB h6 (by rintro i (rfl | rfl | rfl) <;> assumption), ⟨h2, h4⟩, h3⟩
end Go.Proofs.Ytbbiakpieakfoaa
