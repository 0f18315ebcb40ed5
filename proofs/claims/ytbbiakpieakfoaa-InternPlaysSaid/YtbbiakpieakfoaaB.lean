/- The table of sets: Set, Len, Union. -/
import Derived.Test.YtbbiakpieakfoaaA
namespace Go.Proofs.Ytbbiakpieakfoaa
open Go.RowKit

theorem flatMap_bc_at (sets : List Bt) : ∀ (i : Nat) (hi : i < sets.length), (sets.flatMap bc)[i * 2]? = some (.int .u64 (u sets[i].1)) ∧ (sets.flatMap bc)[i * 2 + 1]? = some (.int .u64 (u sets[i].2)) := by
  induction sets with
  | nil => intro i hi; simp at hi
  | cons s l ih =>
    intro i hi
    cases i with
    | zero => simp [bc]
    | succ i =>
      have := ih i (by simpa using hi)
      rw [List.flatMap_cons]
      have hl : (bc s).length = 2 := rfl
      rw [List.getElem?_append_right (by rw [hl]; omega), List.getElem?_append_right (by rw [hl]; omega), hl]
      rw [show (i + 1) * 2 - 2 = i * 2 by omega, show (i + 1) * 2 + 1 - 2 = i * 2 + 1 by omega]
      simpa using this

theorem Tab.set_at {w : World} {T M g : Nat} {sets : List Bt} (h : Tab w T M g sets) (i : Nat) (hi : i < sets.length) : w.cell? ⟨g, i * 2, none⟩ = some (.int .u64 (u sets[i].1)) ∧ w.cell? ⟨g, i * 2 + 1, none⟩ = some (.int .u64 (u sets[i].2)) := by
  obtain ⟨cap, _, _, h3⟩ := h
  have h1 := h3.cells (g := g) rfl (i * 2) _ (flatMap_bc_at sets i hi).1
  have h2 := h3.cells (g := g) rfl (i * 2 + 1) _ (flatMap_bc_at sets i hi).2
  rw [Addr.add_at] at h1 h2
  simpa using And.intro h1 h2

set_option maxHeartbeats 1000000 in
set_option maxRecDepth 100000 in
theorem Set_in (T M g i : Nat) (sets : List Bt) (w : World) (h : Tab w T M g sets) (hi : i < sets.length) :
    Calls Try.prog 11 #[.pointer (some ⟨T, 0, none⟩), .int .i64 i] w fun e w' => e = .returned (.tuple #[bv sets[i], .int .i64 0]) ∧ Below w.heap.size w w' := by
  obtain ⟨cap, c0, c1, _, _, hM, _⟩ := h.cells
  have hlt := h.lt
  obtain ⟨e0, e1⟩ := h.set_at i hi
  have d1 : ((sets.length : Int) ≤ (i : Int)) = False := by simp; omega
  have d0 : ((i : Int) < 0) = False := by simp
  clear hM
  go_enter Try.func11, Try.ntmps11
  go_wp2
  exact bodyPost_ret (v := .tuple #[bv sets[i], .int .i64 0]) (by simp [results, Try.results11, go_sem]) rfl ⟨rfl, (Below.refl _ _).alloc (Nat.le_refl _) _⟩

set_option maxHeartbeats 1000000 in
set_option maxRecDepth 100000 in
theorem Set_out (T M g : Nat) (n : Int) (sets : List Bt) (w : World) (h : Tab w T M g sets) (hi : n < 0 ∨ (sets.length : Int) ≤ n) :
    Calls Try.prog 11 #[.pointer (some ⟨T, 0, none⟩), .int .i64 n] w fun e w' => e = .returned (.tuple #[bv (0, 0), .int .i64 2]) ∧ Below w.heap.size w w' := by
  obtain ⟨cap, c0, c1, _, _, hM, _⟩ := h.cells
  have hlt := h.lt
  clear hM
  have hz : bv (0, 0) = .agg #[.int .u64 0, .int .u64 0] := rfl
  have HZ := Lib.hid hz
  clear hz
  by_cases h0 : n < 0
  · go_enter Try.func11, Try.ntmps11
    go_wp2
    exact bodyPost_ret (v := .tuple #[.agg #[.int .u64 0, .int .u64 0], .int .i64 2]) (by simp [results, Try.results11, go_sem]) rfl ⟨by rw [HZ.out], (Below.refl _ _).alloc (Nat.le_refl _) _⟩
  · have h1 : (sets.length : Int) ≤ n := by omega
    clear hi
    go_enter Try.func11, Try.ntmps11
    go_wp2
    exact bodyPost_ret (v := .tuple #[.agg #[.int .u64 0, .int .u64 0], .int .i64 2]) (by simp [results, Try.results11, go_sem]) rfl ⟨by rw [HZ.out], (Below.refl _ _).alloc (Nat.le_refl _) _⟩

set_option maxHeartbeats 1000000 in
theorem Len_any (T M g : Nat) (sets : List Bt) (w : World) (h : Tab w T M g sets) :
    Calls Try.prog 12 #[.pointer (some ⟨T, 0, none⟩)] w fun e w' => e = .returned (.int .i64 sets.length) ∧ w = w' := by
  obtain ⟨cap, c0, c1, _, _, hM, _⟩ := h.cells
  clear hM
  go_enter Try.func12, Try.ntmps12
  go_wp2
  go_ret
  exact ⟨rfl, rfl⟩

/-- ID, whatever it meets. -/
theorem ID_any (s : Bt) (T M g : Nat) (sets : List Bt) (w : World) (h : Tab w T M g sets) :
    Calls Try.prog 9 #[.pointer (some ⟨T, 0, none⟩), bv s] w fun e w' => e = .returned (.tuple #[.int .i64 ((idRes s sets).1 : Nat), .int .i64 ((idRes s sets).2.1 : Nat)]) ∧
      ∃ g', Tab w' T M g' (idRes s sets).2.2 ∧ Keep (fun k => k = T ∨ k = M ∨ k = g) w w' ∧ (g' = g ∨ w.heap.size ≤ g') := by
  cases hj : idxFrom 0 s sets with
  | some j =>
    have e : idRes s sets = (j, 0, sets) := by simp [idRes, hj]
    rw [e]
    exact (ID_found s T M g j sets w h hj).mono fun _ w' ⟨h1, h2⟩ => ⟨h1, g, h.below h2, Keep.of_below h2, .inl rfl⟩
  | none =>
    by_cases hn : 1024 ≤ sets.length
    · have e : idRes s sets = (0, 7, sets) := by simp [idRes, hj, hn]
      rw [e]
      exact (ID_full s T M g sets w h hj hn).mono fun _ w' ⟨h1, h2⟩ => ⟨h1, g, h.below h2, Keep.of_below h2, .inl rfl⟩
    · have e : idRes s sets = (sets.length, 0, sets ++ [s]) := by simp [idRes, hj, hn]
      rw [e]
      exact ID_new s T M g sets w h hj (by omega)

set_option maxHeartbeats 1000000 in
set_option maxRecDepth 100000 in
theorem Union_in (T M g i j : Nat) (sets : List Bt) (w : World) (h : Tab w T M g sets) (hi : i < sets.length) (hj : j < sets.length) :
    Calls Try.prog 10 #[.pointer (some ⟨T, 0, none⟩), .int .i64 i, .int .i64 j] w fun e w' => e = .returned (.tuple #[.int .i64 ((idRes (orB sets[i] sets[j]) sets).1 : Nat), .int .i64 ((idRes (orB sets[i] sets[j]) sets).2.1 : Nat)]) ∧
      ∃ g', Tab w' T M g' (idRes (orB sets[i] sets[j]) sets).2.2 ∧ Keep (fun k => k = T ∨ k = M ∨ k = g) w w' ∧ (g' = g ∨ w.heap.size ≤ g') := by
  go_enter Try.func10, Try.ntmps10
  go_wp2_with fail
  refine (Set_in T M g i sets w h hi).mono ?_
  rintro e w1 ⟨rfl, hb1⟩
  have h1 := h.below hb1
  go_wp2_with fail
  refine (Set_in T M g j sets _ (h1.below ((Below.refl _ _).alloc (Nat.le_refl _) _)) hj).mono ?_
  rintro e w2 ⟨rfl, hb2⟩
  have k0 := box_cell' hb2 0 _ rfl
  have k1 := box_cell' hb2 1 _ rfl
  have h2 := (h1.below ((Below.refl _ _).alloc (Nat.le_refl _) _)).below hb2
  have hB : Below w.heap.size w w2 := hb1.trans (((Below.refl w.heap.size w1).alloc hb1.size _).trans (hb2.mono (by have := hb1.size; simp; omega)))
  have HB := Lib.hid hB
  clear hb1 hb2 hB
  go_wp2_with fail
  refine (Or_any sets[i] sets[j] _).mono ?_
  rintro e w3 ⟨rfl, hb3⟩
  have h3 := (h2.below ((Below.refl _ _).alloc (Nat.le_refl _) _)).below hb3
  have HB3 : Hid (Below w.heap.size w w3) := HB.out.trans (((Below.refl w.heap.size w2).alloc HB.out.size _).trans (hb3.mono (by have := HB.out.size; simp; omega)))
  clear hb3 k0 k1
  go_wp2_with fail
  refine (ID_any (orB sets[i] sets[j]) T M g sets _ h3).mono ?_
  rintro e w4 ⟨rfl, g', h4, hk, hg⟩
  go_wp2_with fail
  go_ret2
  refine ⟨rfl, g', h4, (Keep.of_below HB3.out).trans (hk.mono (fun _ _ h => h)) , ?_⟩
  have := HB3.out.size
  rcases hg with hg | hg
  · exact .inl hg
  · exact .inr (by omega)
end Go.Proofs.Ytbbiakpieakfoaa
