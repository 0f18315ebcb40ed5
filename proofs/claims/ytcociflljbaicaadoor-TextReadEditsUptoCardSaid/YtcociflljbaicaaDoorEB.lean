/- Edit: the line of a good edit, the kinds with a place. -/
import Derived.Test.YtcociflljbaicaaDoorZC
namespace Go.Proofs.YtcociflljbaicaaDoor
open Go.RowKit Go.Lib

set_option maxHeartbeats 8000000 in
set_option maxRecDepth 100000 in
theorem Edit_spot1 (a x y : Int) (ha : I64 a) (hx : P20 x) (hy : P20 y) (w : World) (hv : VarsW w) :
    Calls Tryd.prog 12 #[(⟨1, a, 0, 0, 0, x, y, 0, 0, false⟩ : Ed).val] w fun e' w' => e' = .returned (.tuple #[.string (bs (joinA 32 [W 1, itoa a, itoa x, itoa y])), .int .i64 0]) ∧ Below w.heap.size w w' := by
  have h9 := E9.new w ⟨1, a, 0, 0, 0, x, y, 0, 0, false⟩
  have hA := (Below.refl _ w).alloc (Nat.le_refl _) (.cells (⟨1, a, 0, 0, 0, x, y, 0, 0, false⟩ : Ed).cells 34)
  have h1 := i64_1 ha
  have hz := ints_size [a] h1 (by simp)
  have hz2 := ints_size [x, y] (i64_2 hx.i64 hy.i64) (by simp)
  simp only [Ed.val, Ed.cells, Int.cast_ofNat_Int] at h9 hA ⊢
  go_enter Tryd.func12, Tryd.ntmps12
  go_wp2_with (go_at_call 30; refine (Ok_fi x y hx hy _).mono ?_; rintro e w1 ⟨rfl, rfl⟩)
  have hvA := hv.below hA
  have hAs := hA.size
  generalize w.alloc _ = W1 at *
  have c1 : W1.cell? ⟨w.heap.size, 1, none⟩ = some (.int .i64 a) := h9.c1
  have c5 : W1.cell? ⟨w.heap.size, 5, none⟩ = some (.complex .f64 (fi x) (fi y)) := h9.c5
  have c5A : (W1.alloc (.cells #[.int .i64 a] 3)).cell? ⟨w.heap.size, 5, none⟩ = some (.complex .f64 (fi x) (fi y)) := (h9.below ((Below.refl _ _).alloc (Nat.le_refl _) _)).c5
  have slA : SlR (W1.alloc (.cells #[.int .i64 a] 3)).drew 1 (.slice (some ⟨W1.heap.size, 0, none⟩) 1 1) [a].length (ints [a]) := (ints_at W1 _ rfl [a] #[.int .i64 a] rfl (by simp) _ rfl).below (Below.refl _ _).drew
  have hAA : Below W1.heap.size W1 (W1.alloc (.cells #[.int .i64 a] 3)).drew := ((Below.refl _ W1).alloc (Nat.le_refl _) _).drew
  have hDD : Below W1.heap.size W1 W1.drew := (Below.refl _ W1).drew
  go_region_with (first
    | (go_at_call 31; first
      | (refine (ints_any _ [a] h1 (by simp) (by simp) _ slA (hvA.below hAA)).mono ?_; rintro e wi ⟨rfl, hbi⟩; have hI := hAA.trans (hbi.mono hAA.size); have hvi := hvA.below hI; generalize hs1 : bs (join ([a].map itoa) [32]) = s1 at hz ⊢; have d5 : wi.cell? ⟨w.heap.size, 5, none⟩ = some (.complex .f64 (fi x) (fi y)) := (h9.below hI).c5)
      | (refine (ints_any _ [a] h1 (by simp) (by simp) _ (slA.below hbs) hvs).mono ?_; rintro e wi ⟨rfl, hbi⟩; have hI := hS.trans (hbi.mono hS.size); have hF := hI; generalize hs1 : bs (join ([a].map itoa) [32]) = s1 at hz ⊢)
      | (refine (ints_any _ [a] h1 (by simp) (by simp) _ (ints_at ws _ rfl [a] #[.int .i64 a] rfl (by simp) _ rfl) (hvs.below ((Below.refl _ ws).alloc (Nat.le_refl _) _))).mono ?_; rintro e wi ⟨rfl, hbi⟩; have hI := (hS.alloc hS.size _).trans (hbi.mono (by simp; have := hS.size; omega)); have hF := hI; generalize hs1 : bs (join ([a].map itoa) [32]) = s1 at hz ⊢))
    | (go_at_call 32; first
      | (refine (spot_any x y hx hy _ hvi).mono ?_; rintro e ws ⟨rfl, hbs⟩; have hS := hI.trans (hbs.mono hI.size); have hF := hS; generalize hs2 : bs (join ([x, y].map itoa) [32]) = s2 at hz2 ⊢)
      | (refine (spot_any x y hx hy _ (hvA.below hDD)).mono ?_; rintro e ws ⟨rfl, hbs⟩; have hS := hDD.trans (hbs.mono hDD.size); have hvs := hvA.below hS; generalize hs2 : bs (join ([x, y].map itoa) [32]) = s2 at hz2 ⊢; have d1 : ws.cell? ⟨w.heap.size, 1, none⟩ = some (.int .i64 a) := (h9.below hS).c1)
      | (refine (spot_any x y hx hy _ (hvA.below hAA)).mono ?_; rintro e ws ⟨rfl, hbs⟩; have hS := hAA.trans (hbs.mono hAA.size); have hvs := hvA.below hS; generalize hs2 : bs (join ([x, y].map itoa) [32]) = s2 at hz2 ⊢; have d1 : ws.cell? ⟨w.heap.size, 1, none⟩ = some (.int .i64 a) := (h9.below hS).c1)))
  all_goals
    have h9f := h9.below hF
    have hwd := word_of hF 1 (by decide)
    have c0' := kind_of h9f 1 rfl
    have c0 : _ = some (Value.int IntKind.i64 1) := h9f.c0
    have hwz := W_size 1 (by decide)
    have hA2 := hA.trans (hF.mono hAs)
    clear h9 h9f hF c1 c5 c5A slA hAA hDD
    go_wp2_with fail
    go_region_with (go_at_call 23; refine (words_any _).mono ?_; rintro e w4 ⟨rfl, rfl⟩)
    all_goals
      go_wp2_with fail
      go_ret2
      exact ⟨fin 1 (join [itoa a] [32] ++ [32] ++ join [itoa x, itoa y] [32]) _ _ (by rw [← hs1, ← hs2, ← bs_append, ← bs_append]; rfl) (by simp [joinA, join_cons, joinTail]), (hA2.alloc hA2.size _).drew⟩
end Go.Proofs.YtcociflljbaicaaDoor
