/- With, Without, and the law BitsOnes; printed by genH.py. -/
import Derived.Test.YthhinchifegofaaG
namespace Go.Proofs.Ythhinchifegofaa
open Go.RowKit

theorem withR_in {s : Bt} {n : Int} (h : inN n = true) : withR s n = (addB s n.toNat, 0) := by simp [withR, h]
theorem withR_out {s : Bt} {n : Int} (h : inN n = false) : withR s n = ((0, 0), 2) := by simp [withR, h]
theorem withoutR_in {s : Bt} {n : Int} (h : inN n = true) : withoutR s n = (minusB s (addB (0, 0) n.toNat), 0) := by simp [withoutR, h]
theorem withoutR_out {s : Bt} {n : Int} (h : inN n = false) : withoutR s n = ((0, 0), 2) := by simp [withoutR, h]

theorem of_one_row (n : Int) (a : Option Addr) (cap : Nat) (w : World) (h : SlR w 1 (.slice a 1 cap) 1 (ints [n])) : Calls Try.prog 10 #[.slice a 1 cap] w fun e w' => e = .returned (.tuple #[bv (withR (0,0) n).1, .int .i64 (withR (0,0) n).2]) ∧ Below w.heap.size w w' := by
  have := Of_any a cap [n] _ h
  rwa [of_one] at this
theorem one_row (n : Int) (w : World) (B : Nat) (hB : w.heap.size = B) : SlR (w.alloc (.cells #[.int .i64 n] 3)) 1 (.slice (some ⟨B, 0, none⟩) 1 1) 1 (ints [n]) := by
  subst hB
  exact SlR.of_owns (World.ownsRow_lit (base := 0) (e := 3) (size := 1) w #[.int .i64 n] 1 (Nat.zero_le _) (by simp [maxLen]) rfl)

set_option maxHeartbeats 1000000 in
set_option maxRecDepth 100000 in
theorem With_in (s : Bt) (n : Int) (hin : inN n = true) (w : World) :
    Calls Try.prog 12 #[bv s, .int .i64 n] w fun e w' => e = .returned (.tuple #[bv (withR s n).1, .int .i64 (withR s n).2]) ∧ Below w.heap.size w w' := by
  rw [withR_in hin]
  have ha := (Arr.new w s).alloc (by simp) (.cells #[.int .u64 0, .int .u64 0] 24)
  have hr : Arr ((w.alloc (.cells #[.int .u64 (u s.1), .int .u64 (u s.2)] 24)).alloc (.cells #[.int .u64 0, .int .u64 0] 24)) (w.heap.size + 1) (0, 0) := by
    have := Arr.new (w.alloc (.cells #[.int .u64 (u s.1), .int .u64 (u s.2)] 24)) (0, 0)
    rwa [World.size_alloc] at this
  go_enter Try.func12, Try.ntmps12
  go_wp2_with fail
  have hsl := one_row n ((w.alloc (.cells #[.int .u64 (u s.1), .int .u64 (u s.2)] 24)).alloc (.cells #[.int .u64 0, .int .u64 0] 24)) (w.heap.size + 1 + 1) (by simp)
  refine (of_one_row n _ _ _ hsl).mono ?_
  rintro e w4 ⟨rfl, hb4⟩
  have hB0 : Below w.heap.size w w4 := ((((Below.refl _ _).alloc (Nat.le_refl _) _).alloc (by simp) _).alloc (by simp; omega) _).trans (hb4.mono (by simp; omega))
  have hs4 : w.heap.size + 1 < w4.heap.size := Nat.lt_of_lt_of_le (by simp) hb4.size
  replace ha := (ha.alloc (by simp; omega) (.cells #[.int .i64 n] 3)).below hb4
  replace hr := (hr.alloc (by simp) (.cells #[.int .i64 n] 3)).below hb4
  rw [withR_in hin]
  replace ha := ha.alloc (by omega) (.cells #[.int .u64 (u (addB (0,0) n.toNat).1), .int .u64 (u (addB (0,0) n.toNat).2)] 24)
  replace hr := hr.alloc (by omega) (.cells #[.int .u64 (u (addB (0,0) n.toNat).1), .int .u64 (u (addB (0,0) n.toNat).2)] 24)
  have hB1 := hB0.alloc (by omega) (.cells #[.int .u64 (u (addB (0,0) n.toNat).1), .int .u64 (u (addB (0,0) n.toNat).2)] 24)
  obtain ⟨a0, a1, af0, af1⟩ := id ha
  have b0 := (Arr.new w4 (addB (0,0) n.toNat)).1
  have b1 := (Arr.new w4 (addB (0,0) n.toNat)).2.1
  clear hb4 hsl
  go_wp2_with fail
  refine (Or_any s (addB (0,0) n.toNat) _).mono ?_
  rintro e w5 ⟨rfl, hb5⟩
  rw [or_add]
  replace hr := hr.below hb5
  have hB5 := hB1.trans (hb5.mono (by simp; omega))
  clear ha a0 a1 af0 af1 b0 b1 hb5 hB1 hB0
  obtain ⟨a0, a1, af0, af1⟩ := id hr
  go_wp2
  exact bodyPost_ret (v := .tuple #[bv (addB s n.toNat), .int .i64 0]) (by simp [results, Try.results12, go_sem, a0, a1]) rfl ⟨rfl, (hB5.setCell (Nat.le_add_right _ _) _).setCell (Nat.le_add_right _ _) _⟩

set_option maxHeartbeats 1000000 in
set_option maxRecDepth 100000 in
theorem With_out (s : Bt) (n : Int) (hin : inN n = false) (w : World) :
    Calls Try.prog 12 #[bv s, .int .i64 n] w fun e w' => e = .returned (.tuple #[bv (withR s n).1, .int .i64 (withR s n).2]) ∧ Below w.heap.size w w' := by
  rw [withR_out hin]
  have ha := (Arr.new w s).alloc (by simp) (.cells #[.int .u64 0, .int .u64 0] 24)
  have hr : Arr ((w.alloc (.cells #[.int .u64 (u s.1), .int .u64 (u s.2)] 24)).alloc (.cells #[.int .u64 0, .int .u64 0] 24)) (w.heap.size + 1) (0, 0) := by
    have := Arr.new (w.alloc (.cells #[.int .u64 (u s.1), .int .u64 (u s.2)] 24)) (0, 0)
    rwa [World.size_alloc] at this
  go_enter Try.func12, Try.ntmps12
  go_wp2_with fail
  have hsl := one_row n ((w.alloc (.cells #[.int .u64 (u s.1), .int .u64 (u s.2)] 24)).alloc (.cells #[.int .u64 0, .int .u64 0] 24)) (w.heap.size + 1 + 1) (by simp)
  refine (of_one_row n _ _ _ hsl).mono ?_
  rintro e w4 ⟨rfl, hb4⟩
  have hB0 : Below w.heap.size w w4 := ((((Below.refl _ _).alloc (Nat.le_refl _) _).alloc (by simp) _).alloc (by simp; omega) _).trans (hb4.mono (by simp; omega))
  have hs4 : w.heap.size + 1 < w4.heap.size := Nat.lt_of_lt_of_le (by simp) hb4.size
  replace ha := (ha.alloc (by simp; omega) (.cells #[.int .i64 n] 3)).below hb4
  replace hr := (hr.alloc (by simp) (.cells #[.int .i64 n] 3)).below hb4
  rw [withR_out hin]
  obtain ⟨x0, x1, xf0, xf1⟩ := id hr
  have hB1 := ((hB0.setCell (p := ⟨w.heap.size + 1, 0, none⟩) (Nat.le_add_right _ _) (.int .u64 0)).setCell (p := ⟨w.heap.size + 1, 1, none⟩) (Nat.le_add_right _ _) (.int .u64 0)).alloc (by simp; omega) (.cells #[.int .u64 0, .int .u64 0] 24)
  have hy := Arr.alloc ((hr.set0 0).set1 0) (by simpa using hs4) (.cells #[.int .u64 0, .int .u64 0] 24)
  obtain ⟨a0, a1, af0, af1⟩ := hr.alloc (by omega) (.cells #[.int .u64 0, .int .u64 0] 24)
  clear hb4 hsl
  have e0 : u 0 = 0 := rfl
  go_wp2
  obtain ⟨y0, y1, _, _⟩ := hy
  exact bodyPost_ret (v := .tuple #[bv (0, 0), .int .i64 2]) (by rw [e0] at y0 y1; simp [results, Try.results12, go_sem, e0, y0, y1]) rfl ⟨rfl, hB1⟩
theorem With_any (s : Bt) (n : Int) (w : World) :
    Calls Try.prog 12 #[bv s, .int .i64 n] w fun e w' => e = .returned (.tuple #[bv (withR s n).1, .int .i64 (withR s n).2]) ∧ Below w.heap.size w w' := by
  by_cases hin : inN n = true
  · exact With_in s n hin w
  · exact With_out s n (by simpa using hin) w

set_option maxHeartbeats 1000000 in
set_option maxRecDepth 100000 in
theorem Without_in (s : Bt) (n : Int) (hin : inN n = true) (w : World) :
    Calls Try.prog 14 #[bv s, .int .i64 n] w fun e w' => e = .returned (.tuple #[bv (withoutR s n).1, .int .i64 (withoutR s n).2]) ∧ Below w.heap.size w w' := by
  rw [withoutR_in hin]
  have ha := (Arr.new w s).alloc (by simp) (.cells #[.int .u64 0, .int .u64 0] 24)
  have hr : Arr ((w.alloc (.cells #[.int .u64 (u s.1), .int .u64 (u s.2)] 24)).alloc (.cells #[.int .u64 0, .int .u64 0] 24)) (w.heap.size + 1) (0, 0) := by
    have := Arr.new (w.alloc (.cells #[.int .u64 (u s.1), .int .u64 (u s.2)] 24)) (0, 0)
    rwa [World.size_alloc] at this
  go_enter Try.func14, Try.ntmps14
  go_wp2_with fail
  have hsl := one_row n ((w.alloc (.cells #[.int .u64 (u s.1), .int .u64 (u s.2)] 24)).alloc (.cells #[.int .u64 0, .int .u64 0] 24)) (w.heap.size + 1 + 1) (by simp)
  refine (of_one_row n _ _ _ hsl).mono ?_
  rintro e w4 ⟨rfl, hb4⟩
  have hB0 : Below w.heap.size w w4 := ((((Below.refl _ _).alloc (Nat.le_refl _) _).alloc (by simp) _).alloc (by simp; omega) _).trans (hb4.mono (by simp; omega))
  have hs4 : w.heap.size + 1 < w4.heap.size := Nat.lt_of_lt_of_le (by simp) hb4.size
  replace ha := (ha.alloc (by simp; omega) (.cells #[.int .i64 n] 3)).below hb4
  replace hr := (hr.alloc (by simp) (.cells #[.int .i64 n] 3)).below hb4
  rw [withR_in hin]
  replace ha := ha.alloc (by omega) (.cells #[.int .u64 (u (addB (0,0) n.toNat).1), .int .u64 (u (addB (0,0) n.toNat).2)] 24)
  replace hr := hr.alloc (by omega) (.cells #[.int .u64 (u (addB (0,0) n.toNat).1), .int .u64 (u (addB (0,0) n.toNat).2)] 24)
  have hB1 := hB0.alloc (by omega) (.cells #[.int .u64 (u (addB (0,0) n.toNat).1), .int .u64 (u (addB (0,0) n.toNat).2)] 24)
  obtain ⟨a0, a1, af0, af1⟩ := id ha
  have b0 := (Arr.new w4 (addB (0,0) n.toNat)).1
  have b1 := (Arr.new w4 (addB (0,0) n.toNat)).2.1
  clear hb4 hsl
  go_wp2_with fail
  refine (Minus_any s (addB (0,0) n.toNat) _).mono ?_
  rintro e w5 ⟨rfl, hb5⟩
  replace hr := hr.below hb5
  have hB5 := hB1.trans (hb5.mono (by simp; omega))
  clear ha a0 a1 af0 af1 b0 b1 hb5 hB1 hB0
  obtain ⟨a0, a1, af0, af1⟩ := id hr
  go_wp2
  exact bodyPost_ret (v := .tuple #[bv (minusB s (addB (0, 0) n.toNat)), .int .i64 0]) (by simp [results, Try.results14, go_sem, a0, a1]) rfl ⟨rfl, (hB5.setCell (Nat.le_add_right _ _) _).setCell (Nat.le_add_right _ _) _⟩

set_option maxHeartbeats 1000000 in
set_option maxRecDepth 100000 in
theorem Without_out (s : Bt) (n : Int) (hin : inN n = false) (w : World) :
    Calls Try.prog 14 #[bv s, .int .i64 n] w fun e w' => e = .returned (.tuple #[bv (withoutR s n).1, .int .i64 (withoutR s n).2]) ∧ Below w.heap.size w w' := by
  rw [withoutR_out hin]
  have ha := (Arr.new w s).alloc (by simp) (.cells #[.int .u64 0, .int .u64 0] 24)
  have hr : Arr ((w.alloc (.cells #[.int .u64 (u s.1), .int .u64 (u s.2)] 24)).alloc (.cells #[.int .u64 0, .int .u64 0] 24)) (w.heap.size + 1) (0, 0) := by
    have := Arr.new (w.alloc (.cells #[.int .u64 (u s.1), .int .u64 (u s.2)] 24)) (0, 0)
    rwa [World.size_alloc] at this
  go_enter Try.func14, Try.ntmps14
  go_wp2_with fail
  have hsl := one_row n ((w.alloc (.cells #[.int .u64 (u s.1), .int .u64 (u s.2)] 24)).alloc (.cells #[.int .u64 0, .int .u64 0] 24)) (w.heap.size + 1 + 1) (by simp)
  refine (of_one_row n _ _ _ hsl).mono ?_
  rintro e w4 ⟨rfl, hb4⟩
  have hB0 : Below w.heap.size w w4 := ((((Below.refl _ _).alloc (Nat.le_refl _) _).alloc (by simp) _).alloc (by simp; omega) _).trans (hb4.mono (by simp; omega))
  have hs4 : w.heap.size + 1 < w4.heap.size := Nat.lt_of_lt_of_le (by simp) hb4.size
  replace ha := (ha.alloc (by simp; omega) (.cells #[.int .i64 n] 3)).below hb4
  replace hr := (hr.alloc (by simp) (.cells #[.int .i64 n] 3)).below hb4
  rw [withR_out hin]
  obtain ⟨x0, x1, xf0, xf1⟩ := id hr
  have hB1 := ((hB0.setCell (p := ⟨w.heap.size + 1, 0, none⟩) (Nat.le_add_right _ _) (.int .u64 0)).setCell (p := ⟨w.heap.size + 1, 1, none⟩) (Nat.le_add_right _ _) (.int .u64 0)).alloc (by simp; omega) (.cells #[.int .u64 0, .int .u64 0] 24)
  have hy := Arr.alloc ((hr.set0 0).set1 0) (by simpa using hs4) (.cells #[.int .u64 0, .int .u64 0] 24)
  obtain ⟨a0, a1, af0, af1⟩ := hr.alloc (by omega) (.cells #[.int .u64 0, .int .u64 0] 24)
  clear hb4 hsl
  have e0 : u 0 = 0 := rfl
  go_wp2
  obtain ⟨y0, y1, _, _⟩ := hy
  exact bodyPost_ret (v := .tuple #[bv (0, 0), .int .i64 2]) (by rw [e0] at y0 y1; simp [results, Try.results14, go_sem, e0, y0, y1]) rfl ⟨rfl, hB1⟩
theorem Without_any (s : Bt) (n : Int) (w : World) :
    Calls Try.prog 14 #[bv s, .int .i64 n] w fun e w' => e = .returned (.tuple #[bv (withoutR s n).1, .int .i64 (withoutR s n).2]) ∧ Below w.heap.size w w' := by
  by_cases hin : inN n = true
  · exact Without_in s n hin w
  · exact Without_out s n (by simpa using hin) w
end Go.Proofs.Ythhinchifegofaa
