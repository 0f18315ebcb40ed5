/- With and Without by definition. -/
import Derived.Test.YthhinchifegofaaH
namespace Go.Proofs.Ythhinchifegofaa
open Go.RowKit

set_option maxHeartbeats 1000000 in
set_option maxRecDepth 100000 in
theorem refWith_any (s : Bt) (n : Int) (w : World) :
    Calls Try.prog 13 #[bv s, .int .i64 n] w fun e w' => e = .returned (.tuple #[bv (withR s n).1, .int .i64 (withR s n).2]) ∧ Below w.heap.size w w' := by
  obtain ⟨R, hR⟩ : ∃ R, Veil (ofR (listP (hasB s) 128 ++ [n]) (0, 0) = R) ∧ withR s n = R := ⟨_, ⟨refWith_eq s n⟩, rfl⟩
  rw [hR.2]
  have hR := hR.1
  obtain ⟨L, hL⟩ : ∃ L, Veil (listP (hasB s) 128 = L) ∧ L.length ≤ 128 := ⟨_, ⟨rfl⟩, listP_len _ _⟩
  obtain ⟨hL, hlen⟩ := hL
  have ha := (Arr.new w s).alloc (by simp) (.cells #[.int .u64 0, .int .u64 0] 24)
  have hr : Arr ((w.alloc (.cells #[.int .u64 (u s.1), .int .u64 (u s.2)] 24)).alloc (.cells #[.int .u64 0, .int .u64 0] 24)) (w.heap.size + 1) (0, 0) := by
    have := Arr.new (w.alloc (.cells #[.int .u64 (u s.1), .int .u64 (u s.2)] 24)) (0, 0)
    rwa [World.size_alloc] at this
  have hz : ((w.alloc (.cells #[.int .u64 (u s.1), .int .u64 (u s.2)] 24)).alloc (.cells #[.int .u64 0, .int .u64 0] 24)).heap.size = w.heap.size + 2 := by simp
  have hB : Below w.heap.size w ((w.alloc (.cells #[.int .u64 (u s.1), .int .u64 (u s.2)] 24)).alloc (.cells #[.int .u64 0, .int .u64 0] 24)) := ((Below.refl _ _).alloc (Nat.le_refl _) _).alloc (by simp) _
  go_enter Try.func13, Try.ntmps13
  go_wp2_with fail
  refine (refList_any s _).mono ?_
  rintro e w4 ⟨v, rfl, hrow, hb4⟩
  rw [hL.out] at hrow
  rw [hz] at hrow
  have hB4 := hB.trans (hb4.mono (by rw [hz]; omega))
  have hs4 : w.heap.size + 2 ≤ w4.heap.size := hz ▸ hb4.size
  replace hr := hr.below hb4
  have hrow2 : Row (w4.alloc (.cells #[.int .i64 n] 3)) (w.heap.size + 2 + 1) v L := hrow.below ((Below.refl _ _).alloc (Nat.le_refl _) _)
  have hsl := one_row n w4 _ rfl
  replace hr := hr.alloc (by omega) (.cells #[.int .i64 n] 3)
  clear hb4 hrow ha hz hB
  go_wp2_with (first | (at_builtin; refine wpList_append_sl rfl _ _ 29 3 rfl (w.heap.size + 2 + 1) (.int .i64 0) 1 8 Try.underlying29 info3 rfl (by decide) (by decide) v _ _ rfl hrow2 _ 1 (ints [n]) rfl hsl (ints_one _) (by omega) (by simp; omega) ?_; intro v1 w3 hown3 hg hat))
  have hrow3 : Row w3 (w.heap.size + 2 + 1) v1 (L ++ [n]) := Row.of_append hown3
  have hB3 := row_below hrow2 (hB4.alloc (by omega) _) hg (by omega) (by simp; omega)
  replace hr := row_arr hrow2 hr hg (by omega)
  have hs3 : w.heap.size + 2 ≤ w3.heap.size := Nat.le_trans hs4 (Nat.le_trans (by simp) hg.size)
  obtain ⟨a, cap, rfl, hsl3⟩ := hrow3.form
  refine (refOf_any a cap (L ++ [n]) w3 hsl3).mono ?_
  rintro e w5 ⟨rfl, hb5⟩
  rw [← hL.out, hR.out]
  have hB5 := hB3.trans (hb5.mono (by omega))
  replace hr := hr.below hb5
  clear hrow2 hsl hown3 hg hat hrow3 hb5 hB3 hB4 hsl3 hL hR
  obtain ⟨a0, a1, af0, af1⟩ := id hr
  go_wp2
  exact bodyPost_ret (v := .tuple #[bv R.1, .int .i64 R.2]) (by simp [results, Try.results13, go_sem, a0, a1]) rfl ⟨rfl, (hB5.setCell (Nat.le_add_right _ _) _).setCell (Nat.le_add_right _ _) _⟩

set_option maxHeartbeats 1000000 in
set_option maxRecDepth 100000 in
theorem refWithout_in (s : Bt) (n : Int) (hin : inN n = true) (w : World) :
    Calls Try.prog 15 #[bv s, .int .i64 n] w fun e w' => e = .returned (.tuple #[bv (withoutR s n).1, .int .i64 (withoutR s n).2]) ∧ Below w.heap.size w w' := by
  obtain ⟨t, ht⟩ : ∃ t, Veil (minusB s (addB (0, 0) n.toNat) = t) := ⟨_, ⟨rfl⟩⟩
  rw [withoutR_in hin, ht.out]
  have hh := inN_lt hin
  have hn : ¬ n < 0 := by omega
  have hd : decide (n < 0) = false := by simp; omega
  have hd1 : decide (127 < n) = false := by simp; omega
  have ha := (Arr.new w s).alloc (by simp) (.cells #[.int .u64 0, .int .u64 0] 24)
  have hr : Arr ((w.alloc (.cells #[.int .u64 (u s.1), .int .u64 (u s.2)] 24)).alloc (.cells #[.int .u64 0, .int .u64 0] 24)) (w.heap.size + 1) (0, 0) := by
    have := Arr.new (w.alloc (.cells #[.int .u64 (u s.1), .int .u64 (u s.2)] 24)) (0, 0)
    rwa [World.size_alloc] at this
  have hB : Below w.heap.size w ((w.alloc (.cells #[.int .u64 (u s.1), .int .u64 (u s.2)] 24)).alloc (.cells #[.int .u64 0, .int .u64 0] 24)) := ((Below.refl _ _).alloc (Nat.le_refl _) _).alloc (by simp) _
  have hsz : w.heap.size + 1 < ((w.alloc (.cells #[.int .u64 (u s.1), .int .u64 (u s.2)] 24)).alloc (.cells #[.int .u64 0, .int .u64 0] 24)).heap.size := by simp
  have hp : ∀ i, i < 128 → hasB t i = (hasB s i && decide ((i : Int) ≠ n)) := by
    intro i hi
    rw [← ht.out, has_minus _ _ _ hi, has_add _ _ _ hh.2, has_none, Bool.false_or]
    congr 1
    rw [← decide_not, decide_eq_decide]
    omega
  go_enter Try.func15, Try.ntmps15
  go_wp2_with fail
  refine (choose_1 s (0, 0) n t hp _).mono ?_
  rintro e w5 ⟨rfl, hb5⟩
  have hB5 := hB.trans (hb5.mono hB.size)
  replace hr := hr.below hb5
  clear ha hb5 hB hsz hp ht
  obtain ⟨a0, a1, af0, af1⟩ := id hr
  go_wp2
  exact bodyPost_ret (v := .tuple #[bv t, .int .i64 0]) (by simp [results, Try.results15, go_sem, a0, a1]) rfl ⟨rfl, (hB5.setCell (Nat.le_add_right _ _) _).setCell (Nat.le_add_right _ _) _⟩

set_option maxHeartbeats 1000000 in
set_option maxRecDepth 100000 in
theorem refWithout_out (s : Bt) (n : Int) (hin : inN n = false) (w : World) :
    Calls Try.prog 15 #[bv s, .int .i64 n] w fun e w' => e = .returned (.tuple #[bv (withoutR s n).1, .int .i64 (withoutR s n).2]) ∧ Below w.heap.size w w' := by
  rw [withoutR_out hin]
  have e0 : u 0 = 0 := rfl
  have hr : Arr ((w.alloc (.cells #[.int .u64 (u s.1), .int .u64 (u s.2)] 24)).alloc (.cells #[.int .u64 0, .int .u64 0] 24)) (w.heap.size + 1) (0, 0) := by
    have := Arr.new (w.alloc (.cells #[.int .u64 (u s.1), .int .u64 (u s.2)] 24)) (0, 0)
    rwa [World.size_alloc] at this
  have hB : Below w.heap.size w ((w.alloc (.cells #[.int .u64 (u s.1), .int .u64 (u s.2)] 24)).alloc (.cells #[.int .u64 0, .int .u64 0] 24)) := ((Below.refl _ _).alloc (Nat.le_refl _) _).alloc (by simp) _
  obtain ⟨a0, a1, af0, af1⟩ := id hr
  by_cases hn : n < 0
  · have hd : decide (n < 0) = true := by simp; omega
    go_enter Try.func15, Try.ntmps15
    go_wp2
    exact bodyPost_ret (v := .tuple #[bv (0, 0), .int .i64 2]) (by simp [results, Try.results15, go_sem, e0, a0, a1]) rfl ⟨rfl, hB⟩
  · have hd : decide (n < 0) = false := by simp; omega
    have hd1 : 127 < n := by simp [inN] at hin; omega
    go_enter Try.func15, Try.ntmps15
    go_wp2
    exact bodyPost_ret (v := .tuple #[bv (0, 0), .int .i64 2]) (by simp [results, Try.results15, go_sem, e0, a0, a1]) rfl ⟨rfl, hB⟩
theorem refWithout_any (s : Bt) (n : Int) (w : World) :
    Calls Try.prog 15 #[bv s, .int .i64 n] w fun e w' => e = .returned (.tuple #[bv (withoutR s n).1, .int .i64 (withoutR s n).2]) ∧ Below w.heap.size w w' := by
  by_cases hin : inN n = true
  · exact refWithout_in s n hin w
  · exact refWithout_out s n (by simpa using hin) w
end Go.Proofs.Ythhinchifegofaa
