/- The law BitsTwos; printed by genI.py. -/
import Derived.Test.YthhinchifegofaaDoorH
namespace Go.Proofs.YthhinchifegofaaDoor
open Go.RowKit

/-! ### How many, and the least -/
theorem dsum_count : ∀ n x, dsum 2 n x = ((List.range n).filter fun i => x.testBit i).length
  | 0, x => rfl
  | n + 1, x => by
    rw [dsum, dsum_count n (x / 2), List.range_succ_eq_map, List.filter_cons, List.filter_map, Nat.testBit_zero]
    have e : ((fun i => x.testBit i) ∘ Nat.succ) = fun i => (x / 2).testBit i := by
      funext i
      exact Nat.testBit_succ ..
    rw [e]
    by_cases h : x % 2 = 1
    · simp [h]
      omega
    · have h0 : x % 2 = 0 := by omega
      simp [h0]
theorem list_len (s : Bt) : (listP (hasB s) 128).length = lenB s := by
  unfold listP lenB pc
  have h1 : (List.range 64).filter (hasB s) = (List.range 64).filter fun i => s.1.toNat.testBit i := by
    apply List.filter_congr
    intro i hi
    have : i < 64 := by simpa using hi
    simp [hasB, this]
  have h2 : (List.range 64).filter (hasB s ∘ fun x => 64 + x) = (List.range 64).filter fun i => s.2.toNat.testBit i := by
    apply List.filter_congr
    intro i hi
    simp [hasB]
    intro h
    omega
  rw [dsum_count, dsum_count, List.length_map, show (128 : Nat) = 64 + 64 from rfl, List.range_add, List.filter_append, List.length_append, List.filter_map, List.length_map, h1, h2]

def leastN (s : Bt) : Option Nat := (List.range 128).find? (hasB s)
def leastR (s : Bt) : Nat × Nat := match leastN s with
  | some k => (k, 0)
  | none => (0, 8)
theorem leastN_some (s : Bt) (k : Nat) (hk : k < 128) (h : hasB s k = true) (hl : ∀ i, i < k → hasB s i = false) : leastN s = some k := by
  unfold leastN
  rw [List.find?_range_eq_some]
  exact ⟨h, by simpa using hk, fun j hj => by simp [hl j hj]⟩
theorem leastN_none : leastN (0, 0) = none := by
  unfold leastN
  rw [List.find?_eq_none]
  intro i _
  simp [has_none]
theorem list_head (s : Bt) : (listP (hasB s) 128).head? = (leastN s).map Int.ofNat := by
  unfold listP leastN
  rw [List.head?_map, List.head?_filter]

set_option maxHeartbeats 1000000 in
set_option maxRecDepth 100000 in
theorem Least_any (s : Bt) (w : World) (hT : TabW w) :
    Calls Tryd.prog 9 #[bv s] w fun e w' => e = .returned (.tuple #[.int .i64 (leastR s).1, .int .i64 (leastR s).2]) ∧ Below w.heap.size w w' := by
  have heq : ∀ w, (Op.equalIn 10000 24 (.agg #[.int .u64 (u s.1), .int .u64 (u s.2)]) (.agg #[.int .u64 0, .int .u64 0])).run Tryd.prog w = .ok (s == (0, 0)) w := fun w => eq_bt s (0, 0) w
  have hT1 : TabW (w.alloc (.cells #[.int .u64 (u s.1), .int .u64 (u s.2)] 24)) := hT.below ((Below.refl _ _).alloc (Nat.le_refl _) _)
  by_cases h0 : s = (0, 0)
  · have e1 : (s == (0, 0)) = true := by simp [h0]
    have e2 : leastR s = (0, 8) := by rw [h0]; simp [leastR, leastN_none]
    rw [e2]
    clear h0 hT hT1
    go_enter Tryd.func9, Tryd.ntmps9
    go_wp2
    go_ret2
    exact ⟨rfl, (Below.refl _ _).alloc (Nat.le_refl _) _⟩
  · have e1 : (s == (0, 0)) = false := by simpa using h0
    by_cases h1 : s.1 = 0
    · have h2 : s.2 ≠ 0 := fun h => h0 (Prod.ext h1 h)
      obtain ⟨k, ⟨hk, hb, hl⟩, hc⟩ := Tz_some s.2 h2 _ hT1
      have e2 : leastR s = (64 + k, 0) := by
        rw [leastR, leastN_some s (64 + k) (by omega) (by simp [hasB, hb]) (fun i hi => by
          unfold hasB
          split
          · simp [h1]
          · exact hl _ (by omega))]
      have e3 : (u s.1 == 0) = true := by simp [u, h1]
      rw [e2]
      clear h0 h1 h2 hT hT1 hb hl
      go_enter Tryd.func9, Tryd.ntmps9
      go_wp2_with (go_at_call 24; refine hc.mono ?_; rintro e w' ⟨rfl, rfl⟩)
      go_ret2
      exact ⟨by simp, (Below.refl _ _).alloc (Nat.le_refl _) _⟩
    · obtain ⟨k, ⟨hk, hb, hl⟩, hc⟩ := Tz_some s.1 h1 _ hT1
      have e2 : leastR s = (k, 0) := by
        rw [leastR, leastN_some s k (by omega) (by simp [hasB, hk, hb]) (fun i hi => by
          unfold hasB
          rw [if_pos (by omega)]
          exact hl _ hi)]
      have e3 : (u s.1 == 0) = false := by
        have : s.1.toNat ≠ 0 := fun h => h1 (UInt64.toNat_inj.1 (by simpa using h))
        simp [u, this]
      rw [e2]
      clear h0 h1 hT hT1 hb hl
      go_enter Tryd.func9, Tryd.ntmps9
      go_wp2_with (go_at_call 24; refine hc.mono ?_; rintro e w' ⟨rfl, rfl⟩)
      go_ret2
      exact ⟨rfl, (Below.refl _ _).alloc (Nat.le_refl _) _⟩

set_option maxHeartbeats 1000000 in
set_option maxRecDepth 100000 in
theorem refLen_any (s : Bt) (w : World) :
    Calls Tryd.prog 18 #[bv s] w fun e w' => e = .returned (.int .i64 (lenB s)) ∧ Below w.heap.size w w' := by
  obtain ⟨L, hL⟩ : ∃ L, Veil (listP (hasB s) 128 = L) ∧ L.length = lenB s := ⟨listP (hasB s) 128, ⟨rfl⟩, list_len s⟩
  obtain ⟨hL, hlen⟩ := hL
  rw [← hlen]
  clear hlen
  go_enter Tryd.func18, Tryd.ntmps18
  go_wp2_with fail
  refine (refList_any s _).mono ?_
  rintro e w4 ⟨v, rfl, hrow, hb4⟩
  rw [hL.out] at hrow
  obtain ⟨a, cap, rfl, hsl⟩ := hrow.form
  go_wp2
  go_ret
  exact ⟨rfl, ((Below.refl _ _).alloc (Nat.le_refl _) _).trans (hb4.mono (by simp))⟩

set_option maxHeartbeats 1000000 in
set_option maxRecDepth 100000 in
theorem refLeast_any (s : Bt) (w : World) :
    Calls Tryd.prog 10 #[bv s] w fun e w' => e = .returned (.tuple #[.int .i64 (leastR s).1, .int .i64 (leastR s).2]) ∧ Below w.heap.size w w' := by
  obtain ⟨L, hL⟩ : ∃ L, Veil (listP (hasB s) 128 = L) ∧ L.head? = (leastN s).map Int.ofNat := ⟨listP (hasB s) 128, ⟨rfl⟩, list_head s⟩
  obtain ⟨hL, hhead⟩ := hL
  cases hn : leastN s with
  | none =>
    have e2 : leastR s = (0, 8) := by simp [leastR, hn]
    rw [e2]
    rw [hn] at hhead
    have hnil : L = [] := by simpa using hhead
    subst hnil
    clear hhead hn e2
    go_enter Tryd.func10, Tryd.ntmps10
    go_wp2_with fail
    refine (refList_any s _).mono ?_
    rintro e w4 ⟨v, rfl, hrow, hb4⟩
    rw [hL.out] at hrow
    obtain ⟨a, cap, rfl, hsl⟩ := hrow.form
    go_wp2
    go_ret2
    exact ⟨rfl, ((Below.refl _ _).alloc (Nat.le_refl _) _).trans (hb4.mono (by simp))⟩
  | some k =>
    have e2 : leastR s = (k, 0) := by simp [leastR, hn]
    rw [e2]
    rw [hn] at hhead
    obtain ⟨L', rfl⟩ : ∃ L', L = (k : Int) :: L' := by
      cases L with
      | nil => simp at hhead
      | cons x L' => exact ⟨L', by simp at hhead; rw [hhead]⟩
    clear hhead hn e2
    go_enter Tryd.func10, Tryd.ntmps10
    go_wp2_with fail
    refine (refList_any s _).mono ?_
    rintro e w4 ⟨v, rfl, hrow, hb4⟩
    rw [hL.out] at hrow
    obtain ⟨a, cap, rfl, hsl⟩ := hrow.form
    obtain ⟨b, off, rfl, hcell⟩ := hsl.int_at 0 (by simp)
    simp only [List.getElem_cons_zero, Nat.add_zero] at hcell
    have hn1 : ((((k : Int) :: L').length : Nat) : Int) ≠ 0 := by simp; omega
    have hlen : 0 < ((k : Int) :: L').length := by simp
    generalize ((k : Int) :: L').length = n at hn1 hlen hsl hrow ⊢
    clear hsl hrow
    go_wp2
    go_ret2
    exact ⟨rfl, ((Below.refl _ _).alloc (Nat.le_refl _) _).trans (hb4.mono (by simp))⟩

set_option maxRecDepth 100000 in
theorem refOr_any (a b : Bt) (w : World) :
    Calls Tryd.prog 12 #[bv a, bv b] w fun e w' => e = .returned (bv (orB a b)) ∧ Below w.heap.size w w' := by
  have hc := fun w' => choose_2 a b 0 (orB a b) (fun i hi => has_or a b i) w'
  go_enter Tryd.func12, Tryd.ntmps12
  go_wp2_with fail
  refine (hc _).mono ?_
  rintro e w5 ⟨rfl, hb5⟩
  have hr : Arr (((w.alloc (.cells #[.int .u64 (u a.1), .int .u64 (u a.2)] 24)).alloc (.cells #[.int .u64 (u b.1), .int .u64 (u b.2)] 24)).alloc (.cells #[.int .u64 0, .int .u64 0] 24)) (w.heap.size + 1 + 1) (0, 0) := by
    have := Arr.new ((w.alloc (.cells #[.int .u64 (u a.1), .int .u64 (u a.2)] 24)).alloc (.cells #[.int .u64 (u b.1), .int .u64 (u b.2)] 24)) (0, 0)
    rwa [World.size_alloc, World.size_alloc] at this
  have hB5 : Below w.heap.size w w5 := ((((Below.refl _ _).alloc (Nat.le_refl _) _).alloc (by simp) _).alloc (by simp; omega) _).trans (hb5.mono (by simp; omega))
  replace hr := hr.below hb5
  clear hb5 hc
  obtain ⟨a0, a1, af0, af1⟩ := id hr
  obtain ⟨t, ht⟩ : ∃ t, orB a b = t := ⟨_, rfl⟩
  rw [ht]
  go_wp2
  exact bodyPost_ret (v := bv t) (by simp [results, Tryd.results12, go_sem, a0, a1]) rfl ⟨by rw [ht], (hB5.setCell (by simp; omega) _).setCell (by simp; omega) _⟩

set_option maxRecDepth 100000 in
theorem refAnd_any (a b : Bt) (w : World) :
    Calls Tryd.prog 14 #[bv a, bv b] w fun e w' => e = .returned (bv (andB a b)) ∧ Below w.heap.size w w' := by
  have hc := fun w' => choose_3 a b 0 (andB a b) (fun i hi => has_and a b i) w'
  go_enter Tryd.func14, Tryd.ntmps14
  go_wp2_with fail
  refine (hc _).mono ?_
  rintro e w5 ⟨rfl, hb5⟩
  have hr : Arr (((w.alloc (.cells #[.int .u64 (u a.1), .int .u64 (u a.2)] 24)).alloc (.cells #[.int .u64 (u b.1), .int .u64 (u b.2)] 24)).alloc (.cells #[.int .u64 0, .int .u64 0] 24)) (w.heap.size + 1 + 1) (0, 0) := by
    have := Arr.new ((w.alloc (.cells #[.int .u64 (u a.1), .int .u64 (u a.2)] 24)).alloc (.cells #[.int .u64 (u b.1), .int .u64 (u b.2)] 24)) (0, 0)
    rwa [World.size_alloc, World.size_alloc] at this
  have hB5 : Below w.heap.size w w5 := ((((Below.refl _ _).alloc (Nat.le_refl _) _).alloc (by simp) _).alloc (by simp; omega) _).trans (hb5.mono (by simp; omega))
  replace hr := hr.below hb5
  clear hb5 hc
  obtain ⟨a0, a1, af0, af1⟩ := id hr
  obtain ⟨t, ht⟩ : ∃ t, andB a b = t := ⟨_, rfl⟩
  rw [ht]
  go_wp2
  exact bodyPost_ret (v := bv t) (by simp [results, Tryd.results14, go_sem, a0, a1]) rfl ⟨by rw [ht], (hB5.setCell (by simp; omega) _).setCell (by simp; omega) _⟩

set_option maxRecDepth 100000 in
theorem refMinus_any (a b : Bt) (w : World) :
    Calls Tryd.prog 16 #[bv a, bv b] w fun e w' => e = .returned (bv (minusB a b)) ∧ Below w.heap.size w w' := by
  have hc := fun w' => choose_4 a b 0 (minusB a b) (fun i hi => has_minus a b i hi) w'
  go_enter Tryd.func16, Tryd.ntmps16
  go_wp2_with fail
  refine (hc _).mono ?_
  rintro e w5 ⟨rfl, hb5⟩
  have hr : Arr (((w.alloc (.cells #[.int .u64 (u a.1), .int .u64 (u a.2)] 24)).alloc (.cells #[.int .u64 (u b.1), .int .u64 (u b.2)] 24)).alloc (.cells #[.int .u64 0, .int .u64 0] 24)) (w.heap.size + 1 + 1) (0, 0) := by
    have := Arr.new ((w.alloc (.cells #[.int .u64 (u a.1), .int .u64 (u a.2)] 24)).alloc (.cells #[.int .u64 (u b.1), .int .u64 (u b.2)] 24)) (0, 0)
    rwa [World.size_alloc, World.size_alloc] at this
  have hB5 : Below w.heap.size w w5 := ((((Below.refl _ _).alloc (Nat.le_refl _) _).alloc (by simp) _).alloc (by simp; omega) _).trans (hb5.mono (by simp; omega))
  replace hr := hr.below hb5
  clear hb5 hc
  obtain ⟨a0, a1, af0, af1⟩ := id hr
  obtain ⟨t, ht⟩ : ∃ t, minusB a b = t := ⟨_, rfl⟩
  rw [ht]
  go_wp2
  exact bodyPost_ret (v := bv t) (by simp [results, Tryd.results16, go_sem, a0, a1]) rfl ⟨by rw [ht], (hB5.setCell (by simp; omega) _).setCell (by simp; omega) _⟩

set_option maxHeartbeats 4000000 in
set_option maxRecDepth 100000 in
theorem BitsTwos_walk (a b : Bt) (w : World) (hT : TabW w) :
    Calls Tryd.prog 4 #[bv a, bv b] w fun e w' => e = .returned (.bool true) ∧ Below w.heap.size w w' := by
  obtain ⟨R, hR⟩ : ∃ R, Veil (leastR a = R) := ⟨_, ⟨rfl⟩⟩
  have hs : ∀ x w, (Op.equalIn 10000 24 (bv x) (bv x)).run Tryd.prog w = .ok true w := fun x w => by rw [eq_bt]; simp
  have g1 := hs (orB a b)
  have g2 := hs (andB a b)
  have g3 := hs (minusB a b)
  clear hs
  have HA : Arr ((w.alloc (.cells #[.int .u64 (u a.1), .int .u64 (u a.2)] 24)).alloc (.cells #[.int .u64 (u b.1), .int .u64 (u b.2)] 24)) w.heap.size a := (Arr.new w a).alloc (by simp) _
  have HC : Arr ((w.alloc (.cells #[.int .u64 (u a.1), .int .u64 (u a.2)] 24)).alloc (.cells #[.int .u64 (u b.1), .int .u64 (u b.2)] 24)) (w.heap.size + 1) b := by
    have := Arr.new (w.alloc (.cells #[.int .u64 (u a.1), .int .u64 (u a.2)] 24)) b
    rwa [World.size_alloc] at this
  have HB : Below w.heap.size w ((w.alloc (.cells #[.int .u64 (u a.1), .int .u64 (u a.2)] 24)).alloc (.cells #[.int .u64 (u b.1), .int .u64 (u b.2)] 24)) := ((Below.refl _ _).alloc (Nat.le_refl _) _).alloc (by simp) _
  have hT1 : TabW ((w.alloc (.cells #[.int .u64 (u a.1), .int .u64 (u a.2)] 24)).alloc (.cells #[.int .u64 (u b.1), .int .u64 (u b.2)] 24)) := hT.below HB
  go_enter Tryd.func4, Tryd.ntmps4
  go_wp2_with fail
  generalize (w.alloc (.cells #[.int .u64 (u a.1), .int .u64 (u a.2)] 24)).alloc (.cells #[.int .u64 (u b.1), .int .u64 (u b.2)] 24) = W at HA HC HB hT1 ⊢
  refine (Least_any a W hT1).mono ?_
  rintro e w1 ⟨rfl, hb1⟩
  rw [hR.out]
  replace HA := HA.below hb1
  replace HC := HC.below hb1
  replace HB := HB.trans (hb1.mono HB.size)
  clear hb1 hT1
  obtain ⟨a0, a1, _, _⟩ := id HA
  go_wp2_with fail
  refine (refLeast_any a w1).mono ?_
  rintro e w2 ⟨rfl, hb2⟩
  rw [hR.out]
  clear a0 a1
  replace HA := HA.below hb2
  replace HC := HC.below hb2
  replace HB := HB.trans (hb2.mono HB.size)
  clear hb2
  have qa0 := fun n : ExtW w2 => exw_cell HA.1 n
  have qa1 := fun n : ExtW w2 => exw_cell HA.2.1 n
  have qb0 := fun n : ExtW w2 => exw_cell HC.1 n
  have qb1 := fun n : ExtW w2 => exw_cell HC.2.1 n
  go_wp2_with fail
  refine region_ext (by kernel_rfl) (by kernel_rfl) ?_
  repeat (go_big_quiet_step ((first | (go_at_call 7; exact ext_call (awake_true _)) | (go_at_call 11; exact ext_call (Or_any _ _ _)) | (go_at_call 12; exact ext_call (refOr_any _ _ _)) | (go_at_call 13; exact ext_call (And_any _ _ _)) | (go_at_call 14; exact ext_call (refAnd_any _ _ _)) | (go_at_call 15; exact ext_call (Minus_any _ _ _)) | (go_at_call 16; exact ext_call (refMinus_any _ _ _)) | (go_at_call 17; exact ext_call (Len_any _ _)) | (go_at_call 18; exact ext_call (refLen_any _ _)))))
  refine wpQuiet_nil ?_
  intro _ hw'
  obtain ⟨nq, hw''⟩ := hw'
  subst hw''
  clear qa0 qa1 qb0 qb1
  go_wp2
  go_ret
  exact ⟨rfl, HB.trans ((exw_below nq).mono HB.size)⟩
end Go.Proofs.YthhinchifegofaaDoor
