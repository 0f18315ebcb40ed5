/- choose: the set that a test takes; printed by genG.py. -/
import Derived.Test.YthhinchifegofaaDoorF
namespace Go.Proofs.YthhinchifegofaaDoor
open Go.RowKit

theorem info42 : Tryd.prog.cellsOf 47 = 6 := by kernel_rfl
/-- The cells of the way's box. -/
structure Way (w : World) (B : Nat) (a b : Bt) (n way : Int) : Prop where
  a0 : w.cell? ⟨B, 0, none⟩ = some (.int .u64 (u a.1))
  a1 : w.cell? ⟨B, 1, none⟩ = some (.int .u64 (u a.2))
  b0 : w.cell? ⟨B, 2, none⟩ = some (.int .u64 (u b.1))
  b1 : w.cell? ⟨B, 3, none⟩ = some (.int .u64 (u b.2))
  n0 : w.cell? ⟨B, 4, none⟩ = some (.int .i64 n)
  w0 : w.cell? ⟨B, 5, none⟩ = some (.int .i64 way)
theorem Way.keep {w w' : World} {B : Nat} {a b : Bt} {n way : Int} {S : Nat → Prop} (h : Way w B a b n way) (k : Keep S w w') (hS : ¬ S B) : Way w' B a b n way :=
  ⟨k.cell h.a0 hS, k.cell h.a1 hS, k.cell h.b0 hS, k.cell h.b1 hS, k.cell h.n0 hS, k.cell h.w0 hS⟩
theorem Way.below {w w' : World} {B : Nat} {a b : Bt} {n way : Int} (h : Way w B a b n way) (hb : Below w.heap.size w w') : Way w' B a b n way :=
  h.keep (Keep.of_below (S := fun _ => False) hb) (by simp)
theorem row_way {w1 w2 : World} {base B : Nat} {a b : Bt} {n way : Int} {v : Value} {L : List Int} (h : Row w1 base v L) (ha : Way w1 B a b n way) (hg : w1.grownBy w2 v.ownBlock) (hB : B < base) : Way w2 B a b n way :=
  ha.keep ((Keep.refl (fun k => v.ownBlock = some k) w1).grown hg (fun k hk => .inl hk)) (fun hk => by have := (h.lt B hk).1; omega)
theorem Way.new (w : World) (a b : Bt) (n way : Int) : Way (w.alloc (.cells #[.int .u64 (u a.1), .int .u64 (u a.2), .int .u64 (u b.1), .int .u64 (u b.2), .int .i64 n, .int .i64 way] 47)) w.heap.size a b n way := by
  have h := heap_alloc_new w (.cells #[.int .u64 (u a.1), .int .u64 (u a.2), .int .u64 (u b.1), .int .u64 (u b.2), .int .i64 n, .int .i64 way] 47)
  exact ⟨by simp only [World.cell?, h]; rfl, by simp only [World.cell?, h]; rfl, by simp only [World.cell?, h]; rfl, by simp only [World.cell?, h]; rfl, by simp only [World.cell?, h]; rfl, by simp only [World.cell?, h]; rfl⟩

theorem hasI_nat (s : Bt) (k : Nat) (h : k ≤ 127) : hasI s (k : Int) = hasB s k := by simp [hasI, inN]; omega

set_option maxHeartbeats 4000000 in
set_option maxRecDepth 100000 in
theorem choose_2 (a b : Bt) (n : Int) (t : Bt) (ht : ∀ i, i < 128 → hasB t i = (fun i => hasB a i || hasB b i) i) (w : World) :
    Calls Tryd.prog 27 #[.agg #[.int .u64 (u a.1), .int .u64 (u a.2), .int .u64 (u b.1), .int .u64 (u b.2), .int .i64 n, .int .i64 2]] w fun e w' => e = .returned (bv t) ∧ Below w.heap.size w w' := by
  obtain ⟨p, hP⟩ : ∃ p : Nat → Bool, Veil (p = (fun i => hasB a i || hasB b i)) := ⟨_, ⟨rfl⟩⟩
  rw [← hP.out] at ht
  have hof : ofR (listP p 128) (0, 0) = (t, 0) := by unfold ofR; rw [of_listP p t ht]
  clear ht
  go_enter Tryd.func27, Tryd.ntmps27
  go_wp2
  go_loopw [3, 4] (fun v i wr => ∃ k : Nat, k ≤ 128 ∧ i = .int .i64 k ∧ Row wr (w.heap.size + 2) v (listP p k) ∧ Below w.heap.size w wr ∧ Way wr w.heap.size a b n 2 ∧ Arr wr (w.heap.size + 1) (0, 0) ∧ w.heap.size + 1 < wr.heap.size) (fun _ i _ => 128 - (intOf i).toNat)
  case atStart => exact ⟨0, by omega, rfl, by have := World.ownsRow_made (base := w.heap.size + 2) (e := 3) (size := 1) ((w.alloc (.cells #[.int .u64 (u a.1), .int .u64 (u a.2), .int .u64 (u b.1), .int .u64 (u b.2), .int .i64 n, .int .i64 2] 47)).alloc (.cells #[.int .u64 0, .int .u64 0] 24)) #[] 0 (by simp) (by simp [maxLen]) rfl; simpa [Row, listP, ints] using this, (((Below.refl _ _).alloc (Nat.le_refl _) _).alloc (by simp) _).alloc (by simp; omega) _, ((Way.new w a b n 2).below ((Below.refl _ _).alloc (Nat.le_refl _) _)).below ((Below.refl _ _).alloc (Nat.le_refl _) _), by have := (Arr.new (w.alloc (.cells #[.int .u64 (u a.1), .int .u64 (u a.2), .int .u64 (u b.1), .int .u64 (u b.2), .int .i64 n, .int .i64 2] 47)) (0,0)).alloc (by simp) (.cells #[] 3); rwa [World.size_alloc] at this, by simp⟩
  case round =>
    obtain ⟨k, hk, rfl, hrow, hb, hA, hR0, hsz⟩ := hrel
    obtain ⟨c0, c1, c2, c3, c4, c5⟩ := id hA
    by_cases hlt : k ≤ 127
    · have hls := listP_succ p k
      have hll := listP_len p k
      have qa0 := fun n : ExtW wr => exw_cell c0 n
      have qa1 := fun n : ExtW wr => exw_cell c1 n
      have qb0 := fun n : ExtW wr => exw_cell c2 n
      have qb1 := fun n : ExtW wr => exw_cell c3 n
      by_cases hx : hasB a k = true
      · by_cases hy : hasB b k = true
        · have hx : hasB a k = true := hx
          have hy : hasB b k = true := hy
          have hpk : p k = true := by rw [hP.out]; simp [hx, hy]
          rw [hpk] at hls
          have e1 : hasI a (k : Int) = true := (hasI_nat a k hlt).trans hx
          have e2 : hasI b (k : Int) = true := (hasI_nat b k hlt).trans hy
          go_wp2_with fail
          refine region_ext (by kernel_rfl) (by kernel_rfl) ?_
          repeat (go_big_quiet_step ((first | (go_at_call 26; exact ext_call (refHas_any _ _ _)))))
          refine wpQuiet_nil ?_
          intro _ hw'
          obtain ⟨nq, hw''⟩ := hw'
          subst hw''
          have hA2 := hA.below (exw_below nq)
          have hr2 := hR0.below (exw_below nq)
          have hrow2 := hrow.below (exw_below nq)
          have hB2 := hb.trans ((exw_below nq).mono hb.size)
          have hs2 : w.heap.size + 1 < (exw nq).heap.size := Nat.lt_of_lt_of_le hsz (exw_below nq).size
          clear qa0 qa1 qb0 qb1
          generalize exw nq = W2 at hA2 hr2 hrow2 hB2 hs2 ⊢
          clear hA hrow hb hsz hR0 c0 c1 c2 c3 c4 c5
          obtain ⟨c0, c1, c2, c3, c4, c5⟩ := id hA2
          have hls' : listP p (k + 1) = listP p k ++ [(k : Int)] := hls
          have hrow3 : Row (W2.alloc (.cells #[.int .i64 k] 3)) (w.heap.size + 2) u3 (listP p k) := hrow2.below ((Below.refl _ _).alloc (Nat.le_refl _) _)
          have hsl : SlR (W2.alloc (.cells #[.int .i64 k] 3)) 1 (.slice (some ⟨W2.heap.size, 0, none⟩) 1 1) 1 (ints [(k : Int)]) :=
            SlR.of_owns (World.ownsRow_lit (base := 0) (e := 3) (size := 1) W2 #[.int .i64 k] 1 (Nat.zero_le _) (by simp [maxLen]) rfl)
          clear hls
          go_wp2_with (at_builtin; refine wpList_append_sl rfl _ _ 29 3 rfl (w.heap.size + 2) (.int .i64 0) 1 8 Tryd.underlying29 info3 rfl (by decide) (by decide) u3 _ _ rfl hrow3 _ 1 (ints [(k : Int)]) rfl hsl (ints_one _) (by omega) (by simp; omega) ?_; intro v1 w3 hown3 hg hat)
          go_roundw
          case rel => exact ⟨k + 1, by omega, by go_num, hls'.symm ▸ Row.of_append hown3, row_below hrow3 (hB2.alloc (by omega) _) hg (by omega) (by simp; omega), row_way hrow3 (hA2.below ((Below.refl _ _).alloc (Nat.le_refl _) _)) hg (by omega), row_arr hrow3 (hr2.alloc (by omega) _) hg (by omega), Nat.lt_of_lt_of_le hs2 (Nat.le_trans (by simp) hg.size)⟩
          case measure => simp [intOf]; omega
        · have hx : hasB a k = true := hx
          have hy : hasB b k = false := by simpa using hy
          have hpk : p k = true := by rw [hP.out]; simp [hx, hy]
          rw [hpk] at hls
          have e1 : hasI a (k : Int) = true := (hasI_nat a k hlt).trans hx
          have e2 : hasI b (k : Int) = false := (hasI_nat b k hlt).trans hy
          go_wp2_with fail
          refine region_ext (by kernel_rfl) (by kernel_rfl) ?_
          repeat (go_big_quiet_step ((first | (go_at_call 26; exact ext_call (refHas_any _ _ _)))))
          refine wpQuiet_nil ?_
          intro _ hw'
          obtain ⟨nq, hw''⟩ := hw'
          subst hw''
          have hA2 := hA.below (exw_below nq)
          have hr2 := hR0.below (exw_below nq)
          have hrow2 := hrow.below (exw_below nq)
          have hB2 := hb.trans ((exw_below nq).mono hb.size)
          have hs2 : w.heap.size + 1 < (exw nq).heap.size := Nat.lt_of_lt_of_le hsz (exw_below nq).size
          clear qa0 qa1 qb0 qb1
          generalize exw nq = W2 at hA2 hr2 hrow2 hB2 hs2 ⊢
          clear hA hrow hb hsz hR0 c0 c1 c2 c3 c4 c5
          obtain ⟨c0, c1, c2, c3, c4, c5⟩ := id hA2
          have hls' : listP p (k + 1) = listP p k ++ [(k : Int)] := hls
          have hrow3 : Row (W2.alloc (.cells #[.int .i64 k] 3)) (w.heap.size + 2) u3 (listP p k) := hrow2.below ((Below.refl _ _).alloc (Nat.le_refl _) _)
          have hsl : SlR (W2.alloc (.cells #[.int .i64 k] 3)) 1 (.slice (some ⟨W2.heap.size, 0, none⟩) 1 1) 1 (ints [(k : Int)]) :=
            SlR.of_owns (World.ownsRow_lit (base := 0) (e := 3) (size := 1) W2 #[.int .i64 k] 1 (Nat.zero_le _) (by simp [maxLen]) rfl)
          clear hls
          go_wp2_with (at_builtin; refine wpList_append_sl rfl _ _ 29 3 rfl (w.heap.size + 2) (.int .i64 0) 1 8 Tryd.underlying29 info3 rfl (by decide) (by decide) u3 _ _ rfl hrow3 _ 1 (ints [(k : Int)]) rfl hsl (ints_one _) (by omega) (by simp; omega) ?_; intro v1 w3 hown3 hg hat)
          go_roundw
          case rel => exact ⟨k + 1, by omega, by go_num, hls'.symm ▸ Row.of_append hown3, row_below hrow3 (hB2.alloc (by omega) _) hg (by omega) (by simp; omega), row_way hrow3 (hA2.below ((Below.refl _ _).alloc (Nat.le_refl _) _)) hg (by omega), row_arr hrow3 (hr2.alloc (by omega) _) hg (by omega), Nat.lt_of_lt_of_le hs2 (Nat.le_trans (by simp) hg.size)⟩
          case measure => simp [intOf]; omega
      · by_cases hy : hasB b k = true
        · have hx : hasB a k = false := by simpa using hx
          have hy : hasB b k = true := hy
          have hpk : p k = true := by rw [hP.out]; simp [hx, hy]
          rw [hpk] at hls
          have e1 : hasI a (k : Int) = false := (hasI_nat a k hlt).trans hx
          have e2 : hasI b (k : Int) = true := (hasI_nat b k hlt).trans hy
          go_wp2_with fail
          refine region_ext (by kernel_rfl) (by kernel_rfl) ?_
          repeat (go_big_quiet_step ((first | (go_at_call 26; exact ext_call (refHas_any _ _ _)))))
          refine wpQuiet_nil ?_
          intro _ hw'
          obtain ⟨nq, hw''⟩ := hw'
          subst hw''
          have hA2 := hA.below (exw_below nq)
          have hr2 := hR0.below (exw_below nq)
          have hrow2 := hrow.below (exw_below nq)
          have hB2 := hb.trans ((exw_below nq).mono hb.size)
          have hs2 : w.heap.size + 1 < (exw nq).heap.size := Nat.lt_of_lt_of_le hsz (exw_below nq).size
          clear qa0 qa1 qb0 qb1
          generalize exw nq = W2 at hA2 hr2 hrow2 hB2 hs2 ⊢
          clear hA hrow hb hsz hR0 c0 c1 c2 c3 c4 c5
          obtain ⟨c0, c1, c2, c3, c4, c5⟩ := id hA2
          have hls' : listP p (k + 1) = listP p k ++ [(k : Int)] := hls
          have hrow3 : Row (W2.alloc (.cells #[.int .i64 k] 3)) (w.heap.size + 2) u3 (listP p k) := hrow2.below ((Below.refl _ _).alloc (Nat.le_refl _) _)
          have hsl : SlR (W2.alloc (.cells #[.int .i64 k] 3)) 1 (.slice (some ⟨W2.heap.size, 0, none⟩) 1 1) 1 (ints [(k : Int)]) :=
            SlR.of_owns (World.ownsRow_lit (base := 0) (e := 3) (size := 1) W2 #[.int .i64 k] 1 (Nat.zero_le _) (by simp [maxLen]) rfl)
          clear hls
          go_wp2_with (at_builtin; refine wpList_append_sl rfl _ _ 29 3 rfl (w.heap.size + 2) (.int .i64 0) 1 8 Tryd.underlying29 info3 rfl (by decide) (by decide) u3 _ _ rfl hrow3 _ 1 (ints [(k : Int)]) rfl hsl (ints_one _) (by omega) (by simp; omega) ?_; intro v1 w3 hown3 hg hat)
          go_roundw
          case rel => exact ⟨k + 1, by omega, by go_num, hls'.symm ▸ Row.of_append hown3, row_below hrow3 (hB2.alloc (by omega) _) hg (by omega) (by simp; omega), row_way hrow3 (hA2.below ((Below.refl _ _).alloc (Nat.le_refl _) _)) hg (by omega), row_arr hrow3 (hr2.alloc (by omega) _) hg (by omega), Nat.lt_of_lt_of_le hs2 (Nat.le_trans (by simp) hg.size)⟩
          case measure => simp [intOf]; omega
        · have hx : hasB a k = false := by simpa using hx
          have hy : hasB b k = false := by simpa using hy
          have hpk : p k = false := by rw [hP.out]; simp [hx, hy]
          rw [hpk] at hls
          have e1 : hasI a (k : Int) = false := (hasI_nat a k hlt).trans hx
          have e2 : hasI b (k : Int) = false := (hasI_nat b k hlt).trans hy
          go_wp2_with fail
          refine region_ext (by kernel_rfl) (by kernel_rfl) ?_
          repeat (go_big_quiet_step ((first | (go_at_call 26; exact ext_call (refHas_any _ _ _)))))
          refine wpQuiet_nil ?_
          intro _ hw'
          obtain ⟨nq, hw''⟩ := hw'
          subst hw''
          have hA2 := hA.below (exw_below nq)
          have hr2 := hR0.below (exw_below nq)
          have hrow2 := hrow.below (exw_below nq)
          have hB2 := hb.trans ((exw_below nq).mono hb.size)
          have hs2 : w.heap.size + 1 < (exw nq).heap.size := Nat.lt_of_lt_of_le hsz (exw_below nq).size
          clear qa0 qa1 qb0 qb1
          generalize exw nq = W2 at hA2 hr2 hrow2 hB2 hs2 ⊢
          clear hA hrow hb hsz hR0 c0 c1 c2 c3 c4 c5
          obtain ⟨c0, c1, c2, c3, c4, c5⟩ := id hA2
          have hls' : listP p (k + 1) = listP p k := hls.trans (List.append_nil _)
          clear hls
          go_wp2
          go_roundw
          case rel => exact ⟨k + 1, by omega, by go_num, hls'.symm ▸ hrow2, hB2, hA2, hr2, hs2⟩
          case measure => simp [intOf]; omega
    · have hk8 : k = 128 := by omega
      subst hk8
      clear c0 c1 c2 c3 c4 c5
      have hl128 := listP_len p 128
      obtain ⟨ad, cap, rfl, hsl⟩ := hrow.form
      go_wp2_with fail
      refine (refOf_any _ _ _ _ hsl).mono ?_
      rintro e w4 ⟨rfl, hb4⟩
      rw [hof]
      have hs4 : w.heap.size + 1 < w4.heap.size := Nat.lt_of_lt_of_le hsz hb4.size
      have hB4 := hb.trans (hb4.mono hb.size)
      have y := Arr.alloc (((hR0.below hb4).set0 t.1).set1 t.2) (by simpa using hs4) (.cells #[.int .u64 (u t.1), .int .u64 (u t.2)] 24)
      obtain ⟨r0, r1, rf0, rf1⟩ := (hR0.below hb4).alloc hs4 (.cells #[.int .u64 (u t.1), .int .u64 (u t.2)] 24)
      obtain ⟨x0, x1, xf0, xf1⟩ := hR0.below hb4
      have s0 := (Arr.new w4 t).1
      have s1 := (Arr.new w4 t).2.1
      clear hR0 hA
      go_wp2
      obtain ⟨y0, y1, _, _⟩ := y
      exact bodyPost_ret (v := bv t) (by simp [results, Tryd.results27, go_sem, y0, y1]) rfl ⟨rfl, ((hB4.setCell (Nat.le_add_right _ _) _).setCell (Nat.le_add_right _ _) _).alloc (by simp; omega) _⟩

set_option maxHeartbeats 4000000 in
set_option maxRecDepth 100000 in
theorem choose_3 (a b : Bt) (n : Int) (t : Bt) (ht : ∀ i, i < 128 → hasB t i = (fun i => hasB a i && hasB b i) i) (w : World) :
    Calls Tryd.prog 27 #[.agg #[.int .u64 (u a.1), .int .u64 (u a.2), .int .u64 (u b.1), .int .u64 (u b.2), .int .i64 n, .int .i64 3]] w fun e w' => e = .returned (bv t) ∧ Below w.heap.size w w' := by
  obtain ⟨p, hP⟩ : ∃ p : Nat → Bool, Veil (p = (fun i => hasB a i && hasB b i)) := ⟨_, ⟨rfl⟩⟩
  rw [← hP.out] at ht
  have hof : ofR (listP p 128) (0, 0) = (t, 0) := by unfold ofR; rw [of_listP p t ht]
  clear ht
  go_enter Tryd.func27, Tryd.ntmps27
  go_wp2
  go_loopw [3, 4] (fun v i wr => ∃ k : Nat, k ≤ 128 ∧ i = .int .i64 k ∧ Row wr (w.heap.size + 2) v (listP p k) ∧ Below w.heap.size w wr ∧ Way wr w.heap.size a b n 3 ∧ Arr wr (w.heap.size + 1) (0, 0) ∧ w.heap.size + 1 < wr.heap.size) (fun _ i _ => 128 - (intOf i).toNat)
  case atStart => exact ⟨0, by omega, rfl, by have := World.ownsRow_made (base := w.heap.size + 2) (e := 3) (size := 1) ((w.alloc (.cells #[.int .u64 (u a.1), .int .u64 (u a.2), .int .u64 (u b.1), .int .u64 (u b.2), .int .i64 n, .int .i64 3] 47)).alloc (.cells #[.int .u64 0, .int .u64 0] 24)) #[] 0 (by simp) (by simp [maxLen]) rfl; simpa [Row, listP, ints] using this, (((Below.refl _ _).alloc (Nat.le_refl _) _).alloc (by simp) _).alloc (by simp; omega) _, ((Way.new w a b n 3).below ((Below.refl _ _).alloc (Nat.le_refl _) _)).below ((Below.refl _ _).alloc (Nat.le_refl _) _), by have := (Arr.new (w.alloc (.cells #[.int .u64 (u a.1), .int .u64 (u a.2), .int .u64 (u b.1), .int .u64 (u b.2), .int .i64 n, .int .i64 3] 47)) (0,0)).alloc (by simp) (.cells #[] 3); rwa [World.size_alloc] at this, by simp⟩
  case round =>
    obtain ⟨k, hk, rfl, hrow, hb, hA, hR0, hsz⟩ := hrel
    obtain ⟨c0, c1, c2, c3, c4, c5⟩ := id hA
    by_cases hlt : k ≤ 127
    · have hls := listP_succ p k
      have hll := listP_len p k
      have qa0 := fun n : ExtW wr => exw_cell c0 n
      have qa1 := fun n : ExtW wr => exw_cell c1 n
      have qb0 := fun n : ExtW wr => exw_cell c2 n
      have qb1 := fun n : ExtW wr => exw_cell c3 n
      by_cases hx : hasB a k = true
      · by_cases hy : hasB b k = true
        · have hx : hasB a k = true := hx
          have hy : hasB b k = true := hy
          have hpk : p k = true := by rw [hP.out]; simp [hx, hy]
          rw [hpk] at hls
          have e1 : hasI a (k : Int) = true := (hasI_nat a k hlt).trans hx
          have e2 : hasI b (k : Int) = true := (hasI_nat b k hlt).trans hy
          go_wp2_with fail
          refine region_ext (by kernel_rfl) (by kernel_rfl) ?_
          repeat (go_big_quiet_step ((first | (go_at_call 26; exact ext_call (refHas_any _ _ _)))))
          refine wpQuiet_nil ?_
          intro _ hw'
          obtain ⟨nq, hw''⟩ := hw'
          subst hw''
          have hA2 := hA.below (exw_below nq)
          have hr2 := hR0.below (exw_below nq)
          have hrow2 := hrow.below (exw_below nq)
          have hB2 := hb.trans ((exw_below nq).mono hb.size)
          have hs2 : w.heap.size + 1 < (exw nq).heap.size := Nat.lt_of_lt_of_le hsz (exw_below nq).size
          clear qa0 qa1 qb0 qb1
          generalize exw nq = W2 at hA2 hr2 hrow2 hB2 hs2 ⊢
          clear hA hrow hb hsz hR0 c0 c1 c2 c3 c4 c5
          obtain ⟨c0, c1, c2, c3, c4, c5⟩ := id hA2
          have hls' : listP p (k + 1) = listP p k ++ [(k : Int)] := hls
          have hrow3 : Row (W2.alloc (.cells #[.int .i64 k] 3)) (w.heap.size + 2) u3 (listP p k) := hrow2.below ((Below.refl _ _).alloc (Nat.le_refl _) _)
          have hsl : SlR (W2.alloc (.cells #[.int .i64 k] 3)) 1 (.slice (some ⟨W2.heap.size, 0, none⟩) 1 1) 1 (ints [(k : Int)]) :=
            SlR.of_owns (World.ownsRow_lit (base := 0) (e := 3) (size := 1) W2 #[.int .i64 k] 1 (Nat.zero_le _) (by simp [maxLen]) rfl)
          clear hls
          go_wp2_with (at_builtin; refine wpList_append_sl rfl _ _ 29 3 rfl (w.heap.size + 2) (.int .i64 0) 1 8 Tryd.underlying29 info3 rfl (by decide) (by decide) u3 _ _ rfl hrow3 _ 1 (ints [(k : Int)]) rfl hsl (ints_one _) (by omega) (by simp; omega) ?_; intro v1 w3 hown3 hg hat)
          go_roundw
          case rel => exact ⟨k + 1, by omega, by go_num, hls'.symm ▸ Row.of_append hown3, row_below hrow3 (hB2.alloc (by omega) _) hg (by omega) (by simp; omega), row_way hrow3 (hA2.below ((Below.refl _ _).alloc (Nat.le_refl _) _)) hg (by omega), row_arr hrow3 (hr2.alloc (by omega) _) hg (by omega), Nat.lt_of_lt_of_le hs2 (Nat.le_trans (by simp) hg.size)⟩
          case measure => simp [intOf]; omega
        · have hx : hasB a k = true := hx
          have hy : hasB b k = false := by simpa using hy
          have hpk : p k = false := by rw [hP.out]; simp [hx, hy]
          rw [hpk] at hls
          have e1 : hasI a (k : Int) = true := (hasI_nat a k hlt).trans hx
          have e2 : hasI b (k : Int) = false := (hasI_nat b k hlt).trans hy
          go_wp2_with fail
          refine region_ext (by kernel_rfl) (by kernel_rfl) ?_
          repeat (go_big_quiet_step ((first | (go_at_call 26; exact ext_call (refHas_any _ _ _)))))
          refine wpQuiet_nil ?_
          intro _ hw'
          obtain ⟨nq, hw''⟩ := hw'
          subst hw''
          have hA2 := hA.below (exw_below nq)
          have hr2 := hR0.below (exw_below nq)
          have hrow2 := hrow.below (exw_below nq)
          have hB2 := hb.trans ((exw_below nq).mono hb.size)
          have hs2 : w.heap.size + 1 < (exw nq).heap.size := Nat.lt_of_lt_of_le hsz (exw_below nq).size
          clear qa0 qa1 qb0 qb1
          generalize exw nq = W2 at hA2 hr2 hrow2 hB2 hs2 ⊢
          clear hA hrow hb hsz hR0 c0 c1 c2 c3 c4 c5
          obtain ⟨c0, c1, c2, c3, c4, c5⟩ := id hA2
          have hls' : listP p (k + 1) = listP p k := hls.trans (List.append_nil _)
          clear hls
          go_wp2
          go_roundw
          case rel => exact ⟨k + 1, by omega, by go_num, hls'.symm ▸ hrow2, hB2, hA2, hr2, hs2⟩
          case measure => simp [intOf]; omega
      · by_cases hy : hasB b k = true
        · have hx : hasB a k = false := by simpa using hx
          have hy : hasB b k = true := hy
          have hpk : p k = false := by rw [hP.out]; simp [hx, hy]
          rw [hpk] at hls
          have e1 : hasI a (k : Int) = false := (hasI_nat a k hlt).trans hx
          have e2 : hasI b (k : Int) = true := (hasI_nat b k hlt).trans hy
          go_wp2_with fail
          refine region_ext (by kernel_rfl) (by kernel_rfl) ?_
          repeat (go_big_quiet_step ((first | (go_at_call 26; exact ext_call (refHas_any _ _ _)))))
          refine wpQuiet_nil ?_
          intro _ hw'
          obtain ⟨nq, hw''⟩ := hw'
          subst hw''
          have hA2 := hA.below (exw_below nq)
          have hr2 := hR0.below (exw_below nq)
          have hrow2 := hrow.below (exw_below nq)
          have hB2 := hb.trans ((exw_below nq).mono hb.size)
          have hs2 : w.heap.size + 1 < (exw nq).heap.size := Nat.lt_of_lt_of_le hsz (exw_below nq).size
          clear qa0 qa1 qb0 qb1
          generalize exw nq = W2 at hA2 hr2 hrow2 hB2 hs2 ⊢
          clear hA hrow hb hsz hR0 c0 c1 c2 c3 c4 c5
          obtain ⟨c0, c1, c2, c3, c4, c5⟩ := id hA2
          have hls' : listP p (k + 1) = listP p k := hls.trans (List.append_nil _)
          clear hls
          go_wp2
          go_roundw
          case rel => exact ⟨k + 1, by omega, by go_num, hls'.symm ▸ hrow2, hB2, hA2, hr2, hs2⟩
          case measure => simp [intOf]; omega
        · have hx : hasB a k = false := by simpa using hx
          have hy : hasB b k = false := by simpa using hy
          have hpk : p k = false := by rw [hP.out]; simp [hx, hy]
          rw [hpk] at hls
          have e1 : hasI a (k : Int) = false := (hasI_nat a k hlt).trans hx
          have e2 : hasI b (k : Int) = false := (hasI_nat b k hlt).trans hy
          go_wp2_with fail
          refine region_ext (by kernel_rfl) (by kernel_rfl) ?_
          repeat (go_big_quiet_step ((first | (go_at_call 26; exact ext_call (refHas_any _ _ _)))))
          refine wpQuiet_nil ?_
          intro _ hw'
          obtain ⟨nq, hw''⟩ := hw'
          subst hw''
          have hA2 := hA.below (exw_below nq)
          have hr2 := hR0.below (exw_below nq)
          have hrow2 := hrow.below (exw_below nq)
          have hB2 := hb.trans ((exw_below nq).mono hb.size)
          have hs2 : w.heap.size + 1 < (exw nq).heap.size := Nat.lt_of_lt_of_le hsz (exw_below nq).size
          clear qa0 qa1 qb0 qb1
          generalize exw nq = W2 at hA2 hr2 hrow2 hB2 hs2 ⊢
          clear hA hrow hb hsz hR0 c0 c1 c2 c3 c4 c5
          obtain ⟨c0, c1, c2, c3, c4, c5⟩ := id hA2
          have hls' : listP p (k + 1) = listP p k := hls.trans (List.append_nil _)
          clear hls
          go_wp2
          go_roundw
          case rel => exact ⟨k + 1, by omega, by go_num, hls'.symm ▸ hrow2, hB2, hA2, hr2, hs2⟩
          case measure => simp [intOf]; omega
    · have hk8 : k = 128 := by omega
      subst hk8
      clear c0 c1 c2 c3 c4 c5
      have hl128 := listP_len p 128
      obtain ⟨ad, cap, rfl, hsl⟩ := hrow.form
      go_wp2_with fail
      refine (refOf_any _ _ _ _ hsl).mono ?_
      rintro e w4 ⟨rfl, hb4⟩
      rw [hof]
      have hs4 : w.heap.size + 1 < w4.heap.size := Nat.lt_of_lt_of_le hsz hb4.size
      have hB4 := hb.trans (hb4.mono hb.size)
      have y := Arr.alloc (((hR0.below hb4).set0 t.1).set1 t.2) (by simpa using hs4) (.cells #[.int .u64 (u t.1), .int .u64 (u t.2)] 24)
      obtain ⟨r0, r1, rf0, rf1⟩ := (hR0.below hb4).alloc hs4 (.cells #[.int .u64 (u t.1), .int .u64 (u t.2)] 24)
      obtain ⟨x0, x1, xf0, xf1⟩ := hR0.below hb4
      have s0 := (Arr.new w4 t).1
      have s1 := (Arr.new w4 t).2.1
      clear hR0 hA
      go_wp2
      obtain ⟨y0, y1, _, _⟩ := y
      exact bodyPost_ret (v := bv t) (by simp [results, Tryd.results27, go_sem, y0, y1]) rfl ⟨rfl, ((hB4.setCell (Nat.le_add_right _ _) _).setCell (Nat.le_add_right _ _) _).alloc (by simp; omega) _⟩

set_option maxHeartbeats 4000000 in
set_option maxRecDepth 100000 in
theorem choose_4 (a b : Bt) (n : Int) (t : Bt) (ht : ∀ i, i < 128 → hasB t i = (fun i => hasB a i && !hasB b i) i) (w : World) :
    Calls Tryd.prog 27 #[.agg #[.int .u64 (u a.1), .int .u64 (u a.2), .int .u64 (u b.1), .int .u64 (u b.2), .int .i64 n, .int .i64 4]] w fun e w' => e = .returned (bv t) ∧ Below w.heap.size w w' := by
  obtain ⟨p, hP⟩ : ∃ p : Nat → Bool, Veil (p = (fun i => hasB a i && !hasB b i)) := ⟨_, ⟨rfl⟩⟩
  rw [← hP.out] at ht
  have hof : ofR (listP p 128) (0, 0) = (t, 0) := by unfold ofR; rw [of_listP p t ht]
  clear ht
  go_enter Tryd.func27, Tryd.ntmps27
  go_wp2
  go_loopw [3, 4] (fun v i wr => ∃ k : Nat, k ≤ 128 ∧ i = .int .i64 k ∧ Row wr (w.heap.size + 2) v (listP p k) ∧ Below w.heap.size w wr ∧ Way wr w.heap.size a b n 4 ∧ Arr wr (w.heap.size + 1) (0, 0) ∧ w.heap.size + 1 < wr.heap.size) (fun _ i _ => 128 - (intOf i).toNat)
  case atStart => exact ⟨0, by omega, rfl, by have := World.ownsRow_made (base := w.heap.size + 2) (e := 3) (size := 1) ((w.alloc (.cells #[.int .u64 (u a.1), .int .u64 (u a.2), .int .u64 (u b.1), .int .u64 (u b.2), .int .i64 n, .int .i64 4] 47)).alloc (.cells #[.int .u64 0, .int .u64 0] 24)) #[] 0 (by simp) (by simp [maxLen]) rfl; simpa [Row, listP, ints] using this, (((Below.refl _ _).alloc (Nat.le_refl _) _).alloc (by simp) _).alloc (by simp; omega) _, ((Way.new w a b n 4).below ((Below.refl _ _).alloc (Nat.le_refl _) _)).below ((Below.refl _ _).alloc (Nat.le_refl _) _), by have := (Arr.new (w.alloc (.cells #[.int .u64 (u a.1), .int .u64 (u a.2), .int .u64 (u b.1), .int .u64 (u b.2), .int .i64 n, .int .i64 4] 47)) (0,0)).alloc (by simp) (.cells #[] 3); rwa [World.size_alloc] at this, by simp⟩
  case round =>
    obtain ⟨k, hk, rfl, hrow, hb, hA, hR0, hsz⟩ := hrel
    obtain ⟨c0, c1, c2, c3, c4, c5⟩ := id hA
    by_cases hlt : k ≤ 127
    · have hls := listP_succ p k
      have hll := listP_len p k
      have qa0 := fun n : ExtW wr => exw_cell c0 n
      have qa1 := fun n : ExtW wr => exw_cell c1 n
      have qb0 := fun n : ExtW wr => exw_cell c2 n
      have qb1 := fun n : ExtW wr => exw_cell c3 n
      by_cases hx : hasB a k = true
      · by_cases hy : hasB b k = true
        · have hx : hasB a k = true := hx
          have hy : hasB b k = true := hy
          have hpk : p k = false := by rw [hP.out]; simp [hx, hy]
          rw [hpk] at hls
          have e1 : hasI a (k : Int) = true := (hasI_nat a k hlt).trans hx
          have e2 : hasI b (k : Int) = true := (hasI_nat b k hlt).trans hy
          go_wp2_with fail
          refine region_ext (by kernel_rfl) (by kernel_rfl) ?_
          repeat (go_big_quiet_step ((first | (go_at_call 26; exact ext_call (refHas_any _ _ _)))))
          refine wpQuiet_nil ?_
          intro _ hw'
          obtain ⟨nq, hw''⟩ := hw'
          subst hw''
          have hA2 := hA.below (exw_below nq)
          have hr2 := hR0.below (exw_below nq)
          have hrow2 := hrow.below (exw_below nq)
          have hB2 := hb.trans ((exw_below nq).mono hb.size)
          have hs2 : w.heap.size + 1 < (exw nq).heap.size := Nat.lt_of_lt_of_le hsz (exw_below nq).size
          clear qa0 qa1 qb0 qb1
          generalize exw nq = W2 at hA2 hr2 hrow2 hB2 hs2 ⊢
          clear hA hrow hb hsz hR0 c0 c1 c2 c3 c4 c5
          obtain ⟨c0, c1, c2, c3, c4, c5⟩ := id hA2
          have hls' : listP p (k + 1) = listP p k := hls.trans (List.append_nil _)
          clear hls
          go_wp2
          go_roundw
          case rel => exact ⟨k + 1, by omega, by go_num, hls'.symm ▸ hrow2, hB2, hA2, hr2, hs2⟩
          case measure => simp [intOf]; omega
        · have hx : hasB a k = true := hx
          have hy : hasB b k = false := by simpa using hy
          have hpk : p k = true := by rw [hP.out]; simp [hx, hy]
          rw [hpk] at hls
          have e1 : hasI a (k : Int) = true := (hasI_nat a k hlt).trans hx
          have e2 : hasI b (k : Int) = false := (hasI_nat b k hlt).trans hy
          go_wp2_with fail
          refine region_ext (by kernel_rfl) (by kernel_rfl) ?_
          repeat (go_big_quiet_step ((first | (go_at_call 26; exact ext_call (refHas_any _ _ _)))))
          refine wpQuiet_nil ?_
          intro _ hw'
          obtain ⟨nq, hw''⟩ := hw'
          subst hw''
          have hA2 := hA.below (exw_below nq)
          have hr2 := hR0.below (exw_below nq)
          have hrow2 := hrow.below (exw_below nq)
          have hB2 := hb.trans ((exw_below nq).mono hb.size)
          have hs2 : w.heap.size + 1 < (exw nq).heap.size := Nat.lt_of_lt_of_le hsz (exw_below nq).size
          clear qa0 qa1 qb0 qb1
          generalize exw nq = W2 at hA2 hr2 hrow2 hB2 hs2 ⊢
          clear hA hrow hb hsz hR0 c0 c1 c2 c3 c4 c5
          obtain ⟨c0, c1, c2, c3, c4, c5⟩ := id hA2
          have hls' : listP p (k + 1) = listP p k ++ [(k : Int)] := hls
          have hrow3 : Row (W2.alloc (.cells #[.int .i64 k] 3)) (w.heap.size + 2) u3 (listP p k) := hrow2.below ((Below.refl _ _).alloc (Nat.le_refl _) _)
          have hsl : SlR (W2.alloc (.cells #[.int .i64 k] 3)) 1 (.slice (some ⟨W2.heap.size, 0, none⟩) 1 1) 1 (ints [(k : Int)]) :=
            SlR.of_owns (World.ownsRow_lit (base := 0) (e := 3) (size := 1) W2 #[.int .i64 k] 1 (Nat.zero_le _) (by simp [maxLen]) rfl)
          clear hls
          go_wp2_with (at_builtin; refine wpList_append_sl rfl _ _ 29 3 rfl (w.heap.size + 2) (.int .i64 0) 1 8 Tryd.underlying29 info3 rfl (by decide) (by decide) u3 _ _ rfl hrow3 _ 1 (ints [(k : Int)]) rfl hsl (ints_one _) (by omega) (by simp; omega) ?_; intro v1 w3 hown3 hg hat)
          go_roundw
          case rel => exact ⟨k + 1, by omega, by go_num, hls'.symm ▸ Row.of_append hown3, row_below hrow3 (hB2.alloc (by omega) _) hg (by omega) (by simp; omega), row_way hrow3 (hA2.below ((Below.refl _ _).alloc (Nat.le_refl _) _)) hg (by omega), row_arr hrow3 (hr2.alloc (by omega) _) hg (by omega), Nat.lt_of_lt_of_le hs2 (Nat.le_trans (by simp) hg.size)⟩
          case measure => simp [intOf]; omega
      · by_cases hy : hasB b k = true
        · have hx : hasB a k = false := by simpa using hx
          have hy : hasB b k = true := hy
          have hpk : p k = false := by rw [hP.out]; simp [hx, hy]
          rw [hpk] at hls
          have e1 : hasI a (k : Int) = false := (hasI_nat a k hlt).trans hx
          have e2 : hasI b (k : Int) = true := (hasI_nat b k hlt).trans hy
          go_wp2_with fail
          refine region_ext (by kernel_rfl) (by kernel_rfl) ?_
          repeat (go_big_quiet_step ((first | (go_at_call 26; exact ext_call (refHas_any _ _ _)))))
          refine wpQuiet_nil ?_
          intro _ hw'
          obtain ⟨nq, hw''⟩ := hw'
          subst hw''
          have hA2 := hA.below (exw_below nq)
          have hr2 := hR0.below (exw_below nq)
          have hrow2 := hrow.below (exw_below nq)
          have hB2 := hb.trans ((exw_below nq).mono hb.size)
          have hs2 : w.heap.size + 1 < (exw nq).heap.size := Nat.lt_of_lt_of_le hsz (exw_below nq).size
          clear qa0 qa1 qb0 qb1
          generalize exw nq = W2 at hA2 hr2 hrow2 hB2 hs2 ⊢
          clear hA hrow hb hsz hR0 c0 c1 c2 c3 c4 c5
          obtain ⟨c0, c1, c2, c3, c4, c5⟩ := id hA2
          have hls' : listP p (k + 1) = listP p k := hls.trans (List.append_nil _)
          clear hls
          go_wp2
          go_roundw
          case rel => exact ⟨k + 1, by omega, by go_num, hls'.symm ▸ hrow2, hB2, hA2, hr2, hs2⟩
          case measure => simp [intOf]; omega
        · have hx : hasB a k = false := by simpa using hx
          have hy : hasB b k = false := by simpa using hy
          have hpk : p k = false := by rw [hP.out]; simp [hx, hy]
          rw [hpk] at hls
          have e1 : hasI a (k : Int) = false := (hasI_nat a k hlt).trans hx
          have e2 : hasI b (k : Int) = false := (hasI_nat b k hlt).trans hy
          go_wp2_with fail
          refine region_ext (by kernel_rfl) (by kernel_rfl) ?_
          repeat (go_big_quiet_step ((first | (go_at_call 26; exact ext_call (refHas_any _ _ _)))))
          refine wpQuiet_nil ?_
          intro _ hw'
          obtain ⟨nq, hw''⟩ := hw'
          subst hw''
          have hA2 := hA.below (exw_below nq)
          have hr2 := hR0.below (exw_below nq)
          have hrow2 := hrow.below (exw_below nq)
          have hB2 := hb.trans ((exw_below nq).mono hb.size)
          have hs2 : w.heap.size + 1 < (exw nq).heap.size := Nat.lt_of_lt_of_le hsz (exw_below nq).size
          clear qa0 qa1 qb0 qb1
          generalize exw nq = W2 at hA2 hr2 hrow2 hB2 hs2 ⊢
          clear hA hrow hb hsz hR0 c0 c1 c2 c3 c4 c5
          obtain ⟨c0, c1, c2, c3, c4, c5⟩ := id hA2
          have hls' : listP p (k + 1) = listP p k := hls.trans (List.append_nil _)
          clear hls
          go_wp2
          go_roundw
          case rel => exact ⟨k + 1, by omega, by go_num, hls'.symm ▸ hrow2, hB2, hA2, hr2, hs2⟩
          case measure => simp [intOf]; omega
    · have hk8 : k = 128 := by omega
      subst hk8
      clear c0 c1 c2 c3 c4 c5
      have hl128 := listP_len p 128
      obtain ⟨ad, cap, rfl, hsl⟩ := hrow.form
      go_wp2_with fail
      refine (refOf_any _ _ _ _ hsl).mono ?_
      rintro e w4 ⟨rfl, hb4⟩
      rw [hof]
      have hs4 : w.heap.size + 1 < w4.heap.size := Nat.lt_of_lt_of_le hsz hb4.size
      have hB4 := hb.trans (hb4.mono hb.size)
      have y := Arr.alloc (((hR0.below hb4).set0 t.1).set1 t.2) (by simpa using hs4) (.cells #[.int .u64 (u t.1), .int .u64 (u t.2)] 24)
      obtain ⟨r0, r1, rf0, rf1⟩ := (hR0.below hb4).alloc hs4 (.cells #[.int .u64 (u t.1), .int .u64 (u t.2)] 24)
      obtain ⟨x0, x1, xf0, xf1⟩ := hR0.below hb4
      have s0 := (Arr.new w4 t).1
      have s1 := (Arr.new w4 t).2.1
      clear hR0 hA
      go_wp2
      obtain ⟨y0, y1, _, _⟩ := y
      exact bodyPost_ret (v := bv t) (by simp [results, Tryd.results27, go_sem, y0, y1]) rfl ⟨rfl, ((hB4.setCell (Nat.le_add_right _ _) _).setCell (Nat.le_add_right _ _) _).alloc (by simp; omega) _⟩
end Go.Proofs.YthhinchifegofaaDoor
