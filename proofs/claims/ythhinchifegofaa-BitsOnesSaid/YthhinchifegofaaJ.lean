/- The law BitsOnes. -/
import Derived.Test.YthhinchifegofaaI
namespace Go.Proofs.Ythhinchifegofaa
open Go.RowKit

/-- A call's set laid into a new box: what the walk carries on. -/
theorem laid {w w4 : World} {B : Nat} (t : Bt) (hB : Below B w w4) (hs : B ≤ w4.heap.size) : Below B w (w4.alloc (.cells #[.int .u64 (u t.1), .int .u64 (u t.2)] 24)) := hB.alloc hs _
theorem Arr.more {w w4 w5 : World} {B : Nat} {s : Bt} (h : Arr w B s) (hb : Below w.heap.size w w4) (o : Obj) (he : w4.alloc o = w5) : Arr w5 B s := by
  subst he
  exact (h.below hb).alloc (Nat.lt_of_lt_of_le (World.block_lt_of_cell? w _ h.1) hb.size) _
theorem Arr.now {w4 w5 : World} {B : Nat} {s : Bt} (he : w4.alloc (.cells #[.int .u64 (u s.1), .int .u64 (u s.2)] 24) = w5) (hB : w4.heap.size = B) : Arr w5 B s := by
  subst he
  subst hB
  exact Arr.new _ _
theorem Below.more {w w1 w4 w5 : World} {K : Nat} (h : Below K w w1) (hK : K ≤ w1.heap.size) (hb : Below w1.heap.size w1 w4) (o : Obj) (he : w4.alloc o = w5) : Below K w w5 ∧ K ≤ w5.heap.size := by
  subst he
  have := hb.size
  exact ⟨(h.trans (hb.mono hK)).alloc (by omega) _, by simp; omega⟩

theorem made_row (w : World) (B : Nat) (hB : w.heap.size = B) : (w.alloc (.cells #[] 3)).ownsRow B 3 1 (.slice (some ⟨B, 0, none⟩) 0 0) 0 [] := by
  subst hB
  exact World.ownsRow_made w #[] 0 (Nat.le_refl _) (by simp [maxLen]) rfl

set_option maxHeartbeats 4000000 in
set_option maxRecDepth 100000 in
theorem BitsOnes_walk (s : Bt) (v : Value) (xs : List Int) (n : Int) (w : World) (h : SlR w 1 v xs.length (ints xs)) (hr : xs.length * 8 ≤ 140737488351232) :
    Calls Try.prog 4 #[bv s, v, .int .i64 n] w fun e w' => e = .returned (.bool true) ∧ Below w.heap.size w w' := by
  obtain ⟨a, cap, rfl, hm, hc⟩ := h.form
  obtain ⟨P, hP⟩ : ∃ P, Veil (ofR xs (0,0) = P) := ⟨_, ⟨rfl⟩⟩
  obtain ⟨Q, hQ⟩ : ∃ Q, Veil (withR s n = Q) := ⟨_, ⟨rfl⟩⟩
  obtain ⟨V, hV⟩ : ∃ V, Veil (withoutR s n = V) := ⟨_, ⟨rfl⟩⟩
  have a3 := Arr.new w s
  have hb0 : Below w.heap.size w (w.alloc (.cells #[.int .u64 (u s.1), .int .u64 (u s.2)] 24)) := (Below.refl _ _).alloc (Nat.le_refl _) _
  have hc0 := hc.alloc (.cells #[.int .u64 (u s.1), .int .u64 (u s.2)] 24)
  have hz : w.heap.size + 1 ≤ (w.alloc (.cells #[.int .u64 (u s.1), .int .u64 (u s.2)] 24)).heap.size := by simp
  go_enter Try.func4, Try.ntmps4
  go_wp2_with (first | (at_builtin; refine wpList_append_sl rfl _ _ 29 3 rfl (w.heap.size + 1) (.int .i64 0) 1 8 Try.underlying29 info3 rfl (by decide) (by decide) (.slice (some ⟨w.heap.size + 1, 0, none⟩) 0 0) 0 [] rfl (made_row (w.alloc (.cells #[.int .u64 (u s.1), .int .u64 (u s.2)] 24)) _ (by simp)) _ xs.length (ints xs) rfl (hc0.alloc _) (ints_one xs) (by omega) (by simp) ?_; intro v1 w1 hown hg hat))
  have hb1 : Below w.heap.size w w1 := (hb0.alloc (by simp) _).grown hg (by simp; omega) (by intro k hk; simp [Value.ownBlock] at hk; omega)
  have hz1 : w.heap.size + 1 ≤ w1.heap.size := Nat.le_trans (by simp) hg.size
  replace a3 : Arr w1 w.heap.size s := by
    refine Arr.keep (a3.alloc (by simp) (.cells #[] 3)) ((Keep.refl (fun k => k = w.heap.size + 1) _).grown hg (fun k hk => ?_)) (by simp)
    simp [Value.ownBlock] at hk
    exact .inl hk.symm
  obtain ⟨b1, off1, h1⟩ : ∃ a1 c1, v1 = .slice a1 xs.length c1 := by
    obtain ⟨a1, c1, h1, _⟩ := (SlR.of_owns hown).form
    exact ⟨a1, c1, by simpa using h1⟩
  subst h1
  have ho1 : SlR w1 1 (.slice b1 xs.length off1) xs.length (ints xs) := by simpa using SlR.of_owns hown
  have hc1 := hc.below hb1
  clear hc0 hb0 hown hg hat hz
  refine (Of_any b1 off1 xs w1 ho1).mono ?_
  rintro e x1 ⟨rfl, k1⟩
  rw [hP.out]
  obtain ⟨w2, e2⟩ : ∃ w2, x1.alloc (.cells #[.int .u64 (u P.1.1), .int .u64 (u P.1.2)] 24) = w2 := ⟨_, rfl⟩
  obtain ⟨B7, hB7⟩ : ∃ B, x1.heap.size = B := ⟨_, rfl⟩
  have a7 := Arr.now e2 hB7
  have f3 := a3.more k1 _ e2
  have hb2 := Below.more hb1 (by omega) k1 _ e2
  have hc2 := (hc1.below k1).alloc (.cells #[.int .u64 (u P.1.1), .int .u64 (u P.1.2)] 24)
  rw [e2] at hc2
  clear k1 ho1 hc1 a3 hb1 hz1
  obtain ⟨c0, c1, _, _⟩ := id f3
  go_wp2_with fail
  clear c0 c1
  refine (refOf_any a cap xs _ hc2).mono ?_
  rintro e x3 ⟨rfl, k1⟩
  rw [hP.out]
  obtain ⟨w3, e3⟩ : ∃ w', x3.alloc (.cells #[.int .u64 (u P.1.1), .int .u64 (u P.1.2)] 24) = w' := ⟨_, rfl⟩
  obtain ⟨B9, hB9⟩ : ∃ B, x3.heap.size = B := ⟨_, rfl⟩
  replace f3 := f3.more k1 _ e3
  replace a7 := a7.more k1 _ e3
  have a9 := Arr.now e3 hB9
  replace hb2 := Below.more hb2.1 hb2.2 k1 _ e3
  clear k1 hc2 e2 hB7
  obtain ⟨c0, c1, _, _⟩ := id f3
  go_wp2_with fail
  clear c0 c1
  refine (With_any s n _).mono ?_
  rintro e x4 ⟨rfl, k1⟩
  rw [hQ.out]
  obtain ⟨w4, e4⟩ : ∃ w', x4.alloc (.cells #[.int .u64 (u Q.1.1), .int .u64 (u Q.1.2)] 24) = w' := ⟨_, rfl⟩
  obtain ⟨B11, hB11⟩ : ∃ B, x4.heap.size = B := ⟨_, rfl⟩
  replace f3 := f3.more k1 _ e4
  replace a7 := a7.more k1 _ e4
  replace a9 := a9.more k1 _ e4
  have a11 := Arr.now e4 hB11
  replace hb2 := Below.more hb2.1 hb2.2 k1 _ e4
  clear k1 e3 hB9
  obtain ⟨c0, c1, _, _⟩ := id f3
  go_wp2_with fail
  clear c0 c1
  refine (refWith_any s n _).mono ?_
  rintro e x5 ⟨rfl, k1⟩
  rw [hQ.out]
  obtain ⟨w5, e5⟩ : ∃ w', x5.alloc (.cells #[.int .u64 (u Q.1.1), .int .u64 (u Q.1.2)] 24) = w' := ⟨_, rfl⟩
  obtain ⟨B13, hB13⟩ : ∃ B, x5.heap.size = B := ⟨_, rfl⟩
  replace f3 := f3.more k1 _ e5
  replace a7 := a7.more k1 _ e5
  replace a9 := a9.more k1 _ e5
  replace a11 := a11.more k1 _ e5
  have a13 := Arr.now e5 hB13
  replace hb2 := Below.more hb2.1 hb2.2 k1 _ e5
  clear k1 e4 hB11
  obtain ⟨c0, c1, _, _⟩ := id f3
  go_wp2_with fail
  clear c0 c1
  refine (Without_any s n _).mono ?_
  rintro e x6 ⟨rfl, k1⟩
  rw [hV.out]
  obtain ⟨w6, e6⟩ : ∃ w', x6.alloc (.cells #[.int .u64 (u V.1.1), .int .u64 (u V.1.2)] 24) = w' := ⟨_, rfl⟩
  obtain ⟨B15, hB15⟩ : ∃ B, x6.heap.size = B := ⟨_, rfl⟩
  replace f3 := f3.more k1 _ e6
  replace a7 := a7.more k1 _ e6
  replace a9 := a9.more k1 _ e6
  replace a11 := a11.more k1 _ e6
  replace a13 := a13.more k1 _ e6
  have a15 := Arr.now e6 hB15
  replace hb2 := Below.more hb2.1 hb2.2 k1 _ e6
  clear k1 e5 hB13
  obtain ⟨c0, c1, _, _⟩ := id f3
  go_wp2_with fail
  clear c0 c1
  refine (refWithout_any s n _).mono ?_
  rintro e x7 ⟨rfl, k1⟩
  rw [hV.out]
  obtain ⟨w7, e7⟩ : ∃ w', x7.alloc (.cells #[.int .u64 (u V.1.1), .int .u64 (u V.1.2)] 24) = w' := ⟨_, rfl⟩
  obtain ⟨B17, hB17⟩ : ∃ B, x7.heap.size = B := ⟨_, rfl⟩
  replace f3 := f3.more k1 _ e7
  replace a7 := a7.more k1 _ e7
  replace a9 := a9.more k1 _ e7
  replace a11 := a11.more k1 _ e7
  replace a13 := a13.more k1 _ e7
  replace a15 := a15.more k1 _ e7
  have a17 := Arr.now e7 hB17
  replace hb2 := Below.more hb2.1 hb2.2 k1 _ e7
  clear k1 e6 hB15
  have eP : ∀ w, (Op.equalIn 10000 24 (.agg #[.int .u64 (u P.1.1), .int .u64 (u P.1.2)]) (.agg #[.int .u64 (u P.1.1), .int .u64 (u P.1.2)])).run Try.prog w = .ok true w := fun w => by rw [eq_bt4]; simp
  have eQ : ∀ w, (Op.equalIn 10000 24 (.agg #[.int .u64 (u Q.1.1), .int .u64 (u Q.1.2)]) (.agg #[.int .u64 (u Q.1.1), .int .u64 (u Q.1.2)])).run Try.prog w = .ok true w := fun w => by rw [eq_bt4]; simp
  have eV : ∀ w, (Op.equalIn 10000 24 (.agg #[.int .u64 (u V.1.1), .int .u64 (u V.1.2)]) (.agg #[.int .u64 (u V.1.1), .int .u64 (u V.1.2)])).run Try.prog w = .ok true w := fun w => by rw [eq_bt4]; simp
  have qf30 := fun n : ExtW w7 => exw_cell f3.1 n
  have qf31 := fun n : ExtW w7 => exw_cell f3.2.1 n
  have qa70 := fun n : ExtW w7 => exw_cell a7.1 n
  have qa71 := fun n : ExtW w7 => exw_cell a7.2.1 n
  have qa90 := fun n : ExtW w7 => exw_cell a9.1 n
  have qa91 := fun n : ExtW w7 => exw_cell a9.2.1 n
  have qa110 := fun n : ExtW w7 => exw_cell a11.1 n
  have qa111 := fun n : ExtW w7 => exw_cell a11.2.1 n
  have qa130 := fun n : ExtW w7 => exw_cell a13.1 n
  have qa131 := fun n : ExtW w7 => exw_cell a13.2.1 n
  have qa150 := fun n : ExtW w7 => exw_cell a15.1 n
  have qa151 := fun n : ExtW w7 => exw_cell a15.2.1 n
  have qa170 := fun n : ExtW w7 => exw_cell a17.1 n
  have qa171 := fun n : ExtW w7 => exw_cell a17.2.1 n
  obtain ⟨H, hH⟩ : ∃ H, Veil (hasI s n = H) := ⟨_, ⟨rfl⟩⟩
  have cH1 := fun w' => Has_any s n w'
  have cH2 := fun w' => refHas_any s n w'
  rw [hH.out] at cH1 cH2
  go_wp2_with fail
  refine region_ext (by kernel_rfl) (by kernel_rfl) ?_
  repeat (go_big_quiet_step ((first | (go_at_call 5; exact ext_call (awake_true _)) | (go_at_call 16; exact ext_call (cH1 _)) | (go_at_call 17; exact ext_call (cH2 _)))))
  refine wpQuiet_nil ?_
  intro _ hw'
  obtain ⟨nq, hw''⟩ := hw'
  subst hw''
  clear qf30 qf31 qa70 qa71 qa90 qa91 qa110 qa111 qa130 qa131 qa150 qa151 qa170 qa171
  go_wp2
  go_ret
  exact ⟨rfl, hb2.1.trans ((exw_below nq).mono hb2.2)⟩
end Go.Proofs.Ythhinchifegofaa
