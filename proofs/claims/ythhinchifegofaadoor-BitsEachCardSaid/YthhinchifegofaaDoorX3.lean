/- The law BitsEach. -/
import Derived.Test.YthhinchifegofaaDoorX5
import Derived.Test.YthhinchifegofaaDoorI
namespace Go.Proofs.YthhinchifegofaaDoor
open Go.RowKit
attribute [local go_sem] Oper.semAt_some

/-- Between two rounds of the range. -/
def RI (ib : Nat) (W1 : World) (s : Bt) (stop : Int) (k : Nat) (pre : List Int) (W : World) : Prop :=
  Below ib W1 W ∧ W.cell? ⟨ib, 0, none⟩ = some (.int .i64 pre.length) ∧ W.frozen? ⟨ib, 0, none⟩ = false ∧ pre <+: eachL s ∧ (k = 1 → pre = [] ∨ (pre.length : Int) < stop)
/-- A round has left by a jump: 'return false' (then it was handed what stands not on the list), or the break. -/
def RX (ib : Nat) (W1 : World) (s : Bt) (stop : Int) (k : Nat) (c : Code) (p : List Int) (W : World) : Prop :=
  (c = .ret ∧ ¬ (p <+: eachL s)) ∨ (c = .exit 2 ∧ k = 1 ∧ ((p.length : Int) = stop ∨ p.length = 1) ∧ Below ib W1 W ∧ W.cell? ⟨ib, 0, none⟩ = some (.int .i64 p.length) ∧ W.frozen? ⟨ib, 0, none⟩ = false)
theorem RI_own {ib : Nat} {W1 : World} {s : Bt} {stop : Int} {k : Nat} (h : ib ≤ W1.heap.size) : OwnFrom W1.heap.size (RI ib W1 s stop k) := fun p A B row hs hg hr => by
  obtain ⟨h1, h2, h3, h4⟩ := hs
  have hr2 : ∀ r, row = some r → ∃ o : Obj, A.heap[r]? = some o ∧ o.isCells = false := fun r e => (hr r e).2
  exact ⟨ownFrom_below (β := List Int) h h p A B row h1 hg hr, cell_kept h2 hg hr2, (frozen_kept h2 hg hr2).trans h3, h4⟩
theorem RX_own {ib : Nat} {W1 : World} {s : Bt} {stop : Int} {k : Nat} (h : ib ≤ W1.heap.size) (c : Code) : OwnFrom W1.heap.size (RX ib W1 s stop k c) := fun p A B row hs hg hr => by
  have hr2 : ∀ r, row = some r → ∃ o : Obj, A.heap[r]? = some o ∧ o.isCells = false := fun r e => (hr r e).2
  rcases hs with hs | ⟨e1, e2, e3, h1, h2, h3⟩
  · exact .inl hs
  · exact .inr ⟨e1, e2, e3, ownFrom_below (β := List Int) h h p A B row h1 hg hr, cell_kept h2 hg hr2, (frozen_kept h2 hg hr2).trans h3⟩
theorem fn_nil_d (d : Nat) (f : Fn) (a b : Array Value) (w : World) : (Op.equalIn (d + 1) 26 (.func f a b) .nilFunc).run Tryd.prog w = .ok false w := by
  simp [Op.equalIn, run_underlying Tryd.underlying26, go_sem]
theorem fn_nil (f : Fn) (a b : Array Value) (w : World) : (binOp .eql 26 (.func f a b) .nilFunc).run Tryd.prog w = .ok (.bool false) w := by
  have e2 : (Op.equal 26 (.func f a b) .nilFunc).run Tryd.prog w = .ok false w := fn_nil_d 9999 f a b w
  simp [binOp, e2, go_sem]
set_option maxRecDepth 100000 in
set_option maxHeartbeats 4000000 in
theorem BitsEach_walk (s : Bt) (stop : Int) (w : World) (hT : TabW w) :
    Calls Tryd.prog 3 #[bv s, .int .i64 stop] w fun e w' => e = .returned (.bool true) ∧ Below w.heap.size w w' := by
  refine (callsIn_wide (n := 5)).1 ?_
  unfold bv
  refine callsIn_of_wp_marks Tryd.func3 rfl trivial ?_
  simp only [Tryd.ntmps3, List.size_toArray, List.length_cons, List.length_nil, Nat.reduceAdd, Nat.reduceSub, Array.replicate_succ, Array.replicate_zero, List.push_toArray, List.append_toArray, List.nil_append, List.cons_append]
  gi_wp2_with (refine ⟨trivial, ?_⟩; gi_at_call 6; refine (callsIn_wide.2 (Each_any s _)).mono ?_; rintro e w' ⟨rfl, rfl⟩)
  obtain ⟨W0, hW0⟩ : ∃ W0, W0 = (((w.alloc (.cells #[.int .u64 (u s.1), .int .u64 (u s.2)] 24)).alloc (.cells #[.int .i64 stop] 3)).alloc (.cells #[.bool false] 4)).alloc (.cells #[.int .u64 (u s.1), .int .u64 (u s.2)] 24) := ⟨_, rfl⟩
  rw [← hW0]
  have hz0 : W0.heap.size = w.heap.size + 4 := by rw [hW0]; simp
  have hb0 : Below w.heap.size w W0 := by rw [hW0]; exact ((((Below.refl _ w).alloc (Nat.le_refl _) _).alloc (by simp) _).alloc (by simp; omega) _).alloc (by simp; omega) _
  have a0 : W0.cell? ⟨w.heap.size, 0, none⟩ = some (.int .u64 (u s.1)) := by rw [hW0]; go_simp
  have a1 : W0.cell? ⟨w.heap.size, 1, none⟩ = some (.int .u64 (u s.2)) := by rw [hW0]; go_simp
  have t0 : W0.cell? ⟨w.heap.size + 1, 0, none⟩ = some (.int .i64 stop) := by rw [hW0]; go_simp
  have r0 : W0.cell? ⟨w.heap.size + 1 + 1, 0, none⟩ = some (.bool false) := by rw [hW0]; go_simp
  have c0 : W0.cell? ⟨w.heap.size + 1 + 1 + 1, 0, none⟩ = some (.int .u64 (u s.1)) := by rw [hW0]; go_simp
  have c1 : W0.cell? ⟨w.heap.size + 1 + 1 + 1, 1, none⟩ = some (.int .u64 (u s.2)) := by rw [hW0]; go_simp
  have f0 : W0.frozen? ⟨w.heap.size + 1 + 1, 0, none⟩ = false := by
    rw [hW0]
    repeat rw [frozen?_alloc_cells]
    simp [World.frozen?, Array.getElem?_eq_none (show w.heap.size ≤ w.heap.size + 1 + 1 by omega)]
  clear hW0
  refine ⟨trivial, ?_⟩
  refine (callsIn_wide.2 (awake_true W0)).mono ?_
  rintro e w1 ⟨rfl, hb1⟩
  have k : ∀ {p : Addr} {v : Value}, W0.cell? p = some v → w1.cell? p = some v := fun h => (hb1.cell (World.block_lt_of_cell? _ _ h)).trans h
  have a01 := k a0
  have a11 := k a1
  have t01 := k t0
  have r01 := k r0
  have c01 := k c0
  have c11 := k c1
  have f01 := (hb1.frozen (p := ⟨w.heap.size + 1 + 1, 0, none⟩) (World.block_lt_of_cell? _ _ r0)).trans f0
  have hz1 := hb1.size
  have hc1 := hb0.trans (hb1.mono hb0.size)
  clear a0 a1 t0 r0 c0 c1 f0 k
  have hnil := fn_nil
  gi_wp2_with (refine ⟨trivial, ?_⟩; gi_at_call 8; refine (callsIn_wide.2 (refList_any s _)).mono ?_; rintro e w2 ⟨v, rfl, hrow, hb2⟩; obtain ⟨la, lc, rfl, hsl⟩ := hrow.form)
  have hbq : Below w1.heap.size w1 ((w2.alloc (.cells #[.slice la (listP (hasB s) 128).length lc] 29)).alloc (.cells #[.int .i64 0] 3)) := (hb2.alloc hb2.size _).alloc (by have := hb2.size; simp; omega) _
  have q : ∀ {p : Addr} {v : Value}, w1.cell? p = some v → ((w2.alloc (.cells #[.slice la (listP (hasB s) 128).length lc] 29)).alloc (.cells #[.int .i64 0] 3)).cell? p = some v := fun h => (hbq.cell (World.block_lt_of_cell? _ _ h)).trans h
  have hTq := (hT.below hc1).below hbq
  have hz2 := hb2.size
  have hPL := placesL_all s
  rw [hPL] at hsl hbq q hTq ⊢
  refine wpIn_loop_ghost (fun g a wr => g ≤ 3 ∧ LoopI s stop w w.heap.size w2.heap.size la (eachL s).length lc (3 - g) a wr) 3 ⟨Nat.le_refl _, ?_⟩ ?_
  · unfold LoopI
    refine ⟨w2.heap.size + 1, _, _, _, _, _, _, _, _, _, _, _, _, _, _, _, _, _, _, _, _, _, _, _, _, _, _, _, _, _, _, _, _, _, _, _, _, _, _, _, _, _, _, _, _, _, _, _, _, [], rfl, ?_, ?_, ?_, ?_, trivial⟩
    · exact ⟨q t01, ⟨_, q r01⟩, (hbq.frozen (p := ⟨w.heap.size + 1 + 1, 0, none⟩) (World.block_lt_of_cell? _ _ r01)).trans f01, q c01, q c11, by go_simp, (hsl.alloc _).alloc _, by go_simp, by rw [frozen?_alloc_cells, frozen?_alloc_cells]; simp [World.frozen?], hTq⟩
    · omega
    · omega
    · exact hc1.trans (hbq.mono hc1.size)
  · rintro g a wr ⟨hg, hI⟩
    unfold LoopI at hI
    obtain ⟨Kb, j8, j9, j20, j21, j22, j23, j24, j25, j26, j27, j28, j29, j30, j31, j32, j33, j34, j35, j36, j37, j38, j39, j40, j41, j42, j43, j44, j45, j46, j47, j48, j49, j50, j51, j52, j53, j54, j55, j56, j57, j58, j59, j60, j61, j62, j63, j64, j65, ds, rfl, hE, hL1, hL2, hB, hM⟩ := hI
    obtain ⟨k, hk⟩ : ∃ k, 3 - g = k := ⟨_, rfl⟩
    rw [hk] at hE
    by_cases h3 : k < 3
    · have hkc := hE.kc
      gi_wp2
      obtain ⟨W1, hW1⟩ : ∃ W1, W1 = wr.alloc (.cells #[.int .i64 0] 3) := ⟨_, rfl⟩
      rw [← hW1]
      have hE1 : EW W1 s stop w.heap.size w2.heap.size Kb la (eachL s).length lc k := by rw [hW1]; exact hE.below ((Below.refl _ _).alloc (Nat.le_refl _) _)
      have hi0 : W1.cell? ⟨wr.heap.size, 0, none⟩ = some (.int .i64 0) := by rw [hW1]; go_simp
      have hif : W1.frozen? ⟨wr.heap.size, 0, none⟩ = false := by rw [hW1, frozen?_alloc_cells]; simp [World.frozen?]
      have hz1 : W1.heap.size = wr.heap.size + 1 := by rw [hW1]; simp
      have hpos : 0 < wr.heap.size := by have := World.block_lt_of_cell? _ _ hE.kc; omega
      refine wpIn_rangeFunc_ownF rfl (by decide) (gf := 23) (lb := #[.pointer (some ⟨w.heap.size + 1 + 1 + 1, 0, none⟩)]) rfl trivial (enters_of Tryd.func23 (by kernel_rfl) rfl)
        (each_stops 4 (by decide) (w.heap.size + 1 + 1 + 1) wr.heap.size hpos s W1 hE1.c0 hE1.c1 hE1.tab) belowK_t (belowK_b (by omega)) (Below.refl _ _) (fun _ => rfl)
        (RI wr.heap.size W1 s stop k) (RX wr.heap.size W1 s stop k) (RI_own (by omega)) (RX_own (by omega)) ⟨Below.refl _ _, hi0, hif, List.nil_prefix, fun _ => .inl rfl⟩
        (fun x => { tmps := #[.agg #[.int .u64 (u s.1), .int .u64 (u s.2)], .int .i64 stop, .pointer (some ⟨w.heap.size, 0, none⟩), .pointer (some ⟨w.heap.size + 1, 0, none⟩), .pointer (some ⟨w.heap.size + 1 + 1, 0, none⟩), .func (.func 23) #[] #[.pointer (some ⟨w.heap.size + 1 + 1 + 1, 0, none⟩)], .pointer (some ⟨w2.heap.size, 0, none⟩), .pointer (some ⟨Kb, 0, none⟩), .pointer (some ⟨wr.heap.size, 0, none⟩), .int .i64 x, .agg #[.int .u64 (u s.1), .int .u64 (u s.2)], .func (.func 23) #[] #[.pointer (some ⟨w.heap.size + 1 + 1 + 1, 0, none⟩)], .bool true, .bool false, .bool false, .func (.func 23) #[] #[.pointer (some ⟨w.heap.size + 1 + 1 + 1, 0, none⟩)], .bool false, .bool false, .agg #[.int .u64 (u s.1), .int .u64 (u s.2)], .slice la (eachL s).length lc, .int .i64 k, .bool true, j22, j23, .func (.func 23) #[] #[.pointer (some ⟨w.heap.size + 1 + 1 + 1, 0, none⟩)], .int .i64 x, j26, j27, j28, j29, j30, j31, j32, j33, j34, j35, j36, j37, j38, j39, j40, j41, j42, j43, j44, j45, j46, j47, j48, j49, j50, j51, j52, j53, j54, j55, j56, j57, j58, j59, j60, j61, j62, j63, j64, j65], defers := [] }) ?assign ?body ?done ?stop
      case assign =>
        intro l x W K hK
        gi_wp2
        exact hK
      case body =>
        rintro l pre x W ⟨hb1, hic, hif1, hpre, hk1⟩ _
        have hbW : Below wr.heap.size wr W := by
          have : Below wr.heap.size wr W1 := by rw [hW1]; exact (Below.refl _ _).alloc (Nat.le_refl _) _
          exact this.trans hb1
        clear hW1
        have hE2 := hE.below hbW
        have hT2 := hE2.t
        have hk2 := hE2.kc
        have hl2 := hE2.l
        obtain ⟨rb, hr2⟩ := hE2.r
        have hfr2 := hE2.fr
        have hiB : wr.heap.size < W.heap.size := World.block_lt_of_cell? _ _ hic
        have hple := hpre.length_le
        have hKb : Kb < wr.heap.size := World.block_lt_of_cell? _ _ hE.kc
        have hTb : w.heap.size + 1 < wr.heap.size := by omega
        have nK : Kb ≠ wr.heap.size := by omega
        have nT : w.heap.size + 1 ≠ wr.heap.size := by omega
        by_cases hm : pre ++ [x] <+: eachL s
        · have hlt : pre.length < (eachL s).length := by have := hm.length_le; simp at this; omega
          have hx : (eachL s)[pre.length]'hlt = x := by
            have := hm.getElem (i := pre.length) (by simp)
            rw [← this]; simp
          obtain ⟨b, off, rfl, hcell⟩ := hE2.sl.int_at pre.length hlt
          rw [hx] at hcell
          have hk1' : k = 1 → (((pre ++ [x]).length : Int) = stop ∨ (pre ++ [x]).length = 1) ∨ ¬ ((pre.length : Int) + 1 ≥ stop) := by
            intro e
            rcases hk1 e with rfl | h
            · exact .inl (.inr rfl)
            · by_cases h2 : (pre.length : Int) + 1 ≥ stop
              · exact .inl (.inl (by simp; omega))
              · exact .inr h2
          by_cases hbr : k = 1 ∧ (pre.length : Int) + 1 ≥ stop
          · obtain ⟨hke, hge⟩ := hbr
            have hres := (hk1' hke).resolve_right (fun h => h hge)
            subst hke
            clear hk1' hk1
            gi_wp2
            refine ⟨KeepsOthers.setCell _ _ _, ?_⟩
            unfold RX
            exact .inr ⟨rfl, rfl, hres, hb1.setCell (p := ⟨wr.heap.size, 0, none⟩) (Nat.le_refl _) _, by rw [World.cell?_setCell_same _ _ _ hic]; simp, by rw [World.frozen?_setCell]; exact hif1⟩
          · by_cases hk : k = 1
            · subst hk
              have hge : ¬ ((pre.length : Int) + 1 ≥ stop) := fun h => hbr ⟨rfl, h⟩
              gi_wp2
              refine ⟨KeepsOthers.setCell _ _ _, (Below.refl _ _).setCell (p := ⟨wr.heap.size, 0, none⟩) (Nat.le_refl _) _, ?_⟩
              unfold RI
              exact ⟨hb1.setCell (p := ⟨wr.heap.size, 0, none⟩) (Nat.le_refl _) _, by rw [World.cell?_setCell_same _ _ _ hic]; simp, by rw [World.frozen?_setCell]; exact hif1, hm, fun _ => .inr (by simp; omega)⟩
            · have hkz : ¬ ((k : Int) = 1) := by omega
              gi_wp2
              refine ⟨KeepsOthers.setCell _ _ _, (Below.refl _ _).setCell (p := ⟨wr.heap.size, 0, none⟩) (Nat.le_refl _) _, ?_⟩
              unfold RI
              exact ⟨hb1.setCell (p := ⟨wr.heap.size, 0, none⟩) (Nat.le_refl _) _, by rw [World.cell?_setCell_same _ _ _ hic]; simp, by rw [World.frozen?_setCell]; exact hif1, hm, fun h => absurd h hk⟩
        · have hxr : RX wr.heap.size W1 s stop k .ret (pre ++ [x]) (W.setCell ⟨w.heap.size + 1 + 1, 0, none⟩ (.bool false)) := by
            unfold RX
            exact .inl ⟨rfl, hm⟩
          by_cases hlt : pre.length < (eachL s).length
          · obtain ⟨b, off, rfl, hcell⟩ := hE2.sl.int_at pre.length hlt
            have hx : ¬ (x = (eachL s)[pre.length]) := by
              intro e
              refine hm ?_
              obtain ⟨t, ht⟩ := hpre
              have hd : (eachL s)[pre.length]? = (pre ++ t)[pre.length]? := by rw [ht]
              rw [List.getElem?_eq_getElem hlt, List.getElem?_append_right (Nat.le_refl _), Nat.sub_self] at hd
              cases t with
              | nil => simp at hd
              | cons y t =>
                simp at hd
                exact ⟨t, by rw [← ht, e, hd]; simp⟩
            obtain ⟨y, hy⟩ : ∃ y, (eachL s)[pre.length] = y := ⟨_, rfl⟩
            rw [hy] at hcell hx
            clear hy
            have hxb : (x != y) = true := by simp [hx]
            have hxe : (x == y) = false := by simp [hx]
            gi_wp2
            all_goals first | exact ⟨KeepsOthers.setCell _ _ _, hxr⟩ | (exfalso; simp_all)
          · have hge : (pre.length : Int) ≥ ((eachL s).length : Int) := by omega
            gi_wp2
            exact ⟨KeepsOthers.setCell _ _ _, hxr⟩
      case done =>
        rintro D ys W hD rfl ⟨hb1, hic, hif1, hpre, hk1⟩ hK
        have hbW : Below wr.heap.size wr W := by
          have : Below wr.heap.size wr W1 := by rw [hW1]; exact (Below.refl _ _).alloc (Nat.le_refl _) _
          exact this.trans hb1
        have hWz := hb1.size
        clear hW1
        have hE2 := hE.below hbW
        have hT2 := hE2.t
        have hk2 := hE2.kc
        have hl2 := hE2.l
        have hiB : wr.heap.size < W.heap.size := by omega
        have hKb : Kb < wr.heap.size := World.block_lt_of_cell? _ _ hE.kc
        have hKW : Kb < W.heap.size := by omega
        gi_wp2
        have hal : Below W.heap.size W (W.alloc (.cells #[.int .i64 ((k : Int) + 1)] 3)) := (Below.refl _ _).alloc (Nat.le_refl _) _
        have hE3 := hE2.below hal
        have hk' : 3 - (g - 1) = k + 1 := by omega
        refine ⟨g - 1, by omega, by omega, ?_⟩
        rw [hk']
        unfold LoopI
        refine ⟨W.heap.size, _, _, _, _, _, _, _, _, _, _, _, _, _, _, _, _, _, _, _, _, _, _, _, _, _, _, _, _, _, _, _, _, _, _, _, _, _, _, _, _, _, _, _, _, _, _, _, _, _, rfl, ⟨hE3.t, hE3.r, hE3.fr, hE3.c0, hE3.c1, hE3.l, hE3.sl, by go_simp, by rw [frozen?_alloc_cells]; simp [World.frozen?], hE3.tab⟩, hL1, by omega, hB.trans ((hbW.trans (hal.mono hbW.size)).mono hB.size), ⟨D, rfl, by have := hB.size; omega, by rw [hal.block D (Array.getElem?_eq_some_iff.1 hK).1]; exact hK, ?_⟩, hM.below (hbW.trans (hal.mono hbW.size))⟩
        intro d' hd' e
        obtain ⟨D', h1, h2⟩ := hM.mem d' hd'
        rw [e] at h1
        injection h1 with h1 _
        injection h1 with h1
        omega
      case stop =>
        rintro D c pre W hD hpre hx hK
        unfold RX at hx
        rcases hx with ⟨_, hx⟩ | ⟨rfl, hke, hres, hb1, hic, hif1⟩
        · exact absurd hpre hx
        have hbW : Below wr.heap.size wr W := by
          have : Below wr.heap.size wr W1 := by rw [hW1]; exact (Below.refl _ _).alloc (Nat.le_refl _) _
          exact this.trans hb1
        have hWz := hb1.size
        clear hW1
        have hE2 := hE.below hbW
        have hT2 := hE2.t
        have hk2 := hE2.kc
        have hl2 := hE2.l
        have hiB : wr.heap.size < W.heap.size := by omega
        have hKb : Kb < wr.heap.size := World.block_lt_of_cell? _ _ hE.kc
        have hKW : Kb < W.heap.size := by omega
        have hki : (k : Int) = 1 := by omega
        by_cases hlen : (pre.length : Int) = ((eachL s).length : Int)
        · gi_wp2
          have h2k : (2 : Int) = (k : Int) + 1 := by omega
          rw [h2k]
          have hal : Below W.heap.size W (W.alloc (.cells #[.int .i64 ((k : Int) + 1)] 3)) := (Below.refl _ _).alloc (Nat.le_refl _) _
          have hE3 := hE2.below hal
          have hk' : 3 - (g - 1) = k + 1 := by omega
          refine ⟨g - 1, by omega, by omega, ?_⟩
          rw [hk']
          unfold LoopI
          refine ⟨W.heap.size, _, _, _, _, _, _, _, _, _, _, _, _, _, _, _, _, _, _, _, _, _, _, _, _, _, _, _, _, _, _, _, _, _, _, _, _, _, _, _, _, _, _, _, _, _, _, _, _, _, rfl, ⟨hE3.t, hE3.r, hE3.fr, hE3.c0, hE3.c1, hE3.l, hE3.sl, by go_simp, by rw [frozen?_alloc_cells]; simp [World.frozen?], hE3.tab⟩, hL1, by omega, hB.trans ((hbW.trans (hal.mono hbW.size)).mono hB.size), ⟨D, rfl, by have := hB.size; omega, by rw [hal.block D (Array.getElem?_eq_some_iff.1 hK).1]; exact hK, ?_⟩, hM.below (hbW.trans (hal.mono hbW.size))⟩
          intro d' hd' e
          obtain ⟨D', h1, h2⟩ := hM.mem d' hd'
          rw [e] at h1
          injection h1 with h1 _
          injection h1 with h1
          omega
        · by_cases hst : (pre.length : Int) = stop
          · gi_wp2
            have h2k : (2 : Int) = (k : Int) + 1 := by omega
            rw [h2k]
            have hal : Below W.heap.size W (W.alloc (.cells #[.int .i64 ((k : Int) + 1)] 3)) := (Below.refl _ _).alloc (Nat.le_refl _) _
            have hE3 := hE2.below hal
            have hk' : 3 - (g - 1) = k + 1 := by omega
            refine ⟨g - 1, by omega, by omega, ?_⟩
            rw [hk']
            unfold LoopI
            refine ⟨W.heap.size, _, _, _, _, _, _, _, _, _, _, _, _, _, _, _, _, _, _, _, _, _, _, _, _, _, _, _, _, _, _, _, _, _, _, _, _, _, _, _, _, _, _, _, _, _, _, _, _, _, rfl, ⟨hE3.t, hE3.r, hE3.fr, hE3.c0, hE3.c1, hE3.l, hE3.sl, by go_simp, by rw [frozen?_alloc_cells]; simp [World.frozen?], hE3.tab⟩, hL1, by omega, hB.trans ((hbW.trans (hal.mono hbW.size)).mono hB.size), ⟨D, rfl, by have := hB.size; omega, by rw [hal.block D (Array.getElem?_eq_some_iff.1 hK).1]; exact hK, ?_⟩, hM.below (hbW.trans (hal.mono hbW.size))⟩
            intro d' hd' e
            obtain ⟨D', h1, h2⟩ := hM.mem d' hd'
            rw [e] at h1
            injection h1 with h1 _
            injection h1 with h1
            omega
          · have h1 : pre.length = 1 := hres.resolve_left hst
            have h1i : (pre.length : Int) = 1 := by omega
            gi_wp2
            have h2k : (2 : Int) = (k : Int) + 1 := by omega
            rw [h2k]
            have hal : Below W.heap.size W (W.alloc (.cells #[.int .i64 ((k : Int) + 1)] 3)) := (Below.refl _ _).alloc (Nat.le_refl _) _
            have hE3 := hE2.below hal
            have hk' : 3 - (g - 1) = k + 1 := by omega
            refine ⟨g - 1, by omega, by omega, ?_⟩
            rw [hk']
            unfold LoopI
            refine ⟨W.heap.size, _, _, _, _, _, _, _, _, _, _, _, _, _, _, _, _, _, _, _, _, _, _, _, _, _, _, _, _, _, _, _, _, _, _, _, _, _, _, _, _, _, _, _, _, _, _, _, _, _, rfl, ⟨hE3.t, hE3.r, hE3.fr, hE3.c0, hE3.c1, hE3.l, hE3.sl, by go_simp, by rw [frozen?_alloc_cells]; simp [World.frozen?], hE3.tab⟩, hL1, by omega, hB.trans ((hbW.trans (hal.mono hbW.size)).mono hB.size), ⟨D, rfl, by have := hB.size; omega, by rw [hal.block D (Array.getElem?_eq_some_iff.1 hK).1]; exact hK, ?_⟩, hM.below (hbW.trans (hal.mono hbW.size))⟩
            intro d' hd' e
            obtain ⟨D', h1, h2⟩ := hM.mem d' hd'
            rw [e] at h1
            injection h1 with h1 _
            injection h1 with h1
            omega
    · have hk3 : ¬ ((k : Int) < 3) := by omega
      have hkc := hE.kc
      obtain ⟨rb, hr⟩ := hE.r
      have hfr := hE.fr
      gi_wp2
      exact leave_marks _ w.heap.size w rfl ds _ (hM.set _ hr) (World.cell?_setCell_same _ _ _ hr) (hB.setCell (p := ⟨w.heap.size + 1 + 1, 0, none⟩) (by simp; omega) _)
end Go.Proofs.YthhinchifegofaaDoor
