/- Parts of this proof, joined. -/
import Derived.Test.YtpebpfaecdmabaaGreatDoorZFVF
import Derived.Maps.RangeRun
/- awake's graph: full.Run, hops.Run. -/
namespace Go.Proofs.YtpebpfaecdmabaaGreatDoor
open Go.RowKit

theorem res33 (w : World) (tmps : Array Value) (R : Nat) (x0 x1 x2 x3 e : Value) (hp : tmps.getD 4 undef = .pointer (some ⟨R, 0, none⟩)) (he : tmps.getD 5 undef = e) (h0 : w.cell? ⟨R, 0, none⟩ = some x0) (h1 : w.cell? ⟨R, 1, none⟩ = some x1) (h2 : w.cell? ⟨R, 2, none⟩ = some x2) (h3 : w.cell? ⟨R, 3, none⟩ = some x3) :
    (results Tryz.f38 tmps).run Tryz.prog w = .ok (.tuple #[.agg #[x0, x1, x2, x3], e]) w := by
  rw [results_cell_tmp (p := 4) (u := 5) (ty := 70) rfl, hp, he]
  go_simp
theorem res22 (w : World) (tmps : Array Value) (R : Nat) (x0 x1 x2 x3 e : Value) (hp : tmps.getD 4 undef = .pointer (some ⟨R, 0, none⟩)) (he : tmps.getD 5 undef = e) (h0 : w.cell? ⟨R, 0, none⟩ = some x0) (h1 : w.cell? ⟨R, 1, none⟩ = some x1) (h2 : w.cell? ⟨R, 2, none⟩ = some x2) (h3 : w.cell? ⟨R, 3, none⟩ = some x3) :
    (results Tryz.f29 tmps).run Tryz.prog w = .ok (.tuple #[.agg #[x0, x1, x2, x3], e]) w := by
  rw [results_cell_tmp (p := 4) (u := 5) (ty := 70) rfl, hp, he]
  go_simp
theorem SlR.keep {S : Nat → Prop} {w w' : World} {sz b off n m : Nat} {cap : Nat} {cs : List Value} (h : SlR w sz (.slice (some ⟨b, off, none⟩) m cap) n cs) (k : Keep S w w') (hb : ¬ S b) : SlR w' sz (.slice (some ⟨b, off, none⟩) m cap) n cs := by
  obtain ⟨h1, h2, a, c, he, h0, hc⟩ := h
  refine ⟨h1, h2, a, c, he, h0, ?_⟩
  injection he with e1 e2 e3
  subst e1
  rcases hc with hc | ⟨b', off', e, hc⟩
  · exact .inl hc
  · injection e with e
    injection e with e1 e2
    subst e1 e2
    exact .inr ⟨b, off, rfl, fun j u hu => k.cell (hc j u hu) hb⟩
theorem TI.keep {S : Nat → Prop} {w w' : World} {D Pp : Nat} (h : TI w D Pp) (k : Keep S w w') (hD : ¬ S D) (hP : ¬ S Pp) : TI w' D Pp := ⟨h.d.keep k hD, h.p.keep k hP, k.cell h.pc.1 hP, k.cell h.pc.2 hP⟩
set_option maxHeartbeats 8000000 in
set_option maxRecDepth 100000 in
theorem fullRun_awake {w : World} {v lv pv : Value} (h : GA w v lv pv) : Calls Tryz.prog 38 #[.agg #[v, lv, pv], .int .i64 1] w fun e w' =>
    ∃ D Pp Qq, e = .returned (.tuple #[.agg #[.int .i64 1, sl128 D, sl128 Pp, sl128 Qq], .int .i64 0]) ∧ Below w.heap.size w w' ∧ TI w' D Pp := by
  obtain ⟨xv, cv, rfl, _, _⟩ := h.n.form
  obtain ⟨xl, cl2, rfl, _, _⟩ := h.l.form
  obtain ⟨xp, cp, rfl, _, _⟩ := h.p.form
  go_enter Tryz.func38, Tryz.ntmps38
  go_wp2_with fail
  have hA1 := (Below.refl _ w).alloc (Nat.le_refl _) (.cells #[.slice xv 2 cv, .slice xl 1 cl2, .slice xp 1 cp] 57)
  have s1 : (w.alloc (.cells #[.slice xv 2 cv, .slice xl 1 cl2, .slice xp 1 cp] 57)).heap.size = w.heap.size + 1 := by simp
  have g0 := box_new w #[.slice xv 2 cv, .slice xl 1 cl2, .slice xp 1 cp] 57 0 _ rfl
  have g1 := box_new w #[.slice xv 2 cv, .slice xl 1 cl2, .slice xp 1 cp] 57 1 _ rfl
  have g2 := box_new w #[.slice xv 2 cv, .slice xl 1 cl2, .slice xp 1 cp] 57 2 _ rfl
  generalize w.alloc _ = W1 at *
  have hA2 := (Below.refl _ W1).alloc (Nat.le_refl _) (.cells #[.int .i64 0, .slice none 0 0, .slice none 0 0, .slice none 0 0] 70)
  have s2 : (W1.alloc (.cells #[.int .i64 0, .slice none 0 0, .slice none 0 0, .slice none 0 0] 70)).heap.size = W1.heap.size + 1 := by simp
  have r0 := box_new W1 #[.int .i64 0, .slice none 0 0, .slice none 0 0, .slice none 0 0] 70 0 _ rfl
  have r1 := box_new W1 #[.int .i64 0, .slice none 0 0, .slice none 0 0, .slice none 0 0] 70 1 _ rfl
  have r2 := box_new W1 #[.int .i64 0, .slice none 0 0, .slice none 0 0, .slice none 0 0] 70 2 _ rfl
  have r3 := box_new W1 #[.int .i64 0, .slice none 0 0, .slice none 0 0, .slice none 0 0] 70 3 _ rfl
  have rf := fun j => free_new W1 #[.int .i64 0, .slice none 0 0, .slice none 0 0, .slice none 0 0] 70 j
  generalize W1.alloc _ = W2 at *
  have hA3 := (Below.refl _ W2).alloc (Nat.le_refl _) (.cells #[.int .i64 1] 3)
  have hI : SlR (W2.alloc (.cells #[.int .i64 1] 3)) 1 (.slice (some ⟨W2.heap.size, 0, none⟩) 1 1) 1 (ints [1]) :=
    SlR.of_owns (World.ownsRow_lit (base := 0) (e := 3) (size := 1) W2 #[.int .i64 1] 1 (Nat.zero_le _) (by simp [maxLen]) rfl)
  generalize W2.alloc _ = W3 at *
  have h23 := hA2.trans (hA3.mono hA2.size)
  have h13 := hA1.trans (h23.mono hA1.size)
  rw [s1] at r0 r1 r2 r3 s2
  simp only [s1] at rf
  rw [s2] at hI
  have hG3 := h.below h13
  refine (fullNodes_awake hG3 hI).mono ?_
  rintro e w4 ⟨rfl, hb4⟩
  have hx : ∀ {b i : Nat} {u : Value}, W2.cell? ⟨b, i, none⟩ = some u → w4.cell? ⟨b, i, none⟩ = some u := fun e => by
    have e3 := (hA3.cell (World.block_lt_of_cell? _ _ e)).trans e
    exact (hb4.cell (World.block_lt_of_cell? _ _ e3)).trans e3
  have k0 := hx ((hA2.cell (World.block_lt_of_cell? _ _ g0)).trans g0)
  have k1 := hx ((hA2.cell (World.block_lt_of_cell? _ _ g1)).trans g1)
  have k2 := hx ((hA2.cell (World.block_lt_of_cell? _ _ g2)).trans g2)
  have hc4 := h13.trans (hb4.mono h13.size)
  have hG4 := h.below hc4
  go_wp2_with fail
  refine (Of_awake hG4).mono ?_
  rintro e w5 ⟨V, o1, i2, rfl, hV, ho, hVl, hb5⟩
  have hc5 := hc4.trans (hb5.mono hc4.size)
  go_wp2_with fail
  refine (Tree_awake hV ho).mono ?_
  rintro e w6 ⟨B0, R, T, D, Pp, Qq, rfl, hT⟩
  have hc6 := hc5.trans (hT.hb.mono hc5.size)
  have hy : ∀ {b i : Nat} {u : Value}, W2.cell? ⟨b, i, none⟩ = some u → w6.cell? ⟨b, i, none⟩ = some u := fun e => by
    have e4 := hx e
    have e5 := (hb5.cell (World.block_lt_of_cell? _ _ e4)).trans e4
    exact (hT.hb.cell (World.block_lt_of_cell? _ _ e5)).trans e5
  have m0 := hy r0
  have m1 := hy r1
  have m2 := hy r2
  have m3 := hy r3
  have nf : ∀ j, w6.frozen? ⟨w.heap.size + 1, j, none⟩ = false := fun j => by
    have l2 : w.heap.size + 1 < W2.heap.size := by omega
    have l3 : w.heap.size + 1 < W3.heap.size := Nat.lt_of_lt_of_le l2 hA3.size
    have l4 : w.heap.size + 1 < w4.heap.size := Nat.lt_of_lt_of_le l3 hb4.size
    have l5 : w.heap.size + 1 < w5.heap.size := Nat.lt_of_lt_of_le l4 hb5.size
    have e1 := (hA3.frozen (p := ⟨w.heap.size + 1, j, none⟩) l2).trans (rf j)
    have e2 := (hb4.frozen (p := ⟨w.heap.size + 1, j, none⟩) l3).trans e1
    have e3 := (hb5.frozen (p := ⟨w.heap.size + 1, j, none⟩) l4).trans e2
    exact (hT.hb.frozen (p := ⟨w.heap.size + 1, j, none⟩) l5).trans e3
  have nf0 := nf 0
  have nf1 := nf 1
  have nf2 := nf 2
  have nf3 := nf 3
  clear k0 k1 k2 g0 g1 g2 r0 r1 r2 r3 rf hx hy
  go_wp2_with fail
  obtain ⟨z0, z1, z2, z3⟩ := set4_cells (W := w6) (R := w.heap.size + 1) (.int .i64 1) (sl128 D) (sl128 Pp) (sl128 Qq) (fun j hj => by
    have : j = 0 ∨ j = 1 ∨ j = 2 ∨ j = 3 := by omega
    rcases this with rfl | rfl | rfl | rfl
    · exact ⟨_, m0⟩
    · exact ⟨_, m1⟩
    · exact ⟨_, m2⟩
    · exact ⟨_, m3⟩)
  have hle : w.heap.size ≤ w.heap.size + 1 := by omega
  have hbf := (((hc6.setCell (show w.heap.size ≤ (⟨w.heap.size + 1, 0, none⟩ : Addr).block from hle) (.int .i64 1)).setCell (show w.heap.size ≤ (⟨w.heap.size + 1, 1, none⟩ : Addr).block from hle) (sl128 D)).setCell (show w.heap.size ≤ (⟨w.heap.size + 1, 2, none⟩ : Addr).block from hle) (sl128 Pp)).setCell (show w.heap.size ≤ (⟨w.heap.size + 1, 3, none⟩ : Addr).block from hle) (sl128 Qq)
  have k14 : Keep (fun i => i = w.heap.size + 1) w6 ((((w6.setCell ⟨w.heap.size + 1, 0, none⟩ (.int .i64 1)).setCell ⟨w.heap.size + 1, 1, none⟩ (sl128 D)).setCell ⟨w.heap.size + 1, 2, none⟩ (sl128 Pp)).setCell ⟨w.heap.size + 1, 3, none⟩ (sl128 Qq)) :=
    ((((Keep.refl (fun i => i = w.heap.size + 1) w6).setCell ⟨w.heap.size + 1, 0, none⟩ _ (.inl rfl)).setCell ⟨w.heap.size + 1, 1, none⟩ _ (.inl rfl)).setCell ⟨w.heap.size + 1, 2, none⟩ _ (.inl rfl)).setCell ⟨w.heap.size + 1, 3, none⟩ _ (.inl rfl)
  have hbd := hT.bd
  have hl5 : w.heap.size + 1 < w5.heap.size := by
    have := hb4.size
    have := hb5.size
    have := hA3.size
    omega
  exact bodyPost_ret (res33 _ _ (w.heap.size + 1) _ _ _ _ _ rfl rfl z0 z1 z2 z3) rfl ⟨D, Pp, Qq, rfl, hbf, hT.ti.keep k14 (by omega) (by omega)⟩
set_option maxHeartbeats 8000000 in
set_option maxRecDepth 100000 in
theorem hopsRun_awake {w : World} {v lv pv : Value} (h : GA w v lv pv) (hTab : Bs.TabW w) : Calls Tryz.prog 29 #[.agg #[v, lv, pv], .int .i64 1] w fun e w' =>
    ∃ g1 c1 hh g2 c2, e = .returned (.tuple #[.agg #[.int .i64 1, .slice (some ⟨g1, 0, none⟩) 128 c1, .slice (some ⟨g2, 0, none⟩) 128 c2, sl128 hh], .int .i64 0]) ∧ Below w.heap.size w w' ∧ w'.cell? ⟨g1, 2, none⟩ = some (.int .i64 1) ∧ w'.cell? ⟨hh, 4, none⟩ = some (.int .u64 4) ∧ w'.cell? ⟨hh, 5, none⟩ = some (.int .u64 0) := by
  obtain ⟨xv, cv, rfl, _, _⟩ := h.n.form
  obtain ⟨xl, cl2, rfl, _, _⟩ := h.l.form
  obtain ⟨xp, cp, rfl, _, _⟩ := h.p.form
  go_enter Tryz.func29, Tryz.ntmps29
  go_wp2_with fail
  have hA1 := (Below.refl _ w).alloc (Nat.le_refl _) (.cells #[.slice xv 2 cv, .slice xl 1 cl2, .slice xp 1 cp] 57)
  have s1 : (w.alloc (.cells #[.slice xv 2 cv, .slice xl 1 cl2, .slice xp 1 cp] 57)).heap.size = w.heap.size + 1 := by simp
  generalize w.alloc _ = W1 at *
  have hA2 := (Below.refl _ W1).alloc (Nat.le_refl _) (.cells #[.int .i64 0, .slice none 0 0, .slice none 0 0, .slice none 0 0] 70)
  have rb := heap_alloc_new W1 (.cells #[.int .i64 0, .slice none 0 0, .slice none 0 0, .slice none 0 0] 70)
  generalize W1.alloc _ = W2 at *
  have h12 := hA1.trans (hA2.mono hA1.size)
  rw [s1] at rb
  have hG2 := h.below h12
  refine (fullRun_awake hG2).mono ?_
  rintro e w4 ⟨D, Pp, Qq, rfl, hb4, hT4⟩
  have rb4 := (hb4.block _ (Array.getElem?_eq_some_iff.1 rb).1).trans rb
  have hc4 := h12.trans (hb4.mono h12.size)
  have x0 := box_new w4 #[.int .i64 1, sl128 D, sl128 Pp, sl128 Qq] 70 0 _ rfl
  have x1 := box_new w4 #[.int .i64 1, sl128 D, sl128 Pp, sl128 Qq] 70 1 _ rfl
  have x2 := box_new w4 #[.int .i64 1, sl128 D, sl128 Pp, sl128 Qq] 70 2 _ rfl
  have x3 := box_new w4 #[.int .i64 1, sl128 D, sl128 Pp, sl128 Qq] 70 3 _ rfl
  have hA5 := (Below.refl _ w4).alloc (Nat.le_refl _) (.cells #[.int .i64 1, sl128 D, sl128 Pp, sl128 Qq] 70)
  go_wp2_with fail
  have hT5 := hT4.below hA5
  have hc5 := hc4.trans (hA5.mono hc4.size)
  have rb5 := (hA5.block _ (Array.getElem?_eq_some_iff.1 rb4).1).trans rb4
  generalize w4.alloc _ = w5 at *
  refine (fill_awake hT5 (hTab.below hc5)).mono ?_
  rintro e w6 ⟨g1, c1, hh, g2, c2, rfl, hb6, y2, y4, y5⟩
  have rb6 := (hb6.block _ (Array.getElem?_eq_some_iff.1 rb5).1).trans rb5
  have hc6 := hc5.trans (hb6.mono hc5.size)
  have n1 : g1 ≠ w.heap.size + 1 := by
    intro e
    subst e
    have := cell_at (i := 2) (v := .slice none 0 0) rb6 rfl
    rw [this] at y2
    cases y2
  have n2 : hh ≠ w.heap.size + 1 := by
    intro e
    subst e
    simp [World.cell?, rb6] at y4
  have m0 : w6.cell? ⟨w.heap.size + 1, 0, none⟩ = some (.int .i64 0) := cell_at rb6 rfl
  have m1 : w6.cell? ⟨w.heap.size + 1, 1, none⟩ = some (.slice none 0 0) := cell_at rb6 rfl
  have m2 : w6.cell? ⟨w.heap.size + 1, 2, none⟩ = some (.slice none 0 0) := cell_at rb6 rfl
  have m3 : w6.cell? ⟨w.heap.size + 1, 3, none⟩ = some (.slice none 0 0) := cell_at rb6 rfl
  have nf0 : w6.frozen? ⟨w.heap.size + 1, 0, none⟩ = false := free_at rb6
  have nf1 : w6.frozen? ⟨w.heap.size + 1, 1, none⟩ = false := free_at rb6
  have nf2 : w6.frozen? ⟨w.heap.size + 1, 2, none⟩ = false := free_at rb6
  have nf3 : w6.frozen? ⟨w.heap.size + 1, 3, none⟩ = false := free_at rb6
  clear rb rb4 rb5 rb6 x0 x1 x2 x3
  go_wp2_with fail
  obtain ⟨z0, z1, z2, z3⟩ := set4_cells (W := w6) (R := w.heap.size + 1) (.int .i64 1) (.slice (some ⟨g1, 0, none⟩) 128 c1) (.slice (some ⟨g2, 0, none⟩) 128 c2) (sl128 hh) (fun j hj => by
    have : j = 0 ∨ j = 1 ∨ j = 2 ∨ j = 3 := by omega
    rcases this with rfl | rfl | rfl | rfl
    · exact ⟨_, m0⟩
    · exact ⟨_, m1⟩
    · exact ⟨_, m2⟩
    · exact ⟨_, m3⟩)
  have k14 : Keep (fun i => i = w.heap.size + 1) w6 ((((w6.setCell ⟨w.heap.size + 1, 0, none⟩ (.int .i64 1)).setCell ⟨w.heap.size + 1, 1, none⟩ (.slice (some ⟨g1, 0, none⟩) 128 c1)).setCell ⟨w.heap.size + 1, 2, none⟩ (.slice (some ⟨g2, 0, none⟩) 128 c2)).setCell ⟨w.heap.size + 1, 3, none⟩ (sl128 hh)) :=
    ((((Keep.refl (fun i => i = w.heap.size + 1) w6).setCell ⟨w.heap.size + 1, 0, none⟩ _ (.inl rfl)).setCell ⟨w.heap.size + 1, 1, none⟩ _ (.inl rfl)).setCell ⟨w.heap.size + 1, 2, none⟩ _ (.inl rfl)).setCell ⟨w.heap.size + 1, 3, none⟩ _ (.inl rfl)
  have hle : w.heap.size ≤ w.heap.size + 1 := by omega
  have hbf := (((hc6.setCell (show w.heap.size ≤ (⟨w.heap.size + 1, 0, none⟩ : Addr).block from hle) (.int .i64 1)).setCell (show w.heap.size ≤ (⟨w.heap.size + 1, 1, none⟩ : Addr).block from hle) (.slice (some ⟨g1, 0, none⟩) 128 c1)).setCell (show w.heap.size ≤ (⟨w.heap.size + 1, 2, none⟩ : Addr).block from hle) (.slice (some ⟨g2, 0, none⟩) 128 c2)).setCell (show w.heap.size ≤ (⟨w.heap.size + 1, 3, none⟩ : Addr).block from hle) (sl128 hh)
  exact bodyPost_ret (res22 _ _ (w.heap.size + 1) _ _ _ _ _ rfl rfl z0 z1 z2 z3) rfl ⟨g1, c1, hh, g2, c2, rfl, hbf, k14.cell y2 n1, k14.cell y4 n2, k14.cell y5 n2⟩
end Go.Proofs.YtpebpfaecdmabaaGreatDoor
/- awake's graph: prefix.Table, its map of one entry. -/
namespace Go.Proofs.YtpebpfaecdmabaaGreatDoor
open Go.RowKit

/-- The key, and the zero route. -/
abbrev key8 : Value := .agg #[.int .u32 16777216, .int .i64 8]
abbrev route0 : Array Value := #[.int .u32 0, .int .i64 0, .int .i64 0, .int .u64 0, .int .u64 0, .int .u64 0, .int .u64 0]
theorem ck24 (em : Bool) (w : World) : (Instr.checkKey em 10000 25 key8).run Tryz.prog w = .ok () w := by cases em <;> kernel_rfl
theorem fk_nil (w : World) : (Instr.findKey 25 key8 []).run Tryz.prog w = .ok none w := by kernel_rfl
theorem zero34 (w : World) : (zeroValue 30).run Tryz.prog w = .ok (.agg route0) w := by kernel_rfl
theorem lookup0 {M : Nat} {w : World} (h : w.heap[M]? = some (.map #[] 0)) : (Instr.lookup 73 (.map (some M)) key8 true).run Tryz.prog w = .ok (.tuple #[.agg route0, .bool false]) w := by
  have hg : (getObj M).run Tryz.prog w = .ok (.map #[] 0) w := by simp [getObj, Sem.run, h]
  unfold Instr.lookup
  simp only [Sem.run_bind, run_underlying Tryz.underlying73, Result.andThen_ok, hg, ck24, fk_nil, Sem.run_pure, zero34]
  rfl
theorem update0 {M : Nat} {w : World} (v : Value) (h : w.heap[M]? = some (.map #[] 0)) : (Instr.mapUpdate 73 (.map (some M)) key8 v).run Tryz.prog w = .ok () { w with heap := w.heap.setIfInBounds M (.map #[{ key := key8, val := v, born := 0 }] 1) } := by
  have hg : (getObj M).run Tryz.prog w = .ok (.map #[] 0) w := by simp [getObj, Sem.run, h]
  unfold Instr.mapUpdate
  simp only [Sem.run_bind, run_underlying Tryz.underlying73, Result.andThen_ok, hg, ck24, fk_nil]
  simp [setObj, Sem.run, h]
end Go.Proofs.YtpebpfaecdmabaaGreatDoor
/- awake's graph: prefix.Table (under way). -/
namespace Go.Proofs.YtpebpfaecdmabaaGreatDoor
open Go.RowKit

theorem below_setBlock {B : Nat} {a w : World} (h : Below B a w) {k : Nat} (hk : B ≤ k) (o : Obj) : Below B a (ChangeMaps.setBlock w k o) :=
  h.trans ⟨rfl, rfl, rfl, by simp [ChangeMaps.setBlock], fun i hi => by
    show (w.heap.setIfInBounds k o)[i]? = w.heap[i]?
    rw [Array.getElem?_setIfInBounds_ne (by omega)]⟩
theorem setBlock_at {w : World} {k : Nat} {o o' : Obj} (h : w.heap[k]? = some o) : (ChangeMaps.setBlock w k o').heap[k]? = some o' := by
  show (w.heap.setIfInBounds k o')[k]? = _
  simp [(Array.getElem?_eq_some_iff.1 h).1]
theorem setBlock_ne {w : World} {k i : Nat} (o : Obj) (h : i ≠ k) : (ChangeMaps.setBlock w k o).heap[i]? = w.heap[i]? := by
  show (w.heap.setIfInBounds k o)[i]? = w.heap[i]?
  rw [Array.getElem?_setIfInBounds_ne (Ne.symm h)]
abbrev es8 : Array MapEntry := #[{ key := key8, val := .agg #[.int .u32 16777216, .int .i64 8, .int .i64 5, .int .u64 4, .int .u64 0, .int .u64 4, .int .u64 0], born := 0 }]
theorem wpList_entry {P : Program} {ops : Array Oper} {Q : Exit → Act → World → Prop} {o : Oper} {rest : List Oper} {a : Act} {w : World} {it : Operand} {v r : Value} (hg : o.guard = none) (hop : o.op = Op.entry it) (hit : a.eval it = v) (hr : (Instr.entry v).run P w = .ok r w) (hk : wpList P ops Q rest (a.put o.dst r) w) : wpList P ops Q (o :: rest) a w := by
  refine wpList_plain hg fun K' hK' => ?_
  unfold Oper.wp
  simp [execOp, hop, hit, hr, Result.andThen]
  exact hK' _ _ hk
theorem info34 : (Tryz.prog.info? 30).map (fun i => (i.zero, i.size, i.bytes)) = some (some (.agg route0), 7, 56) := by kernel_rfl
abbrev c7 : List Value := [.int .u32 16777216, .int .i64 8, .int .i64 5, .int .u64 4, .int .u64 0, .int .u64 4, .int .u64 0]
/-- The pin's cells at a box. -/
theorem sum14 (w : World) : Calls Tryz.prog 30 #[.int .i64 1, .int .i64 4] w fun e w' => e = .returned (.int .i64 5) ∧ w = w' := by
  refine (Ds.Sum_any 1 4 w).mono ?_
  rintro e w' ⟨rfl, h⟩
  rw [show Ds.sumI 1 4 = 5 by decide +kernel]
  exact ⟨rfl, h⟩
theorem with2 (w : World) : Calls Tryz.prog 31 #[.agg #[.int .u64 0, .int .u64 0], .int .i64 2] w fun e w' => e = .returned (.tuple #[.agg #[.int .u64 4, .int .u64 0], .int .i64 0]) ∧ Below w.heap.size w w' := by
  refine (Bs.With_any (0, 0) 2 w).mono ?_
  rintro e w' ⟨rfl, h⟩
  rw [show Bs.withR (0, 0) 2 = ((4, 0), 0) by decide +kernel]
  exact ⟨rfl, h⟩
/-- What Table's walk knows once the tree is there. -/
structure PS (w wr : World) (B T g1 c1 hh M : Nat) (lv : Value) : Prop where
  hb : Below w.heap.size w wr
  pv : wr.cell? ⟨B, 2, none⟩ = some lv
  t1 : wr.cell? ⟨T, 1, none⟩ = some (.slice (some ⟨g1, 0, none⟩) 128 c1)
  t3 : wr.cell? ⟨T, 3, none⟩ = some (sl128 hh)
  d : wr.cell? ⟨g1, 2, none⟩ = some (.int .i64 1)
  h4 : wr.cell? ⟨hh, 4, none⟩ = some (.int .u64 4)
  h5 : wr.cell? ⟨hh, 5, none⟩ = some (.int .u64 0)
  m : wr.heap[M]? = some (.map #[] 0)
  lo : w.heap.size ≤ M
theorem PS.below {w wr w2 : World} {B T g1 c1 hh M : Nat} {lv : Value} (h : PS w wr B T g1 c1 hh M lv) (b : Below wr.heap.size wr w2) : PS w w2 B T g1 c1 hh M lv := by
  have hx : ∀ {k i : Nat} {u : Value}, wr.cell? ⟨k, i, none⟩ = some u → w2.cell? ⟨k, i, none⟩ = some u := fun {k i u} e => (b.cell (World.block_lt_of_cell? _ _ e)).trans e
  exact ⟨h.hb.trans (b.mono h.hb.size), hx h.pv, hx h.t1, hx h.t3, hx h.d, hx h.h4, hx h.h5, (b.block _ (Array.getElem?_eq_some_iff.1 h.m).1).trans h.m, h.lo⟩
theorem PS.new {w w2 : World} {g1 c1 hh g2 c2 : Nat} {lv : Value} (hb : Below w.heap.size w w2) (k2 : w2.cell? ⟨w.heap.size, 2, none⟩ = some lv) (y2 : w2.cell? ⟨g1, 2, none⟩ = some (.int .i64 1)) (y4 : w2.cell? ⟨hh, 4, none⟩ = some (.int .u64 4)) (y5 : w2.cell? ⟨hh, 5, none⟩ = some (.int .u64 0)) :
    PS w ((w2.alloc (.cells #[.int .i64 1, .slice (some ⟨g1, 0, none⟩) 128 c1, .slice (some ⟨g2, 0, none⟩) 128 c2, sl128 hh] 70)).alloc (.map #[] 0)) w.heap.size w2.heap.size g1 c1 hh (w2.heap.size + 1) lv := by
  have hA := (Below.refl _ w2).alloc (Nat.le_refl _) (.cells #[.int .i64 1, .slice (some ⟨g1, 0, none⟩) 128 c1, .slice (some ⟨g2, 0, none⟩) 128 c2, sl128 hh] 70)
  have s1 : (w2.alloc (.cells #[.int .i64 1, .slice (some ⟨g1, 0, none⟩) 128 c1, .slice (some ⟨g2, 0, none⟩) 128 c2, sl128 hh] 70)).heap.size = w2.heap.size + 1 := by simp
  have t1 := box_new w2 #[.int .i64 1, .slice (some ⟨g1, 0, none⟩) 128 c1, .slice (some ⟨g2, 0, none⟩) 128 c2, sl128 hh] 70 1 _ rfl
  have t3 := box_new w2 #[.int .i64 1, .slice (some ⟨g1, 0, none⟩) 128 c1, .slice (some ⟨g2, 0, none⟩) 128 c2, sl128 hh] 70 3 _ rfl
  generalize w2.alloc _ = W1 at *
  have hA2 := (Below.refl _ W1).alloc (Nat.le_refl _) (.map #[] 0)
  have m := heap_alloc_new W1 (.map #[] 0)
  rw [s1] at m
  have h12 := hA.trans (hA2.mono hA.size)
  have hx : ∀ {k i : Nat} {u : Value}, w2.cell? ⟨k, i, none⟩ = some u → (W1.alloc (.map #[] 0)).cell? ⟨k, i, none⟩ = some u := fun {k i u} e => (h12.cell (World.block_lt_of_cell? _ _ e)).trans e
  have hx1 : ∀ {k i : Nat} {u : Value}, W1.cell? ⟨k, i, none⟩ = some u → (W1.alloc (.map #[] 0)).cell? ⟨k, i, none⟩ = some u := fun {k i u} e => (hA2.cell (World.block_lt_of_cell? _ _ e)).trans e
  exact ⟨hb.trans (h12.mono hb.size), hx k2, hx1 t1, hx1 t3, hx y2, hx y4, hx y5, m, by have := hb.size; omega⟩
set_option maxHeartbeats 8000000 in
set_option maxRecDepth 100000 in
theorem Table_awake {w : World} {v lv pv : Value} (h : GA w v lv pv) (hTab : Bs.TabW w) : Calls Tryz.prog 19 #[.agg #[v, lv, pv], .int .i64 1] w fun e w' =>
    ∃ g cap, e = .returned (.tuple #[.slice (some ⟨g, 0, none⟩) 1 cap, .int .i64 0]) ∧ Below w.heap.size w w' ∧ w'.cell? ⟨g, 2, none⟩ = some (.int .i64 5) := by
  obtain ⟨xv, cv, rfl, _, _⟩ := h.n.form
  obtain ⟨xl, cl2, rfl, _, _⟩ := h.l.form
  obtain ⟨xp, cp, rfl, _, hcp⟩ := h.p.form
  have hmm := @run_makeMap Tryz.prog
  have hA1 := (Below.refl _ w).alloc (Nat.le_refl _) (.cells #[.slice xv 2 cv, .slice xl 1 cl2, .slice xp 1 cp] 57)
  have b0 := box_new w #[.slice xv 2 cv, .slice xl 1 cl2, .slice xp 1 cp] 57 0 _ rfl
  have b1 := box_new w #[.slice xv 2 cv, .slice xl 1 cl2, .slice xp 1 cp] 57 1 _ rfl
  have b2 := box_new w #[.slice xv 2 cv, .slice xl 1 cl2, .slice xp 1 cp] 57 2 _ rfl
  go_enter Tryz.func19, Tryz.ntmps19
  go_wp2_with fail
  generalize w.alloc _ = W1 at *
  refine (hopsRun_awake (h.below hA1) (hTab.below hA1)).mono ?_
  rintro e w2 ⟨g1, c1, hh, g2, c2, rfl, hb2, y2, y4, y5⟩
  have k2 := (hb2.cell (World.block_lt_of_cell? _ _ b2)).trans b2
  have zb : w.heap.size < w2.heap.size := World.block_lt_of_cell? _ _ k2
  clear b0 b1 b2
  go_wp2_with fail
  have hP := PS.new (c1 := c1) (g2 := g2) (c2 := c2) (hA1.trans (hb2.mono hA1.size)) k2 y2 y4 y5
  clear k2 y2 y4 y5 zb hb2
  generalize w2.heap.size = T at *
  generalize (w2.alloc _).alloc _ = w3 at *
  refine wp_loop_rounds 2 ?_
  rw [rounds_succ]
  obtain ⟨pb, po, rfl, l0, l1, l2, l3⟩ := four_cells (hcp.below hP.hb)
  have hB := (Below.refl _ w3).alloc (Nat.le_refl _) (.cells #[.int .u32 16777216, .int .i64 8, .int .i64 2, .int .i64 4] 54)
  have hP4 := hP.below hB
  have c0 := box_new w3 #[.int .u32 16777216, .int .i64 8, .int .i64 2, .int .i64 4] 54 0 _ rfl
  have c1' := box_new w3 #[.int .u32 16777216, .int .i64 8, .int .i64 2, .int .i64 4] 54 1 _ rfl
  have c2' := box_new w3 #[.int .u32 16777216, .int .i64 8, .int .i64 2, .int .i64 4] 54 2 _ rfl
  have c3 := box_new w3 #[.int .u32 16777216, .int .i64 8, .int .i64 2, .int .i64 4] 54 3 _ rfl
  have t1 := hP4.t1
  have dd := hP4.d
  go_wp2_with fail
  clear hP l0 l1 l2 l3
  generalize w3.heap.size = K at *
  generalize w3.alloc _ = w4 at *
  go_quiet ((first | (go_at_call 30; exact quiet_same (sum14 _))))
  have hP5 := hP4.below (below_drewN (Below.refl _ _) nq)
  have d0 : (w4.drewN nq).cell? ⟨K, 0, none⟩ = some (.int .u32 16777216) := c0
  have d1 : (w4.drewN nq).cell? ⟨K, 1, none⟩ = some (.int .i64 8) := c1'
  have d2 : (w4.drewN nq).cell? ⟨K, 2, none⟩ = some (.int .i64 2) := c2'
  have d3 : (w4.drewN nq).cell? ⟨K, 3, none⟩ = some (.int .i64 4) := c3
  clear hP4 c0 c1' c2' c3 t1 dd hB
  generalize w4.drewN nq = w5 at *
  have hl := lookup0 hP5.m
  have zK : K < w5.heap.size := World.block_lt_of_cell? _ _ d0
  go_upto_region 14 with fail
  clear hl
  have hA6 := (Below.refl _ w5).alloc (Nat.le_refl _) (.cells #[.int .u32 16777216, .int .i64 8, .int .i64 5, .int .u64 0, .int .u64 0, .int .u64 0, .int .u64 0] 30)
  have rb := heap_alloc_new w5 (.cells #[.int .u32 16777216, .int .i64 8, .int .i64 5, .int .u64 0, .int .u64 0, .int .u64 0, .int .u64 0] 30)
  go_wp2_with (go_at_call 31; refine (with2 _).mono ?_; rintro e w7 ⟨rfl, hb7⟩; have rb7 := (hb7.block _ (Array.getElem?_eq_some_iff.1 rb).1).trans rb; have r3 : w7.cell? ⟨w5.heap.size, 3, none⟩ = some (.int .u64 0) := cell_at rb7 rfl; have r4 : w7.cell? ⟨w5.heap.size, 4, none⟩ = some (.int .u64 0) := cell_at rb7 rfl; have rf3 : w7.frozen? ⟨w5.heap.size, 3, none⟩ = false := free_at rb7; have rf4 : w7.frozen? ⟨w5.heap.size, 4, none⟩ = false := free_at rb7; have r4' := (World.cell?_setCell_other w7 ⟨w5.heap.size, 3, none⟩ ⟨w5.heap.size, 4, none⟩ (.int .u64 4) (by simp)).trans r4)
  have rb8 : ((w7.setCell ⟨w5.heap.size, 3, none⟩ (.int .u64 4)).setCell ⟨w5.heap.size, 4, none⟩ (.int .u64 0)).heap[w5.heap.size]? = some (.cells #[.int .u32 16777216, .int .i64 8, .int .i64 5, .int .u64 4, .int .u64 0, .int .u64 0, .int .u64 0] 30 (0, 0)) := by
    rw [It.heap_setCell_at _ _ _ _ _ _ _ (It.heap_setCell_at _ _ _ _ _ _ _ rb7)]
    rfl
  have hb8 : Below w5.heap.size w5 ((w7.setCell ⟨w5.heap.size, 3, none⟩ (.int .u64 4)).setCell ⟨w5.heap.size, 4, none⟩ (.int .u64 0)) := ((hA6.trans (hb7.mono hA6.size)).setCell (show w5.heap.size ≤ w5.heap.size from Nat.le_refl _) _ (p := ⟨w5.heap.size, 3, none⟩)).setCell (show w5.heap.size ≤ w5.heap.size from Nat.le_refl _) _ (p := ⟨w5.heap.size, 4, none⟩)
  have hP8 := hP5.below hb8
  have d2' := (hb8.cell (p := ⟨K, 2, none⟩) zK).trans d2
  have d0' := (hb8.cell (p := ⟨K, 0, none⟩) zK).trans d0
  have d1' := (hb8.cell (p := ⟨K, 1, none⟩) zK).trans d1
  clear rb rb7 r3 r4 rf3 rf4 r4' hb7 hA6 d2 d3
  generalize hRb : w5.heap.size = Rb at *
  generalize (w7.setCell ⟨Rb, 3, none⟩ (.int .u64 4)).setCell ⟨Rb, 4, none⟩ (.int .u64 0) = w8 at *
  have x5 : ∀ m : ExtW w8, (exw m).cell? ⟨Rb, 5, none⟩ = some (.int .u64 0) := exw_cell (cell_at rb8 rfl)
  have x6 : ∀ m : ExtW w8, (exw m).cell? ⟨Rb, 6, none⟩ = some (.int .u64 0) := exw_cell (cell_at rb8 rfl)
  have xk : ∀ m : ExtW w8, (exw m).cell? ⟨K, 2, none⟩ = some (.int .i64 2) := exw_cell d2'
  have xt : ∀ m : ExtW w8, (exw m).cell? ⟨T, 3, none⟩ = some (sl128 hh) := exw_cell hP8.t3
  have x4 : ∀ m : ExtW w8, (exw m).cell? ⟨hh, 4, none⟩ = some (.int .u64 4) := exw_cell hP8.h4
  have x7 : ∀ m : ExtW w8, (exw m).cell? ⟨hh, 5, none⟩ = some (.int .u64 0) := exw_cell hP8.h5
  refine region_ext_tail 9 (by kernel_rfl) (by kernel_rfl) ?_
  simp only [List.take_succ_cons, List.take_zero, List.drop_succ_cons, List.drop_zero]
  repeat (go_big_quiet_step (first | (go_at_call 32; exact ext_call (or25 _))))
  refine wpQuiet_nil ?_
  rintro wz ⟨m, rfl⟩
  clear x5 x6 xk xt x4 x7
  have hb9 : Below w8.heap.size w8 (exw m) := exw_below m
  have zR : Rb < w8.heap.size := (Array.getElem?_eq_some_iff.1 rb8).1
  have rb9 := (hb9.block _ zR).trans rb8
  have hb9' := hb8.trans (hb9.mono (Nat.le_of_lt zR))
  clear d0' d1' d2' rb8 hP8 zR hb9 hb8
  generalize exw m = w9 at *
  have r5 : w9.cell? ⟨Rb, 5, none⟩ = some (.int .u64 0) := cell_at rb9 rfl
  have rf5 : w9.frozen? ⟨Rb, 5, none⟩ = false := free_at rb9
  have r6 : w9.cell? ⟨Rb, 6, none⟩ = some (.int .u64 0) := cell_at rb9 rfl
  have rf6 : w9.frozen? ⟨Rb, 6, none⟩ = false := free_at rb9
  go_upto_region 16 with fail
  have rbA : ((w9.setCell ⟨Rb, 5, none⟩ (.int .u64 4)).setCell ⟨Rb, 6, none⟩ (.int .u64 0)).heap[Rb]? = some (.cells #[.int .u32 16777216, .int .i64 8, .int .i64 5, .int .u64 4, .int .u64 0, .int .u64 4, .int .u64 0] 30 (0, 0)) := by
    rw [It.heap_setCell_at _ _ _ _ _ _ _ (It.heap_setCell_at _ _ _ _ _ _ _ rb9)]
    rfl
  have hbA : Below Rb w5 ((w9.setCell ⟨Rb, 5, none⟩ (.int .u64 4)).setCell ⟨Rb, 6, none⟩ (.int .u64 0)) := (hb9'.setCell (show Rb ≤ Rb from Nat.le_refl _) _ (p := ⟨Rb, 5, none⟩)).setCell (show Rb ≤ Rb from Nat.le_refl _) _ (p := ⟨Rb, 6, none⟩)
  clear r5 rf5 r6 rf6 rb9 hb9'
  generalize (w9.setCell ⟨Rb, 5, none⟩ (.int .u64 4)).setCell ⟨Rb, 6, none⟩ (.int .u64 0) = wA at *
  subst hRb
  have hPA := hP5.below hbA
  have e0 := (hbA.cell (p := ⟨K, 0, none⟩) zK).trans d0
  have e1 := (hbA.cell (p := ⟨K, 1, none⟩) zK).trans d1
  clear d0 d1 hP5 hbA zK
  generalize w5.heap.size = Rb at *
  have q0 : wA.cell? ⟨Rb, 0, none⟩ = some (.int .u32 16777216) := cell_at rbA rfl
  have q1 : wA.cell? ⟨Rb, 1, none⟩ = some (.int .i64 8) := cell_at rbA rfl
  have q2 : wA.cell? ⟨Rb, 2, none⟩ = some (.int .i64 5) := cell_at rbA rfl
  have q3 : wA.cell? ⟨Rb, 3, none⟩ = some (.int .u64 4) := cell_at rbA rfl
  have q4 : wA.cell? ⟨Rb, 4, none⟩ = some (.int .u64 0) := cell_at rbA rfl
  have q5 : wA.cell? ⟨Rb, 5, none⟩ = some (.int .u64 4) := cell_at rbA rfl
  have q6 : wA.cell? ⟨Rb, 6, none⟩ = some (.int .u64 0) := cell_at rbA rfl
  have hu := update0 (.agg #[.int .u32 16777216, .int .i64 8, .int .i64 5, .int .u64 4, .int .u64 0, .int .u64 4, .int .u64 0]) hPA.m
  go_upto_region 6 with fail
  have mB : (ChangeMaps.setBlock wA (T + 1) (.map es8 1)).heap[T + 1]? = some (.map es8 1) := setBlock_at hPA.m
  have hbB : Below w.heap.size w (ChangeMaps.setBlock wA (T + 1) (.map es8 1)) := below_setBlock hPA.hb hPA.lo _
  clear hu q0 q1 q2 q3 q4 q5 q6 rbA e0 e1 hPA
  show Code.rounds _ _ _ _ _ (ChangeMaps.setBlock wA (T + 1) (.map es8 1))
  generalize ChangeMaps.setBlock wA (T + 1) (.map es8 1) = wB at *
  rw [rounds_succ]
  have hr := run_range_map (P := Tryz.prog) wB 73 25 30 (T + 1) _ _ Tryz.underlying73 mB
  go_upto_region 20 with fail
  clear hr
  have hbC := hbB.alloc hbB.size (.mapIter (some (T + 1)) 1 #[] 1)
  have iC := heap_alloc_new wB (.mapIter (some (T + 1)) 1 #[] 1)
  have mC := (((Below.refl _ wB).alloc (Nat.le_refl _) (.mapIter (some (T + 1)) 1 #[] 1)).block _ (Array.getElem?_eq_some_iff.1 mB).1).trans mB
  have zI := hbB.size
  have zT : T + 1 < wB.heap.size := (Array.getElem?_eq_some_iff.1 mB).1
  generalize wB.alloc _ = wC at *
  refine wp_loop_rounds 2 ?_
  rw [rounds_succ]
  rcases run_next_at (P := Tryz.prog) wC 0 wB.heap.size (T + 1) 1 1 #[] es8 1 iC mC (by decide) (Nat.le_refl _) with ⟨hz, _⟩ | ⟨e, he, w1, hw1, hn⟩
  · exact absurd hz (by simp [leftOf])
  obtain rfl : e = es8[0] := by simpa [leftOf] using he
  go_upto_region 21 with fail
  have hbD : Below w.heap.size w (ChangeMaps.setBlock w1 wB.heap.size (.mapIter (some (T + 1)) 1 #[0] 1)) := below_setBlock (by rcases hw1 with rfl | rfl; exact hbC; exact hbC.drew) zI _
  have iD : (ChangeMaps.setBlock w1 wB.heap.size (.mapIter (some (T + 1)) 1 #[0] 1)).heap[wB.heap.size]? = some (.mapIter (some (T + 1)) 1 #[0] 1) := setBlock_at (by rcases hw1 with rfl | rfl <;> exact iC)
  have mD : (ChangeMaps.setBlock w1 wB.heap.size (.mapIter (some (T + 1)) 1 #[0] 1)).heap[T + 1]? = some (.map es8 1) := (setBlock_ne _ (Nat.ne_of_lt zT)).trans (by rcases hw1 with rfl | rfl <;> exact mC)
  clear hn hw1 he hbC iC mC
  generalize ChangeMaps.setBlock w1 wB.heap.size _ = wD at *
  have hent : (Instr.entry (.pointer (some ⟨wB.heap.size, 0, none⟩))).run Tryz.prog wD = .ok (.tuple #[key8, .agg #[.int .u32 16777216, .int .i64 8, .int .i64 5, .int .u64 4, .int .u64 0, .int .u64 4, .int .u64 0]]) wD := run_entry_at (P := Tryz.prog) wD wB.heap.size (T + 1) 1 #[] es8 1 es8[0] iD mD (by simp) (by simp)
  go_upto_region 22 with fail
  have hbE := hbD.alloc hbD.size (.cells #[.int .u32 16777216, .int .i64 8, .int .i64 5, .int .u64 4, .int .u64 0, .int .u64 4, .int .u64 0] 30)
  have q0 := box_new wD #[.int .u32 16777216, .int .i64 8, .int .i64 5, .int .u64 4, .int .u64 0, .int .u64 4, .int .u64 0] 30 0 _ rfl
  have q1 := box_new wD #[.int .u32 16777216, .int .i64 8, .int .i64 5, .int .u64 4, .int .u64 0, .int .u64 4, .int .u64 0] 30 1 _ rfl
  have q2 := box_new wD #[.int .u32 16777216, .int .i64 8, .int .i64 5, .int .u64 4, .int .u64 0, .int .u64 4, .int .u64 0] 30 2 _ rfl
  have q3 := box_new wD #[.int .u32 16777216, .int .i64 8, .int .i64 5, .int .u64 4, .int .u64 0, .int .u64 4, .int .u64 0] 30 3 _ rfl
  have q4 := box_new wD #[.int .u32 16777216, .int .i64 8, .int .i64 5, .int .u64 4, .int .u64 0, .int .u64 4, .int .u64 0] 30 4 _ rfl
  have q5 := box_new wD #[.int .u32 16777216, .int .i64 8, .int .i64 5, .int .u64 4, .int .u64 0, .int .u64 4, .int .u64 0] 30 5 _ rfl
  have q6 := box_new wD #[.int .u32 16777216, .int .i64 8, .int .i64 5, .int .u64 4, .int .u64 0, .int .u64 4, .int .u64 0] 30 6 _ rfl
  have kE : Below wD.heap.size wD _ := (Below.refl _ wD).alloc (Nat.le_refl _) (.cells #[.int .u32 16777216, .int .i64 8, .int .i64 5, .int .u64 4, .int .u64 0, .int .u64 4, .int .u64 0] 30)
  have iE := (kE.block _ (Array.getElem?_eq_some_iff.1 iD).1).trans iD
  have mE := (kE.block _ (Array.getElem?_eq_some_iff.1 mD).1).trans mD
  clear kE iD mD hent
  generalize wD.heap.size = Q at *
  generalize wD.alloc _ = wE at *
  have hsl : SlR (wE.alloc (.cells #[.int .u32 16777216, .int .i64 8, .int .i64 5, .int .u64 4, .int .u64 0, .int .u64 4, .int .u64 0] 30)) 7 (.slice (some ⟨wE.heap.size, 0, none⟩) 1 1) 1 c7 :=
    SlR.of_owns (World.ownsRow_lit (base := 0) (e := 30) (size := 7) wE #[.int .u32 16777216, .int .i64 8, .int .i64 5, .int .u64 4, .int .u64 0, .int .u64 4, .int .u64 0] 1 (Nat.zero_le _) (by simp [maxLen]) rfl)
  have hnil : wE.ownsRow w.heap.size 30 7 (.slice none 0 0) 0 [] := World.ownsRow_nil _ _ _ _
  go_upto_region 20 with (at_builtin; refine wpList_append_sl rfl _ _ 22 30 rfl w.heap.size (.agg route0) 7 56 (by kernel_rfl) info34 rfl (by decide) (by decide) _ 0 [] rfl (hnil.alloc _) _ 1 c7 rfl hsl (by decide) (by omega) (by have := hbE.size; simp; omega) ?_; intro v1 w1 hown1 hg1 hat1)
  obtain ⟨g, cap, rfl, hg, hgl⟩ := own_slice (by omega) hown1
  have hkF : Below wE.heap.size wE w1 := app_below rfl hg1
  have hbF : Below w.heap.size w w1 := hbE.trans (hkF.mono hbE.size)
  have iF := (hkF.block _ (Array.getElem?_eq_some_iff.1 iE).1).trans iE
  have mF := (hkF.block _ (Array.getElem?_eq_some_iff.1 mE).1).trans mE
  rw [Nat.zero_add, List.nil_append] at hown1
  have hsF : SlR w1 7 _ 1 c7 := SlR.of_owns hown1
  clear hg1 hat1 hkF hbE iE mE hsl hnil q0 q1 q2 q3 q4 q5 q6
  rw [rounds_succ]
  rcases run_next_at (P := Tryz.prog) w1 0 wB.heap.size (T + 1) 1 1 #[0] es8 1 iF mF (by decide) (Nat.le_refl _) with ⟨_, hn⟩ | ⟨e, he, _⟩
  case inr => simp [leftOf] at he
  go_wp2_with (go_at_call 33; refine (sort26 _ _ _ _).mono ?_; rintro e w2 ⟨rfl, rfl⟩)
  go_ret2
  refine ⟨g, cap, rfl, hbF, ?_⟩
  obtain ⟨_, _, a0, cap0, he0, _, hc0⟩ := hsF
  injection he0 with he1 _ he3
  subst he1
  subst he3
  rcases hc0 with hc0 | ⟨bb, oo, hc0, hcc⟩
  · cases hc0
  injection hc0 with hc0
  injection hc0 with hb ho
  subst hb
  subst ho
  have := hcc 2 (.int .i64 5) rfl
  rwa [Nat.zero_add] at this
end Go.Proofs.YtpebpfaecdmabaaGreatDoor
/- awake of the laws of layer 12. -/
namespace Go.Proofs.YtpebpfaecdmabaaGreatDoor
open Go.RowKit

theorem sl_new (w : World) (cs : Array Value) (t : TypeId) (sz n : Nat) (h : cs.size = n * sz) (hn : n ≤ 1000) : SlR (w.alloc (.cells cs t)) sz (.slice (some ⟨w.heap.size, 0, none⟩) n n) n cs.toList := by
  refine ⟨by simpa using h, by unfold maxLen; omega, _, _, rfl, by simp, .inr ⟨_, _, rfl, fun j u hu => ?_⟩⟩
  rw [Nat.zero_add]
  exact box_new w cs t j u (by simpa using hu)
theorem GA.new (w : World) :
    GA (((w.alloc (.cells #[.int .i64 1, .bool false, .complex .f64 0 0, .int .i64 2, .bool false, .complex .f64 0 0] 48)).alloc (.cells #[.int .i64 1, .int .i64 2, .int .i64 1, .int .i64 0] 51)).alloc (.cells #[.int .u32 16777216, .int .i64 8, .int .i64 2, .int .i64 4] 54))
      (.slice (some ⟨w.heap.size, 0, none⟩) 2 2) (.slice (some ⟨w.heap.size + 1, 0, none⟩) 1 1) (.slice (some ⟨w.heap.size + 1 + 1, 0, none⟩) 1 1) := by
  have n1 := sl_new w #[.int .i64 1, .bool false, .complex .f64 0 0, .int .i64 2, .bool false, .complex .f64 0 0] 48 3 2 rfl (by decide)
  have s1 : (w.alloc (.cells #[.int .i64 1, .bool false, .complex .f64 0 0, .int .i64 2, .bool false, .complex .f64 0 0] 48)).heap.size = w.heap.size + 1 := by simp
  generalize w.alloc (.cells #[.int .i64 1, .bool false, .complex .f64 0 0, .int .i64 2, .bool false, .complex .f64 0 0] 48) = W1 at *
  have n2 := sl_new W1 #[.int .i64 1, .int .i64 2, .int .i64 1, .int .i64 0] 51 4 1 rfl (by decide)
  have b2 := (Below.refl _ W1).alloc (Nat.le_refl _) (.cells #[.int .i64 1, .int .i64 2, .int .i64 1, .int .i64 0] 51)
  have s2 : (W1.alloc (.cells #[.int .i64 1, .int .i64 2, .int .i64 1, .int .i64 0] 51)).heap.size = W1.heap.size + 1 := by simp
  generalize W1.alloc (.cells #[.int .i64 1, .int .i64 2, .int .i64 1, .int .i64 0] 51) = W2 at *
  have n3 := sl_new W2 #[.int .u32 16777216, .int .i64 8, .int .i64 2, .int .i64 4] 54 4 1 rfl (by decide)
  have b3 := (Below.refl _ W2).alloc (Nat.le_refl _) (.cells #[.int .u32 16777216, .int .i64 8, .int .i64 2, .int .i64 4] 54)
  rw [s2] at n3
  rw [s1] at n2 n3
  exact ⟨(n1.below b2).below b3, n2.below b3, n3⟩
set_option maxHeartbeats 4000000 in
set_option maxRecDepth 100000 in
theorem awake_true (w : World) (hTab : Bs.TabW w) : Calls Tryz.prog 8 #[] w fun e w' => e = .returned (.bool true) ∧ Below w.heap.size w w' := by
  go_enter Tryz.func8, Tryz.ntmps8
  go_upto_region 2 with fail
  have hG := GA.new w
  have hB := (((Below.refl _ w).alloc (Nat.le_refl _) (.cells #[.int .i64 1, .bool false, .complex .f64 0 0, .int .i64 2, .bool false, .complex .f64 0 0] 48)).alloc (by simp) (.cells #[.int .i64 1, .int .i64 2, .int .i64 1, .int .i64 0] 51)).alloc (by simp; omega) (.cells #[.int .u32 16777216, .int .i64 8, .int .i64 2, .int .i64 4] 54)
  have s3 : (((w.alloc (.cells #[.int .i64 1, .bool false, .complex .f64 0 0, .int .i64 2, .bool false, .complex .f64 0 0] 48)).alloc (.cells #[.int .i64 1, .int .i64 2, .int .i64 1, .int .i64 0] 51)).alloc (.cells #[.int .u32 16777216, .int .i64 8, .int .i64 2, .int .i64 4] 54)).heap.size = w.heap.size + 1 + 1 + 1 := by simp
  generalize ((w.alloc (.cells #[.int .i64 1, .bool false, .complex .f64 0 0, .int .i64 2, .bool false, .complex .f64 0 0] 48)).alloc (.cells #[.int .i64 1, .int .i64 2, .int .i64 1, .int .i64 0] 51)).alloc (.cells #[.int .u32 16777216, .int .i64 8, .int .i64 2, .int .i64 4] 54) = W1 at *
  rw [← s3]
  generalize Value.slice (some ⟨w.heap.size, 0, none⟩) 2 2 = v1 at *
  generalize Value.slice (some ⟨w.heap.size + 1, 0, none⟩) 1 1 = v2 at *
  generalize Value.slice (some ⟨w.heap.size + 1 + 1, 0, none⟩) 1 1 = v3 at *
  clear s3
  have b0 := box_new W1 #[v1, v2, v3] 57 0 _ rfl
  have b1 := box_new W1 #[v1, v2, v3] 57 1 _ rfl
  have b2 := box_new W1 #[v1, v2, v3] 57 2 _ rfl
  have hB1 := (Below.refl _ W1).alloc (Nat.le_refl _) (.cells #[v1, v2, v3] 57)
  have hG1 := hG.below hB1
  have hT1 := hTab.below (hB.trans (hB1.mono hB.size))
  have hBB := hB.trans (hB1.mono hB.size)
  clear hB hB1 hG hTab
  generalize W1.alloc _ = W2 at *
  obtain ⟨xv, cv, e1, _, _⟩ := hG1.n.form
  replace e1 : v1 = .slice xv 2 cv := e1
  subst e1
  obtain ⟨xl, cl2, rfl, _, _⟩ := hG1.l.form
  obtain ⟨xp, cp, rfl, _, _⟩ := hG1.p.form
  go_wp2_with (go_at_call 19; refine (Table_awake hG1 hT1).mono ?_; rintro e w3 ⟨g, cap, rfl, hb3, hc⟩)
  go_ret
  exact ⟨rfl, hBB.trans (hb3.mono hBB.size)⟩
end Go.Proofs.YtpebpfaecdmabaaGreatDoor
