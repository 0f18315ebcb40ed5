/- Parts of this proof, joined. -/
import Derived.Test.YtpebpfaecdmabaaGreatDoorZF00
/- awake's graph: the small tests at its numbers. -/
namespace Go.Proofs.YtpebpfaecdmabaaGreatDoor
open Go.RowKit

theorem box_at (w : World) (cs : Array Value) (t : TypeId) (i : Nat) (v : Value) (h : cs[i]? = some v) : (w.alloc (.cells cs t)).cell? ⟨w.heap.size, i, none⟩ = some v := by
  have h1 := heap_alloc_new w (.cells cs t)
  simp only [World.cell?, h1]
  exact h
theorem costOk_one (w : World) : Calls Tryz.prog 98 #[.int .i64 1] w fun e w' => e = .returned (.bool true) ∧ w = w' := by
  go_enter Tryz.func98, Tryz.ntmps98
  go_wp2_with fail
  go_ret
  exact ⟨rfl, rfl⟩
theorem delayOk_zero (w : World) : Calls Tryz.prog 99 #[.int .i64 0] w fun e w' => e = .returned (.bool true) ∧ w = w' := by
  go_enter Tryz.func99, Tryz.ntmps99
  go_wp2_with fail
  go_ret
  exact ⟨rfl, rfl⟩
theorem metricOk_four (w : World) : Calls Tryz.prog 102 #[.int .i64 4] w fun e w' => e = .returned (.bool true) ∧ w = w' := by
  go_enter Tryz.func102, Tryz.ntmps102
  go_wp2_with fail
  go_ret
  exact ⟨rfl, rfl⟩
theorem mask_eight (w : World) : Calls Tryz.prog 106 #[.int .i64 8] w fun e w' => e = .returned (.int .u32 4278190080) ∧ w = w' := by
  go_enter Tryz.func106, Tryz.ntmps106
  go_wp2_with fail
  go_ret
  exact ⟨rfl, rfl⟩
set_option maxHeartbeats 2000000 in
theorem prefixOk_awake (w : World) : Calls Tryz.prog 101 #[.agg #[.int .u32 16777216, .int .i64 8]] w fun e w' => e = .returned (.bool true) ∧ Below w.heap.size w w' := by
  go_enter Tryz.func101, Tryz.ntmps101
  go_wp2_with fail
  have c0 := box_at w #[.int .u32 16777216, .int .i64 8] 25 0 _ rfl
  have c1 := box_at w #[.int .u32 16777216, .int .i64 8] 25 1 _ rfl
  have hb := (Below.refl _ w).alloc (Nat.le_refl _) (.cells #[.int .u32 16777216, .int .i64 8] 25)
  generalize w.alloc _ = W1 at *
  have x0 : ∀ m : ExtW W1, (exw m).cell? ⟨w.heap.size, 0, none⟩ = some (.int .u32 16777216) := exw_cell c0
  have x1 : ∀ m : ExtW W1, (exw m).cell? ⟨w.heap.size, 1, none⟩ = some (.int .i64 8) := exw_cell c1
  refine region_ext (by kernel_rfl) (by kernel_rfl) ?_
  repeat (go_big_quiet_step (first | (go_at_call 106; exact ext_same (mask_eight _))))
  refine wpQuiet_nil ?_
  rintro w3 ⟨m, rfl⟩
  go_wp2_with fail
  go_ret
  exact ⟨rfl, hb.trans ((exw_below m).mono hb.size)⟩
end Go.Proofs.YtpebpfaecdmabaaGreatDoor
/- Graphs of nodes alone: Check. -/
namespace Go.Proofs.YtpebpfaecdmabaaGreatDoor
open Go.RowKit

/-- Rising numbers of nodes. -/
def Asc (ids : List Nat) : Prop := (∀ x ∈ ids, x < 128) ∧ ids.Pairwise (· < ·)
theorem Asc.lt {ids : List Nat} (h : Asc ids) {i j : Nat} (hi : i < ids.length) (hj : j < ids.length) (hij : i < j) : ids[i] < ids[j] := List.pairwise_iff_getElem.1 h.2 i j hi hj hij
theorem Asc.ge {ids : List Nat} (h : Asc ids) : ∀ (i : Nat) (hi : i < ids.length), i ≤ ids[i] := by
  intro i
  induction i with
  | zero => intro hi; omega
  | succ i ih =>
    intro hi
    have h1 := ih (by omega)
    have h2 := h.lt (i := i) (j := i + 1) (by omega) hi (by omega)
    omega
theorem Asc.len {ids : List Nat} (h : Asc ids) : ids.length ≤ 128 := by
  rcases Nat.eq_zero_or_pos ids.length with e | e
  · omega
  · have h1 := h.ge (ids.length - 1) (by omega)
    have h2 := h.1 _ (List.getElem_mem (show ids.length - 1 < ids.length by omega))
    omega
/-- What lies while Check goes over the nodes: the graph's box B, the table T of numbers. -/
structure CkA (w wr : World) (B T : Nat) (v lv pv : Value) (D : Nat → Prop) : Prop where
  hb : Below w.heap.size w wr
  hB : w.heap.size ≤ B
  hT : B < T
  hlt : T < wr.heap.size
  g0 : wr.cell? ⟨B, 0, none⟩ = some v
  g1 : wr.cell? ⟨B, 1, none⟩ = some lv
  g2 : wr.cell? ⟨B, 2, none⟩ = some pv
  t : ∀ j, j < 128 → ∃ b, wr.cell? ⟨T, j, none⟩ = some (.bool b)
  d : ∀ j, D j → wr.cell? ⟨T, j, none⟩ = some (.bool true)
  f : ∀ j, j < 128 → wr.frozen? ⟨T, j, none⟩ = false
theorem CkA.below {w wr w2 : World} {B T : Nat} {v lv pv : Value} {D : Nat → Prop} (h : CkA w wr B T v lv pv D) (b : Below wr.heap.size wr w2) : CkA w w2 B T v lv pv D :=
  have hx : ∀ {x : Nat} {i : Nat} {u : Value}, wr.cell? ⟨x, i, none⟩ = some u → w2.cell? ⟨x, i, none⟩ = some u := fun {x i u} e => (b.cell (World.block_lt_of_cell? wr _ e)).trans e
  ⟨h.hb.trans (b.mono h.hb.size), h.hB, h.hT, Nat.lt_of_lt_of_le h.hlt b.size, hx h.g0, hx h.g1, hx h.g2, fun j hj => by obtain ⟨u, e⟩ := h.t j hj; exact ⟨u, hx e⟩, fun j hj => hx (h.d j hj),
   fun j hj => (b.frozen (p := ⟨T, j, none⟩) h.hlt).trans (h.f j hj)⟩
theorem CkA.set {w wr : World} {B T : Nat} {v lv pv : Value} {D : Nat → Prop} (h : CkA w wr B T v lv pv D) (i : Nat) (hi : i < 128) : CkA w (wr.setCell ⟨T, i, none⟩ (.bool true)) B T v lv pv (fun j => D j ∨ j = i) := by
  have hl := h.hT
  have hx : ∀ {k : Nat} {u : Value}, wr.cell? ⟨B, k, none⟩ = some u → (wr.setCell ⟨T, i, none⟩ (.bool true)).cell? ⟨B, k, none⟩ = some u := fun {k u} e => by
    rw [World.cell?_setCell_other _ _ _ _ (by intro e; injection e with e1 e2; omega)]; exact e
  refine ⟨h.hb.setCell (show w.heap.size ≤ (⟨T, i, none⟩ : Addr).block from by have := h.hB; show w.heap.size ≤ T; omega) _, h.hB, h.hT, by rw [World.size_setCell]; exact h.hlt, hx h.g0, hx h.g1, hx h.g2, fun j hj => ?_, fun j hj => ?_, fun j hj => ?_⟩
  · by_cases e : j = i
    · subst e
      obtain ⟨u, hu⟩ := h.t j hj
      exact ⟨true, World.cell?_setCell_same _ _ _ hu⟩
    · rw [World.cell?_setCell_other _ _ _ _ (by intro e'; injection e' with e1 e2; exact e (by omega))]
      exact h.t j hj
  · by_cases e : j = i
    · subst e
      obtain ⟨u, hu⟩ := h.t j hi
      exact World.cell?_setCell_same _ _ _ hu
    · rw [World.cell?_setCell_other _ _ _ _ (by intro e'; injection e' with e1 e2; exact e (by omega))]
      exact h.d j (hj.resolve_right e)
  · rw [World.frozen?_setCell]; exact h.f j hj
def tab0 : Array Value := Array.replicate 128 (.bool false)
theorem tab0_at (n : Nat) (h : n < 128) : tab0[n]? = some (.bool false) := by
  unfold tab0
  rw [Array.getElem?_replicate]
  simp [h]
theorem zero112 (w : World) : (zeroValue 113).run Tryz.prog w = .ok (.agg tab0) w := by kernel_rfl
theorem box_new (w : World) (cs : Array Value) (t : TypeId) (i : Nat) (v : Value) (h : cs[i]? = some v) : (w.alloc (.cells cs t)).cell? ⟨w.heap.size, i, none⟩ = some v := by
  have h1 := heap_alloc_new w (.cells cs t)
  simp only [World.cell?, h1]
  exact h
theorem free_new (w : World) (cs : Array Value) (t : TypeId) (i : Nat) : (w.alloc (.cells cs t)).frozen? ⟨w.heap.size, i, none⟩ = false := by
  have h1 := heap_alloc_new w (.cells cs t)
  simp only [World.frozen?, h1]
  simp
theorem CkA.new (w : World) (v lv pv : Value) : CkA w ((w.alloc (.cells #[v, lv, pv] 57)).alloc (.cells tab0 113)) w.heap.size (w.heap.size + 1) v lv pv (fun _ => False) := by
  have hb1 := (Below.refl _ w).alloc (Nat.le_refl _) (.cells #[v, lv, pv] 57)
  have hs : (w.alloc (.cells #[v, lv, pv] 57)).heap.size = w.heap.size + 1 := by simp
  have hb2 := (Below.refl _ (w.alloc (.cells #[v, lv, pv] 57))).alloc (Nat.le_refl _) (.cells tab0 113)
  have hx : ∀ {x : Nat} {i : Nat} {u : Value}, (w.alloc (.cells #[v, lv, pv] 57)).cell? ⟨x, i, none⟩ = some u → ((w.alloc (.cells #[v, lv, pv] 57)).alloc (.cells tab0 113)).cell? ⟨x, i, none⟩ = some u := fun {x i u} e => (hb2.cell (World.block_lt_of_cell? _ _ e)).trans e
  refine ⟨hb1.trans (hb2.mono hb1.size), Nat.le_refl _, Nat.lt_succ_self _, by simp, hx (box_new w _ _ 0 _ rfl), hx (box_new w _ _ 1 _ rfl), hx (box_new w _ _ 2 _ rfl), fun j hj => ⟨false, ?_⟩, fun j hj => hj.elim, fun j hj => ?_⟩
  · have := box_new (w.alloc (.cells #[v, lv, pv] 57)) tab0 113 j _ (tab0_at j hj)
    rw [hs] at this
    exact this
  · have := free_new (w.alloc (.cells #[v, lv, pv] 57)) tab0 113 j
    rw [hs] at this
    exact this
end Go.Proofs.YtpebpfaecdmabaaGreatDoor
/- graph.Check at awake's graph (under way). -/
namespace Go.Proofs.YtpebpfaecdmabaaGreatDoor
open Go.RowKit

theorem CkA.weak {w wr : World} {B T : Nat} {v lv pv : Value} {D D' : Nat → Prop} (h : CkA w wr B T v lv pv D) (hd : ∀ j, D' j → D j) : CkA w wr B T v lv pv D' :=
  ⟨h.hb, h.hB, h.hT, h.hlt, h.g0, h.g1, h.g2, h.t, fun j hj => h.d j (hd j hj), h.f⟩
theorem four_cells {w : World} {a : Option Addr} {c : Nat} {x0 x1 x2 x3 : Value} (h : SlR w 4 (.slice a 1 c) 1 [x0, x1, x2, x3]) : ∃ b off, a = some ⟨b, off, none⟩ ∧ w.cell? ⟨b, off, none⟩ = some x0 ∧ w.cell? ⟨b, off + 1, none⟩ = some x1 ∧ w.cell? ⟨b, off + 2, none⟩ = some x2 ∧ w.cell? ⟨b, off + 3, none⟩ = some x3 := by
  obtain ⟨_, _, a', c', he, _, hc⟩ := h
  injection he with e1 _ e3
  subst e1
  rcases hc with hc | ⟨b, off, rfl, hc⟩
  · cases hc
  · exact ⟨b, off, rfl, hc 0 _ rfl, hc 1 _ rfl, hc 2 _ rfl, hc 3 _ rfl⟩
set_option maxHeartbeats 8000000 in
set_option maxRecDepth 100000 in
theorem Check_awake (v lv pv : Value) (w : World) (h : NS w v [1, 2]) (hlv : SlR w 4 lv 1 [.int .i64 1, .int .i64 2, .int .i64 1, .int .i64 0]) (hpv : SlR w 4 pv 1 [.int .u32 16777216, .int .i64 8, .int .i64 2, .int .i64 4]) :
    Calls Tryz.prog 89 #[.agg #[v, lv, pv]] w fun e w' => e = .returned (.int .i64 0) ∧ Below w.heap.size w w' := by
  have ha : Asc [1, 2] := ⟨by decide, by decide⟩
  obtain ⟨ids, hids⟩ : ∃ ids : List Nat, ids = [1, 2] := ⟨_, rfl⟩
  rw [← hids] at h ha
  have HID := Lib.hid hids
  clear hids
  obtain ⟨al, cl, rfl, hml, hcl⟩ := hlv.form
  obtain ⟨ap, cp, rfl, hmp, hcp⟩ := hpv.form
  obtain ⟨a, cap, rfl, hm, hc⟩ := h.form
  have hz := fun w => zero112 w
  have hS0 := CkA.new w (.slice a ids.length cap) (.slice al 1 cl) (.slice ap 1 cp)
  go_enter Tryz.func89, Tryz.ntmps89
  go_wp2_with fail
  generalize (w.alloc (.cells #[.slice a ids.length cap, .slice al 1 cl, .slice ap 1 cp] 57)).alloc (.cells tab0 113) = W0 at hS0 ⊢
  generalize hBB : w.heap.size = B at hS0 ⊢
  generalize hTT : B + 1 = T at hS0 ⊢
  go_loopw [23] (fun x wr => ∃ i : Nat, x = .int .i64 i ∧ i ≤ ids.length ∧ CkA w wr B T (.slice a ids.length cap) (.slice al 1 cl) (.slice ap 1 cp) (fun j => ∃ (m : Nat) (h : m < ids.length), m < i ∧ ids[m] = j)) (fun x _ => ids.length - (kO x).toNat)
  case atStart => exact ⟨0, rfl, Nat.zero_le _, hS0.weak (fun j ⟨m, _, h, _⟩ => by omega)⟩
  case round =>
    clear hS0
    obtain ⟨i, rfl, hi, hS⟩ := hrel
    by_cases hlt : i < ids.length
    · obtain ⟨b, off, rfl, q0, q1, q2⟩ := (hc.below hS.hb).at_ i hlt
      have hi128 := ha.1 _ (List.getElem_mem hlt)
      have hprev : 0 < i → ∃ m : Nat, m < ids[i] ∧ wr.cell? ⟨b, off + (i - 1) * 3, none⟩ = some (.int .i64 m) := by
        intro h0
        obtain ⟨b', off', e, q, _, _⟩ := (hc.below hS.hb).at_ (i - 1) (by omega)
        injection e with e
        injection e with e1 e2 _
        subst e1; subst e2
        exact ⟨_, ha.lt (by omega) hlt (by omega), q⟩
      have hnext : ∀ j, (∃ (m : Nat) (h : m < ids.length), m < i + 1 ∧ ids[m] = j) → (∃ (m : Nat) (h : m < ids.length), m < i ∧ ids[m] = j) ∨ j = ids[i] := fun j ⟨m, h, h1, h2⟩ => by
        by_cases e : m = i
        · subst e; exact .inr h2.symm
        · exact .inl ⟨m, h, by omega, h2⟩
      generalize ids[i] = n at q0 hi128 hprev hnext
      have HN := Lib.hid hnext
      clear hnext
      have hn1 : decide ((n : Int) ≤ 127) = true := by simp; omega
      have hcx := store_c
      have hbox0 := box_new wr #[.int .i64 n, .bool false, .complex .f64 0 0] 48 0 _ rfl
      have hbox2 := box_new wr #[.int .i64 n, .bool false, .complex .f64 0 0] 48 2 _ rfl
      have hS1 := hS.below ((Below.refl _ wr).alloc (Nat.le_refl _) (.cells #[.int .i64 n, .bool false, .complex .f64 0 0] 48))
      have hprev1 : 0 < i → ∃ m : Nat, m < n ∧ (wr.alloc (.cells #[.int .i64 n, .bool false, .complex .f64 0 0] 48)).cell? ⟨b, off + (i - 1) * 3, none⟩ = some (.int .i64 m) := fun h0 => by
        obtain ⟨m, h1, h2⟩ := hprev h0
        exact ⟨m, h1, (((Below.refl _ wr).alloc (Nat.le_refl _) _).cell (World.block_lt_of_cell? _ _ h2)).trans h2⟩
      go_wp2_with fail
      generalize wr.alloc (.cells #[.int .i64 n, .bool false, .complex .f64 0 0] 48) = W1 at hbox0 hbox2 hS1 hprev1 ⊢
      generalize wr.heap.size = B5 at hbox0 hbox2 ⊢
      have g0 := hS1.g0
      clear hS hprev q0 q1 q2
      rcases Nat.eq_zero_or_pos i with hi0 | hi0
      · subst hi0
        go_quiet ((first | (go_at_call 90; exact quiet_same (in_any _ _)) | (go_at_call 97; exact quiet_same (Ok_zero _))))
        have hS2 := hS1.below (below_drewN (Below.refl _ _) nq)
        have hb0 : (W1.drewN nq).cell? ⟨B5, 0, none⟩ = some (.int .i64 n) := hbox0
        obtain ⟨ob, t0⟩ := hS2.t n hi128
        have t1 := hS2.f n hi128
        have hS3 := hS2.set n hi128
        clear hbox0 hbox2
        generalize W1.drewN nq = W2 at *
        go_wp2_with fail
        go_roundw
        case rel => exact ⟨1, rfl, by omega, hS3.weak HN.out⟩
        case measure => simp [kO]; omega
      · obtain ⟨m, hmn, hpc⟩ := hprev1 hi0
        have hcm : decide ((m : Int) ≥ n) = false := by simp; omega
        go_quiet ((first | (go_at_call 90; exact quiet_same (in_any _ _)) | (go_at_call 97; exact quiet_same (Ok_zero _))))
        have hS2 := hS1.below (below_drewN (Below.refl _ _) nq)
        have hb0 : (W1.drewN nq).cell? ⟨B5, 0, none⟩ = some (.int .i64 n) := hbox0
        obtain ⟨ob, t0⟩ := hS2.t n hi128
        have t1 := hS2.f n hi128
        have hS3 := hS2.set n hi128
        clear hbox0 hbox2 hpc
        generalize W1.drewN nq = W2 at *
        go_wp2_with fail
        go_roundw
        case rel => exact ⟨i + 1, by go_num, by omega, hS3.weak HN.out⟩
        case measure => simp [kO]; omega
    · have hi2 : i = ids.length := by omega
      subst hi2
      have g0 := hS.g0
      have g1 := hS.g1
      have g2 := hS.g2
      have hb := hS.hb
      have d1 := hS.d 1 ⟨0, by rw [HID.out]; decide, by rw [HID.out]; decide, by simp [HID.out]⟩
      have d2 := hS.d 2 ⟨1, by rw [HID.out]; decide, by rw [HID.out]; decide, by simp [HID.out]⟩
      clear g0 g1 g2 hb d1 d2
      have D1 : ∃ (m : Nat) (h : m < ids.length), m < ids.length ∧ ids[m] = 1 := ⟨0, by rw [HID.out]; decide, by rw [HID.out]; decide, by simp [HID.out]⟩
      have D2 : ∃ (m : Nat) (h : m < ids.length), m < ids.length ∧ ids[m] = 2 := ⟨1, by rw [HID.out]; decide, by rw [HID.out]; decide, by simp [HID.out]⟩
      have hS9 := hS.weak (D' := fun j => j = 1 ∨ j = 2) (fun j hj => by rcases hj with rfl | rfl; exact D1; exact D2)
      have g1 := hS9.g1
      clear hS D1 D2 hi hlt
      go_wp2_with fail
      go_loopw [61] (fun x w2 => ∃ i : Nat, x = .int .i64 i ∧ i ≤ 1 ∧ CkA w w2 B T (.slice a ids.length cap) (.slice al 1 cl) (.slice ap 1 cp) (fun j => j = 1 ∨ j = 2)) (fun x _ => 1 - (kO x).toNat)
      case atStart => exact ⟨0, rfl, by omega, hS9⟩
      case round =>
        clear hS9 g1
        obtain ⟨i, rfl, hi, hS⟩ := hrel
        by_cases hlt : i < 1
        · have hi0 : i = 0 := by omega
          subst hi0
          obtain ⟨lb, lo, rfl, l0, l1, l2, l3⟩ := four_cells (hcl.below hS.hb)
          have hS1 := hS.below ((Below.refl _ wr).alloc (Nat.le_refl _) (.cells #[.int .i64 1, .int .i64 2, .int .i64 1, .int .i64 0] 51))
          have b0 := box_new wr #[.int .i64 1, .int .i64 2, .int .i64 1, .int .i64 0] 51 0 _ rfl
          have b1 := box_new wr #[.int .i64 1, .int .i64 2, .int .i64 1, .int .i64 0] 51 1 _ rfl
          have b2 := box_new wr #[.int .i64 1, .int .i64 2, .int .i64 1, .int .i64 0] 51 2 _ rfl
          have b3 := box_new wr #[.int .i64 1, .int .i64 2, .int .i64 1, .int .i64 0] 51 3 _ rfl
          go_wp2_with fail
          generalize wr.alloc (.cells #[.int .i64 1, .int .i64 2, .int .i64 1, .int .i64 0] 51) = W1 at *
          generalize wr.heap.size = B5 at *
          have d1 : W1.cell? ⟨T, 1, none⟩ = some (.bool true) := hS1.d 1 (.inl rfl)
          have d2 : W1.cell? ⟨T, 2, none⟩ = some (.bool true) := hS1.d 2 (.inr rfl)
          clear hS l0 l1 l2 l3
          go_quiet ((first | (go_at_call 90; exact quiet_same (in_any _ _)) | (go_at_call 98; exact quiet_same (costOk_one _)) | (go_at_call 99; exact quiet_same (delayOk_zero _))))
          have hS2 := hS1.below (below_drewN (Below.refl _ _) nq)
          clear hS1 b0 b1 b2 b3 d1 d2
          generalize W1.drewN nq = W2 at *
          go_wp2_with fail
          go_roundw
          case rel => exact ⟨1, rfl, by omega, hS2⟩
          case measure => simp [kO]
        · have hi1 : i = 1 := by omega
          subst hi1
          have g2 := hS.g2
          go_wp2_with fail
          clear g2
          go_loopw [128] (fun x w2 => ∃ i : Nat, x = .int .i64 i ∧ i ≤ 1 ∧ CkA w w2 B T (.slice a ids.length cap) (.slice al 1 cl) (.slice ap 1 cp) (fun j => j = 1 ∨ j = 2)) (fun x _ => 1 - (kO x).toNat)
          case atStart => exact ⟨0, rfl, by omega, hS⟩
          case round =>
            clear hS
            obtain ⟨i, rfl, hi, hS⟩ := hrel
            by_cases hlt : i < 1
            · have hi0 : i = 0 := by omega
              subst hi0
              obtain ⟨pb, po, rfl, l0, l1, l2, l3⟩ := four_cells (hcp.below hS.hb)
              have hA := (Below.refl _ wr).alloc (Nat.le_refl _) (.cells #[.int .u32 16777216, .int .i64 8, .int .i64 2, .int .i64 4] 54)
              have hS1 := hS.below hA
              have b0 := box_new wr #[.int .u32 16777216, .int .i64 8, .int .i64 2, .int .i64 4] 54 0 _ rfl
              have b1 := box_new wr #[.int .u32 16777216, .int .i64 8, .int .i64 2, .int .i64 4] 54 1 _ rfl
              have b2 := box_new wr #[.int .u32 16777216, .int .i64 8, .int .i64 2, .int .i64 4] 54 2 _ rfl
              have b3 := box_new wr #[.int .u32 16777216, .int .i64 8, .int .i64 2, .int .i64 4] 54 3 _ rfl
              go_wp2_with fail
              generalize wr.alloc (.cells #[.int .u32 16777216, .int .i64 8, .int .i64 2, .int .i64 4] 54) = W1 at *
              generalize wr.heap.size = B5 at *
              have d2 : W1.cell? ⟨T, 2, none⟩ = some (.bool true) := hS1.d 2 (.inr rfl)
              clear hS l0 l1 l2 l3
              have x0 : ∀ m : ExtW W1, (exw m).cell? ⟨B5, 0, none⟩ = some (.int .u32 16777216) := exw_cell b0
              have x1 : ∀ m : ExtW W1, (exw m).cell? ⟨B5, 1, none⟩ = some (.int .i64 8) := exw_cell b1
              have x2 : ∀ m : ExtW W1, (exw m).cell? ⟨B5, 2, none⟩ = some (.int .i64 2) := exw_cell b2
              have x3 : ∀ m : ExtW W1, (exw m).cell? ⟨B5, 3, none⟩ = some (.int .i64 4) := exw_cell b3
              have y2 : ∀ m : ExtW W1, (exw m).cell? ⟨T, 2, none⟩ = some (.bool true) := exw_cell d2
              refine region_ext (by kernel_rfl) (by kernel_rfl) ?_
              repeat (go_big_quiet_step (first | (go_at_call 90; exact ext_same (in_any _ _)) | (go_at_call 101; exact ext_call (prefixOk_awake _)) | (go_at_call 102; exact ext_same (metricOk_four _))))
              refine wpQuiet_nil ?_
              rintro w3 ⟨m, rfl⟩
              have hS2 := hS1.below (exw_below m)
              clear hS1 b0 b1 b2 b3 d2 x0 x1 x2 x3 y2
              generalize exw m = W2 at *
              go_wp2_with fail
              go_roundw
              case rel => exact ⟨1, rfl, by omega, hS2⟩
              case measure => simp [kO]
            · have hi1 : i = 1 := by omega
              subst hi1
              have hb := hS.hb
              go_wp2_with fail
              go_ret
              exact ⟨rfl, hb⟩
end Go.Proofs.YtpebpfaecdmabaaGreatDoor
/- awake's graph: nodes. -/
namespace Go.Proofs.YtpebpfaecdmabaaGreatDoor
open Go.RowKit

/-- awake's graph. -/
structure GA (w : World) (v lv pv : Value) : Prop where
  n : NS w v [1, 2]
  l : SlR w 4 lv 1 [.int .i64 1, .int .i64 2, .int .i64 1, .int .i64 0]
  p : SlR w 4 pv 1 [.int .u32 16777216, .int .i64 8, .int .i64 2, .int .i64 4]
theorem GA.below {w w2 : World} {v lv pv : Value} (h : GA w v lv pv) (b : Below w.heap.size w w2) : GA w2 v lv pv := ⟨h.n.below b, h.l.below b, h.p.below b⟩
theorem GA.check {w : World} {v lv pv : Value} (h : GA w v lv pv) : Calls Tryz.prog 89 #[.agg #[v, lv, pv]] w fun e w' => e = .returned (.int .i64 0) ∧ Below w.heap.size w w' := Check_awake v lv pv w h.n h.l h.p
theorem GA.at_one {w : World} {v lv pv : Value} (h : GA w v lv pv) : Calls Tryz.prog 80 #[.agg #[v, lv, pv], .int .i64 1] w fun e w' => e = .returned (.tuple #[.int .i64 0, .bool true]) ∧ Below w.heap.size w w' := by
  refine (nodeAt_gen v lv pv [1, 2] 1 w h.n (by decide) (by decide)).mono ?_
  rintro e w2 ⟨i, f, rfl, hs, hb⟩
  have hi : i = 0 := by
    rcases Nat.eq_zero_or_pos i with h0 | h0
    · exact h0
    · exact absurd (hs.lo 0 (by decide) h0) (by decide)
  subst hi
  have hf : f = true := hs.hit.2 ⟨by decide, rfl⟩
  subst hf
  exact ⟨rfl, hb⟩
set_option maxHeartbeats 4000000 in
set_option maxRecDepth 100000 in
theorem nodes_awake {w : World} {v lv pv ls : Value} (h : GA w v lv pv) (hl : SlR w 1 ls 1 (ints [1])) : Calls Tryz.prog 79 #[.agg #[v, lv, pv], ls] w fun e w' => e = .returned (.int .i64 0) ∧ Below w.heap.size w w' := by
  obtain ⟨al, cl, rfl, _, hcl⟩ := hl.form
  have hA := (Below.refl _ w).alloc (Nat.le_refl _) (.cells #[v, lv, pv] 57)
  have b0 := box_new w #[v, lv, pv] 57 0 _ rfl
  have b1 := box_new w #[v, lv, pv] 57 1 _ rfl
  have b2 := box_new w #[v, lv, pv] 57 2 _ rfl
  have h1 := h.below hA
  obtain ⟨xv, cv, rfl, _, _⟩ := h.n.form
  obtain ⟨xl, cl2, rfl, _, _⟩ := h.l.form
  obtain ⟨xp, cp, rfl, _, _⟩ := h.p.form
  go_enter Tryz.func79, Tryz.ntmps79
  go_wp2_with (go_at_call 89; refine (GA.check h1).mono ?_; rintro e w2 ⟨rfl, hb2⟩)
  have hc2 := hA.trans (hb2.mono hA.size)
  have d0 := (hb2.cell (World.block_lt_of_cell? _ _ b0)).trans b0
  have d1 := (hb2.cell (World.block_lt_of_cell? _ _ b1)).trans b1
  have d2 := (hb2.cell (World.block_lt_of_cell? _ _ b2)).trans b2
  have h2 := h1.below hb2
  clear b0 b1 b2 h1 hb2 hA
  go_loopw [19] (fun x w3 => ∃ i : Nat, x = .int .i64 i ∧ i ≤ 1 ∧ Below w2.heap.size w2 w3) (fun x _ => 1 - (kO x).toNat)
  case atStart => exact ⟨0, rfl, by omega, Below.refl _ _⟩
  case round =>
    obtain ⟨i, rfl, hi, hbr⟩ := hrel
    have hc3 := hc2.trans (hbr.mono hc2.size)
    obtain ⟨b, off, rfl, hcell⟩ := (hcl.below hc3).int_at 0 (by decide)
    have hcell' : wr.cell? ⟨b, off, none⟩ = some (.int .i64 1) := hcell
    clear hcell
    by_cases hlt : i < 1
    · have hi0 : i = 0 := by omega
      subst hi0
      go_wp2_with (go_at_call 90; refine (in_any _ _).mono ?_; rintro e w4 ⟨rfl, rfl⟩)
      go_roundw
      case rel => exact ⟨1, rfl, by omega, hbr⟩
      case measure => simp [kO]
    · have hi1 : i = 1 := by omega
      subst hi1
      clear hcell'
      have d0 := (hbr.cell (World.block_lt_of_cell? _ _ d0)).trans d0
      have d1 := (hbr.cell (World.block_lt_of_cell? _ _ d1)).trans d1
      have d2 := (hbr.cell (World.block_lt_of_cell? _ _ d2)).trans d2
      have h3 := h2.below hbr
      clear h2
      generalize wr = W3 at *
      go_wp2_with fail
      go_loopw [29] (fun x w4 => ∃ i : Nat, x = .int .i64 i ∧ i ≤ 1 ∧ Below W3.heap.size W3 w4) (fun x _ => 1 - (kO x).toNat)
      case atStart => exact ⟨0, rfl, by omega, Below.refl _ _⟩
      case round =>
        obtain ⟨i, rfl, hi, hbq⟩ := hrel
        have hc4 := hc3.trans (hbq.mono hc3.size)
        obtain ⟨b2, off2, e2, hcell⟩ := (hcl.below hc4).int_at 0 (by decide)
        have hcell' : wr.cell? ⟨b2, off2, none⟩ = some (.int .i64 1) := hcell
        injection e2 with e2
        injection e2 with e2 e3 _
        subst e2 e3
        clear hcell
        by_cases hlt : i < 1
        · have hi0 : i = 0 := by omega
          subst hi0
          have d0 := (hbq.cell (World.block_lt_of_cell? _ _ d0)).trans d0
          have d1 := (hbq.cell (World.block_lt_of_cell? _ _ d1)).trans d1
          have d2 := (hbq.cell (World.block_lt_of_cell? _ _ d2)).trans d2
          have h4 := h3.below hbq
          go_wp2_with (go_at_call 80; refine (GA.at_one h4).mono ?_; rintro e w5 ⟨rfl, hb5⟩)
          go_roundw
          case rel => exact ⟨_, _, _, _, _, _, _, _, _, _, _, _, _, _, _, _, _, ⟨1, rfl, by omega, hbq.trans (hb5.mono hbq.size)⟩, rfl⟩
          case measure => simp [kO]
        · have hi1 : i = 1 := by omega
          subst hi1
          go_wp2_with fail
          go_ret
          exact ⟨rfl, hc4⟩
end Go.Proofs.YtpebpfaecdmabaaGreatDoor
/- awake's graph: Node (under way). -/
namespace Go.Proofs.YtpebpfaecdmabaaGreatDoor
open Go.RowKit

theorem res63 (w : World) (tmps : Array Value) (R : Nat) (x y z e : Value) (hp : tmps.getD 4 undef = .pointer (some ⟨R, 0, none⟩)) (he : tmps.getD 5 undef = e) (h0 : w.cell? ⟨R, 0, none⟩ = some x) (h1 : w.cell? ⟨R, 1, none⟩ = some y) (h2 : w.cell? ⟨R, 2, none⟩ = some z) :
    (results Tryz.f66 tmps).run Tryz.prog w = .ok (.tuple #[.agg #[x, y, z], e]) w := by
  rw [results_cell_tmp (p := 4) (u := 5) (ty := 48) rfl, hp, he]
  go_simp
set_option maxHeartbeats 4000000 in
set_option maxRecDepth 100000 in
theorem Node_awake {w : World} {v lv pv : Value} (h : GA w v lv pv) : Calls Tryz.prog 66 #[.agg #[v, lv, pv], .int .i64 1] w fun e w' => e = .returned (.tuple #[.agg #[.int .i64 1, .bool false, .complex .f64 0 0], .int .i64 0]) ∧ Below w.heap.size w w' := by
  obtain ⟨xv, cv, rfl, _, hnv⟩ := h.n.form
  obtain ⟨xl, cl2, rfl, _, _⟩ := h.l.form
  obtain ⟨xp, cp, rfl, _, _⟩ := h.p.form
  have hcx := store_c
  go_enter Tryz.func66, Tryz.ntmps66
  go_wp2_with fail
  have hA1 := (Below.refl _ w).alloc (Nat.le_refl _) (.cells #[.slice xv 2 cv, .slice xl 1 cl2, .slice xp 1 cp] 57)
  have s1 : (w.alloc (.cells #[.slice xv 2 cv, .slice xl 1 cl2, .slice xp 1 cp] 57)).heap.size = w.heap.size + 1 := by simp
  have g0 := box_new w #[.slice xv 2 cv, .slice xl 1 cl2, .slice xp 1 cp] 57 0 _ rfl
  have g1 := box_new w #[.slice xv 2 cv, .slice xl 1 cl2, .slice xp 1 cp] 57 1 _ rfl
  have g2 := box_new w #[.slice xv 2 cv, .slice xl 1 cl2, .slice xp 1 cp] 57 2 _ rfl
  generalize w.alloc _ = W1 at *
  have hA2 := (Below.refl _ W1).alloc (Nat.le_refl _) (.cells #[.int .i64 0, .bool false, .complex .f64 0 0] 48)
  have s2 : (W1.alloc (.cells #[.int .i64 0, .bool false, .complex .f64 0 0] 48)).heap.size = W1.heap.size + 1 := by simp
  have r0 := box_new W1 #[.int .i64 0, .bool false, .complex .f64 0 0] 48 0 _ rfl
  have r1 := box_new W1 #[.int .i64 0, .bool false, .complex .f64 0 0] 48 1 _ rfl
  have r2 := box_new W1 #[.int .i64 0, .bool false, .complex .f64 0 0] 48 2 _ rfl
  have rf := fun j => free_new W1 #[.int .i64 0, .bool false, .complex .f64 0 0] 48 j
  generalize W1.alloc _ = W2 at *
  have hA3 := (Below.refl _ W2).alloc (Nat.le_refl _) (.cells #[.int .i64 1] 3)
  have hI : SlR (W2.alloc (.cells #[.int .i64 1] 3)) 1 (.slice (some ⟨W2.heap.size, 0, none⟩) 1 1) 1 (ints [1]) :=
    SlR.of_owns (World.ownsRow_lit (base := 0) (e := 3) (size := 1) W2 #[.int .i64 1] 1 (Nat.zero_le _) (by simp [maxLen]) rfl)
  generalize W2.alloc _ = W3 at *
  have h23 := hA2.trans (hA3.mono hA2.size)
  have h13 := hA1.trans (h23.mono hA1.size)
  rw [s1] at r0 r1 r2 s2
  simp only [s1] at rf
  rw [s2] at hI
  have hG3 := h.below h13
  refine (nodes_awake hG3 hI).mono ?_
  rintro e w4 ⟨rfl, hb4⟩
  have hx : ∀ {b i : Nat} {u : Value}, W2.cell? ⟨b, i, none⟩ = some u → w4.cell? ⟨b, i, none⟩ = some u := fun e => by
    have e3 := (hA3.cell (World.block_lt_of_cell? _ _ e)).trans e
    exact (hb4.cell (World.block_lt_of_cell? _ _ e3)).trans e3
  have k0 := hx ((hA2.cell (World.block_lt_of_cell? _ _ g0)).trans g0)
  have k1 := hx ((hA2.cell (World.block_lt_of_cell? _ _ g1)).trans g1)
  have k2 := hx ((hA2.cell (World.block_lt_of_cell? _ _ g2)).trans g2)
  have q0 := hx r0
  have q1 := hx r1
  have q2 := hx r2
  have hc4 := h13.trans (hb4.mono h13.size)
  have hG4 := h.below hc4
  clear g0 g1 g2
  go_wp2_with fail
  refine (GA.at_one hG4).mono ?_
  rintro e w5 ⟨rfl, hb5⟩
  have hy : ∀ {b i : Nat} {u : Value}, w4.cell? ⟨b, i, none⟩ = some u → w5.cell? ⟨b, i, none⟩ = some u := fun e => (hb5.cell (World.block_lt_of_cell? _ _ e)).trans e
  have m0 := hy k0
  have n0 := hy q0
  have n1 := hy q1
  have n2 := hy q2
  have hc5 := hc4.trans (hb5.mono hc4.size)
  have nf : ∀ j, w5.frozen? ⟨w.heap.size + 1, j, none⟩ = false := fun j => by
    have l2 : w.heap.size + 1 < W2.heap.size := by omega
    have l3 : w.heap.size + 1 < W3.heap.size := Nat.lt_of_lt_of_le l2 hA3.size
    have e1 := (hA3.frozen (p := ⟨w.heap.size + 1, j, none⟩) l2).trans (rf j)
    have e2 := (hb4.frozen (p := ⟨w.heap.size + 1, j, none⟩) l3).trans e1
    exact (hb5.frozen (p := ⟨w.heap.size + 1, j, none⟩) (Nat.lt_of_lt_of_le l3 hb4.size)).trans e2
  obtain ⟨nb, no, rfl, c0, c1, c2⟩ := (NS.below hnv hc5).at_ 0 (by decide)
  have e0 : w5.cell? ⟨nb, no, none⟩ = some (.int .i64 1) := by simpa using c0
  have e1 : w5.cell? ⟨nb, no + 1, none⟩ = some (.bool false) := by simpa using c1
  have e2 : w5.cell? ⟨nb, no + 2, none⟩ = some (.complex .f64 0 0) := by simpa using c2
  clear k0 k1 k2 q0 q1 q2 r0 r1 r2 rf hx hy c0 c1 c2
  have hlt5 : w.heap.size + 1 < w5.heap.size := World.block_lt_of_cell? _ _ n0
  have hA6 := (Below.refl _ w5).alloc (Nat.le_refl _) (.cells #[.int .i64 1, .bool false, .complex .f64 0 0] 48)
  go_wp2_with (go_at_call 81; refine (plain_zero _).mono ?_; rintro e w6 ⟨rfl, rfl⟩)
  have t0 := (World.cell?_setCell_same w5 ⟨w.heap.size + 1, 0, none⟩ (.int .i64 1) n0)
  have t1 := (World.cell?_setCell_other w5 ⟨w.heap.size + 1, 0, none⟩ ⟨w.heap.size + 1, 1, none⟩ (.int .i64 1) (by simp)).trans n1
  have t2 := (World.cell?_setCell_other w5 ⟨w.heap.size + 1, 0, none⟩ ⟨w.heap.size + 1, 2, none⟩ (.int .i64 1) (by simp)).trans n2
  have u0 := (World.cell?_setCell_other _ ⟨w.heap.size + 1, 1, none⟩ ⟨w.heap.size + 1, 0, none⟩ (.bool false) (by simp)).trans t0
  have u1 := (World.cell?_setCell_same _ ⟨w.heap.size + 1, 1, none⟩ (.bool false) t1)
  have u2 := (World.cell?_setCell_other _ ⟨w.heap.size + 1, 1, none⟩ ⟨w.heap.size + 1, 2, none⟩ (.bool false) (by simp)).trans t2
  have v0 := (World.cell?_setCell_other _ ⟨w.heap.size + 1, 2, none⟩ ⟨w.heap.size + 1, 0, none⟩ (.complex .f64 0 0) (by simp)).trans u0
  have v1 := (World.cell?_setCell_other _ ⟨w.heap.size + 1, 2, none⟩ ⟨w.heap.size + 1, 1, none⟩ (.complex .f64 0 0) (by simp)).trans u1
  have v2 := (World.cell?_setCell_same _ ⟨w.heap.size + 1, 2, none⟩ (.complex .f64 0 0) u2)
  have hle : w.heap.size ≤ w.heap.size + 1 := by omega
  have hb6 := ((hc5.setCell (show w.heap.size ≤ (⟨w.heap.size + 1, 0, none⟩ : Addr).block from hle) (.int .i64 1)).setCell (show w.heap.size ≤ (⟨w.heap.size + 1, 1, none⟩ : Addr).block from hle) (.bool false)).setCell (show w.heap.size ≤ (⟨w.heap.size + 1, 2, none⟩ : Addr).block from hle) (.complex .f64 0 0)
  generalize ((w5.setCell ⟨w.heap.size + 1, 0, none⟩ (.int .i64 1)).setCell ⟨w.heap.size + 1, 1, none⟩ (.bool false)).setCell ⟨w.heap.size + 1, 2, none⟩ (.complex .f64 0 0) = W6 at *
  have hA7 := (Below.refl _ W6).alloc (Nat.le_refl _) (.cells #[.int .i64 1, .bool false, .complex .f64 0 0] 48)
  have z0 := (hA7.cell (World.block_lt_of_cell? _ _ v0)).trans v0
  have z1 := (hA7.cell (World.block_lt_of_cell? _ _ v1)).trans v1
  have z2 := (hA7.cell (World.block_lt_of_cell? _ _ v2)).trans v2
  exact bodyPost_ret (res63 _ _ (w.heap.size + 1) _ _ _ _ rfl rfl z0 z1 z2) rfl ⟨rfl, hb6.trans (hA7.mono hb6.size)⟩
end Go.Proofs.YtpebpfaecdmabaaGreatDoor
/- awake's graph: full.nodes. -/
namespace Go.Proofs.YtpebpfaecdmabaaGreatDoor
open Go.RowKit

set_option maxHeartbeats 4000000 in
set_option maxRecDepth 100000 in
theorem fullNodes_awake {w : World} {v lv pv ls : Value} (h : GA w v lv pv) (hl : SlR w 1 ls 1 (ints [1])) : Calls Tryz.prog 44 #[.agg #[v, lv, pv], ls] w fun e w' => e = .returned (.int .i64 0) ∧ Below w.heap.size w w' := by
  obtain ⟨al, cl, rfl, _, hcl⟩ := hl.form
  have hA := (Below.refl _ w).alloc (Nat.le_refl _) (.cells #[v, lv, pv] 57)
  have b0 := box_new w #[v, lv, pv] 57 0 _ rfl
  have b1 := box_new w #[v, lv, pv] 57 1 _ rfl
  have b2 := box_new w #[v, lv, pv] 57 2 _ rfl
  have h1 := h.below hA
  obtain ⟨xv, cv, rfl, _, _⟩ := h.n.form
  obtain ⟨xl, cl2, rfl, _, _⟩ := h.l.form
  obtain ⟨xp, cp, rfl, _, _⟩ := h.p.form
  go_enter Tryz.func44, Tryz.ntmps44
  go_wp2_with fail
  generalize w.alloc _ = W2 at *
  go_loopw [5, 14] (fun x5 x w3 => ∃ i : Nat, x5 = .int .i64 0 ∧ x = .int .i64 i ∧ i ≤ 1 ∧ Below W2.heap.size W2 w3) (fun _ x _ => 1 - (kO x).toNat)
  case atStart => exact ⟨0, rfl, rfl, by omega, Below.refl _ _⟩
  case round =>
    obtain ⟨i, rfl, rfl, hi, hbr⟩ := hrel
    have hc3 := hA.trans (hbr.mono hA.size)
    obtain ⟨b, off, rfl, hcell⟩ := (hcl.below hc3).int_at 0 (by decide)
    have hcell' : wr.cell? ⟨b, off, none⟩ = some (.int .i64 1) := hcell
    clear hcell
    by_cases hlt : i < 1
    · have hi0 : i = 0 := by omega
      subst hi0
      have d0 := (hbr.cell (World.block_lt_of_cell? _ _ b0)).trans b0
      have d1 := (hbr.cell (World.block_lt_of_cell? _ _ b1)).trans b1
      have d2 := (hbr.cell (World.block_lt_of_cell? _ _ b2)).trans b2
      have h4 := h1.below hbr
      have hcx := store_c
      go_wp2_with (go_at_call 66; refine (Node_awake h4).mono ?_; rintro e w5 ⟨rfl, hb5⟩)
      go_roundw
      case rel => exact ⟨1, rfl, rfl, by omega, (hbr.trans (hb5.mono hbr.size)).alloc (by have := hbr.size; have := hb5.size; omega) _⟩
      case measure => simp [kO]
    · have hi1 : i = 1 := by omega
      subst hi1
      have hbq := hc3
      generalize wr = W3 at *
      go_wp2_with fail
      go_loopw [37] (fun x w4 => ∃ i : Nat, x = .int .i64 i ∧ i ≤ 1 ∧ w4 = W3) (fun x _ => 1 - (kO x).toNat)
      case atStart => exact ⟨0, rfl, by omega, rfl⟩
      case round =>
        obtain ⟨i, rfl, hi, rfl⟩ := hrel
        by_cases hlt : i < 1
        · have hi0 : i = 0 := by omega
          subst hi0
          go_wp2_with fail
          go_roundw
          case rel => exact ⟨1, rfl, by omega, trivial⟩
          case measure => simp [kO]
        · have hi1 : i = 1 := by omega
          subst hi1
          go_wp2_with fail
          go_ret
          exact ⟨rfl, hbq⟩
end Go.Proofs.YtpebpfaecdmabaaGreatDoor
