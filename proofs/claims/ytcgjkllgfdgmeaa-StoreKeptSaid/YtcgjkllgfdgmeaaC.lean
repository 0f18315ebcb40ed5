/- Graphs of nodes alone: Check. -/
import Derived.Test.YtcgjkllgfdgmeaaB
namespace Go.Proofs.Ytcgjkllgfdgmeaa
open Go.RowKit

/-- Rising numbers of nodes. -/
def Asc (ids : List Nat) : Prop := (∀ x ∈ ids, x < 128) ∧ ids.Pairwise (· < ·)
theorem Asc.lt {ids : List Nat} (h : Asc ids) {i j : Nat} (hi : i < ids.length) (hj : j < ids.length) (hij : i < j) : ids[i] < ids[j] := List.pairwise_iff_getElem.1 h.2 i j hi hj hij
theorem Asc.ge {ids : List Nat} (h : Asc ids) : ∀ (i : Nat) (hi : i < ids.length), i ≤ ids[i] := by
  intro i
  induction i with
  | zero => intro hi; omega
  | succ i ih =>
    intro hi
    have h1 := ih (by omega)
    have h2 := h.lt (i := i) (j := i + 1) (by omega) hi (by omega)
    omega
theorem Asc.len {ids : List Nat} (h : Asc ids) : ids.length ≤ 128 := by
  rcases Nat.eq_zero_or_pos ids.length with e | e
  · omega
  · have h1 := h.ge (ids.length - 1) (by omega)
    have h2 := h.1 _ (List.getElem_mem (show ids.length - 1 < ids.length by omega))
    omega
/-- What lies while Check goes over the nodes: the graph's box B, the table T of numbers. -/
structure CkS (w wr : World) (B T : Nat) (v : Value) : Prop where
  hb : Below w.heap.size w wr
  hB : w.heap.size ≤ B
  hT : B < T
  hlt : T < wr.heap.size
  g0 : wr.cell? ⟨B, 0, none⟩ = some v
  g1 : wr.cell? ⟨B, 1, none⟩ = some (.slice none 0 0)
  g2 : wr.cell? ⟨B, 2, none⟩ = some (.slice none 0 0)
  t : ∀ j, j < 128 → ∃ b, wr.cell? ⟨T, j, none⟩ = some (.bool b)
  f : ∀ j, j < 128 → wr.frozen? ⟨T, j, none⟩ = false
theorem CkS.below {w wr w2 : World} {B T : Nat} {v : Value} (h : CkS w wr B T v) (b : Below wr.heap.size wr w2) : CkS w w2 B T v :=
  have hx : ∀ {x : Nat} {i : Nat} {u : Value}, wr.cell? ⟨x, i, none⟩ = some u → w2.cell? ⟨x, i, none⟩ = some u := fun {x i u} e => (b.cell (World.block_lt_of_cell? wr _ e)).trans e
  ⟨h.hb.trans (b.mono h.hb.size), h.hB, h.hT, Nat.lt_of_lt_of_le h.hlt b.size, hx h.g0, hx h.g1, hx h.g2, fun j hj => by obtain ⟨u, e⟩ := h.t j hj; exact ⟨u, hx e⟩,
   fun j hj => (b.frozen (p := ⟨T, j, none⟩) h.hlt).trans (h.f j hj)⟩
theorem CkS.set {w wr : World} {B T : Nat} {v : Value} (h : CkS w wr B T v) (i : Nat) (b : Bool) : CkS w (wr.setCell ⟨T, i, none⟩ (.bool b)) B T v := by
  have hl := h.hT
  have hx : ∀ {k : Nat} {u : Value}, wr.cell? ⟨B, k, none⟩ = some u → (wr.setCell ⟨T, i, none⟩ (.bool b)).cell? ⟨B, k, none⟩ = some u := fun {k u} e => by
    rw [World.cell?_setCell_other _ _ _ _ (by intro e; injection e with e1 e2; omega)]; exact e
  refine ⟨h.hb.setCell (show w.heap.size ≤ (⟨T, i, none⟩ : Addr).block from by have := h.hB; show w.heap.size ≤ T; omega) _, h.hB, h.hT, by rw [World.size_setCell]; exact h.hlt, hx h.g0, hx h.g1, hx h.g2, fun j hj => ?_, fun j hj => ?_⟩
  · by_cases e : j = i
    · subst e
      obtain ⟨u, hu⟩ := h.t j hj
      exact ⟨b, World.cell?_setCell_same _ _ _ hu⟩
    · rw [World.cell?_setCell_other _ _ _ _ (by intro e'; injection e' with e1 e2; exact e (by omega))]
      exact h.t j hj
  · rw [World.frozen?_setCell]; exact h.f j hj
def tab0 : Array Value := Array.replicate 128 (.bool false)
theorem tab0_at (n : Nat) (h : n < 128) : tab0[n]? = some (.bool false) := by
  unfold tab0
  rw [Array.getElem?_replicate]
  simp [h]
theorem zero54 (w : World) : (zeroValue 54).run Try.prog w = .ok (.agg tab0) w := by kernel_rfl
theorem box_new (w : World) (cs : Array Value) (t : TypeId) (i : Nat) (v : Value) (h : cs[i]? = some v) : (w.alloc (.cells cs t)).cell? ⟨w.heap.size, i, none⟩ = some v := by
  have h1 := heap_alloc_new w (.cells cs t)
  simp only [World.cell?, h1]
  exact h
theorem free_new (w : World) (cs : Array Value) (t : TypeId) (i : Nat) : (w.alloc (.cells cs t)).frozen? ⟨w.heap.size, i, none⟩ = false := by
  have h1 := heap_alloc_new w (.cells cs t)
  simp only [World.frozen?, h1]
  simp
theorem CkS.new (w : World) (v : Value) : CkS w ((w.alloc (.cells #[v, .slice none 0 0, .slice none 0 0] 30)).alloc (.cells tab0 54)) w.heap.size (w.heap.size + 1) v := by
  have hb1 := (Below.refl _ w).alloc (Nat.le_refl _) (.cells #[v, .slice none 0 0, .slice none 0 0] 30)
  have hs : (w.alloc (.cells #[v, .slice none 0 0, .slice none 0 0] 30)).heap.size = w.heap.size + 1 := by simp
  have hb2 := (Below.refl _ (w.alloc (.cells #[v, .slice none 0 0, .slice none 0 0] 30))).alloc (Nat.le_refl _) (.cells tab0 54)
  have hx : ∀ {x : Nat} {i : Nat} {u : Value}, (w.alloc (.cells #[v, .slice none 0 0, .slice none 0 0] 30)).cell? ⟨x, i, none⟩ = some u → ((w.alloc (.cells #[v, .slice none 0 0, .slice none 0 0] 30)).alloc (.cells tab0 54)).cell? ⟨x, i, none⟩ = some u := fun {x i u} e => (hb2.cell (World.block_lt_of_cell? _ _ e)).trans e
  refine ⟨hb1.trans (hb2.mono hb1.size), Nat.le_refl _, Nat.lt_succ_self _, by simp, hx (box_new w _ _ 0 _ rfl), hx (box_new w _ _ 1 _ rfl), hx (box_new w _ _ 2 _ rfl), fun j hj => ⟨false, ?_⟩, fun j hj => ?_⟩
  · have := box_new (w.alloc (.cells #[v, .slice none 0 0, .slice none 0 0] 30)) tab0 54 j _ (tab0_at j hj)
    rw [hs] at this
    exact this
  · have := free_new (w.alloc (.cells #[v, .slice none 0 0, .slice none 0 0] 30)) tab0 54 j
    rw [hs] at this
    exact this
set_option maxHeartbeats 8000000 in
set_option maxRecDepth 100000 in
theorem Check_any (v : Value) (ids : List Nat) (w : World) (h : NS w v ids) (ha : Asc ids) :
    Calls Try.prog 11 #[.agg #[v, .slice none 0 0, .slice none 0 0]] w fun e w' => e = .returned (.int .i64 0) ∧ Below w.heap.size w w' := by
  obtain ⟨a, cap, rfl, hm, hc⟩ := h.form
  have hz := fun w => zero54 w
  have hS0 := CkS.new w (.slice a ids.length cap)
  go_enter Try.func11, Try.ntmps11
  go_wp2_with fail
  generalize (w.alloc (.cells #[.slice a ids.length cap, .slice none 0 0, .slice none 0 0] 30)).alloc (.cells tab0 54) = W0 at hS0 ⊢
  generalize hBB : w.heap.size = B at hS0 ⊢
  generalize hTT : B + 1 = T at hS0 ⊢
  go_loopw [23] (fun x wr => ∃ i : Nat, x = .int .i64 i ∧ i ≤ ids.length ∧ CkS w wr B T (.slice a ids.length cap)) (fun x _ => ids.length - (kO x).toNat)
  case atStart => exact ⟨0, rfl, Nat.zero_le _, hS0⟩
  case round =>
    clear hS0
    obtain ⟨i, rfl, hi, hS⟩ := hrel
    by_cases hlt : i < ids.length
    · obtain ⟨b, off, rfl, q0, q1, q2⟩ := (hc.below hS.hb).at_ i hlt
      have hi128 := ha.1 _ (List.getElem_mem hlt)
      have hprev : 0 < i → ∃ m : Nat, m < ids[i] ∧ wr.cell? ⟨b, off + (i - 1) * 3, none⟩ = some (.int .i64 m) := by
        intro h0
        obtain ⟨b', off', e, q, _, _⟩ := (hc.below hS.hb).at_ (i - 1) (by omega)
        injection e with e
        injection e with e1 e2 _
        subst e1; subst e2
        exact ⟨_, ha.lt (by omega) hlt (by omega), q⟩
      generalize ids[i] = n at q0 hi128 hprev
      have hn1 : decide ((n : Int) ≤ 127) = true := by simp; omega
      have hcx := store_c
      have hbox0 := box_new wr #[.int .i64 n, .bool false, .complex .f64 0 0] 56 0 _ rfl
      have hbox2 := box_new wr #[.int .i64 n, .bool false, .complex .f64 0 0] 56 2 _ rfl
      have hS1 := hS.below ((Below.refl _ wr).alloc (Nat.le_refl _) (.cells #[.int .i64 n, .bool false, .complex .f64 0 0] 56))
      have hprev1 : 0 < i → ∃ m : Nat, m < n ∧ (wr.alloc (.cells #[.int .i64 n, .bool false, .complex .f64 0 0] 56)).cell? ⟨b, off + (i - 1) * 3, none⟩ = some (.int .i64 m) := fun h0 => by
        obtain ⟨m, h1, h2⟩ := hprev h0
        exact ⟨m, h1, (((Below.refl _ wr).alloc (Nat.le_refl _) _).cell (World.block_lt_of_cell? _ _ h2)).trans h2⟩
      go_wp2_with fail
      generalize wr.alloc (.cells #[.int .i64 n, .bool false, .complex .f64 0 0] 56) = W1 at hbox0 hbox2 hS1 hprev1 ⊢
      generalize wr.heap.size = B5 at hbox0 hbox2 ⊢
      have g0 := hS1.g0
      clear hS hprev q0 q1 q2
      rcases Nat.eq_zero_or_pos i with hi0 | hi0
      · subst hi0
        go_quiet ((first | (go_at_call 14; exact quiet_same (in_any _ _)) | (go_at_call 15; exact quiet_same (Ok_zero _))))
        have hS2 := hS1.below (below_drewN (Below.refl _ _) nq)
        have hb0 : (W1.drewN nq).cell? ⟨B5, 0, none⟩ = some (.int .i64 n) := hbox0
        obtain ⟨ob, t0⟩ := hS2.t n hi128
        have t1 := hS2.f n hi128
        have hS3 := hS2.set n true
        clear hbox0 hbox2
        generalize W1.drewN nq = W2 at *
        go_wp2_with fail
        go_roundw
        case rel => exact ⟨1, rfl, by omega, hS3⟩
        case measure => simp [kO]; omega
      · obtain ⟨m, hmn, hpc⟩ := hprev1 hi0
        have hcm : decide ((m : Int) ≥ n) = false := by simp; omega
        go_quiet ((first | (go_at_call 14; exact quiet_same (in_any _ _)) | (go_at_call 15; exact quiet_same (Ok_zero _))))
        have hS2 := hS1.below (below_drewN (Below.refl _ _) nq)
        have hb0 : (W1.drewN nq).cell? ⟨B5, 0, none⟩ = some (.int .i64 n) := hbox0
        obtain ⟨ob, t0⟩ := hS2.t n hi128
        have t1 := hS2.f n hi128
        have hS3 := hS2.set n true
        clear hbox0 hbox2 hpc
        generalize W1.drewN nq = W2 at *
        go_wp2_with fail
        go_roundw
        case rel => exact ⟨i + 1, by go_num, by omega, hS3⟩
        case measure => simp [kO]; omega
    · have g0 := hS.g0
      have g1 := hS.g1
      have g2 := hS.g2
      have hb := hS.hb
      go_wp2_with fail
      go_loopw [61] (fun x w2 => x = .int .i64 0 ∧ w2 = wr) (fun _ _ => 0)
      case atStart => exact ⟨rfl, rfl⟩
      case round =>
        obtain ⟨rfl, rfl⟩ := hrel
        go_wp2_with fail
        go_loopw [128] (fun x w2 => x = .int .i64 0 ∧ w2 = wr) (fun _ _ => 0)
        case atStart => exact ⟨rfl, rfl⟩
        case round =>
          obtain ⟨rfl, rfl⟩ := hrel
          go_wp2_with fail
          go_ret
          exact ⟨rfl, hb⟩
end Go.Proofs.Ytcgjkllgfdgmeaa
