/- Copies, unions. -/
import Derived.Test.YtbbiakpieakfoaaH
import Derived.Test.YtbbiakpieakfoaaT
import Derived.Shelf.SlMaps.Clone
import Derived.Lib.SliceRun
namespace Go.Proofs.Ytbbiakpieakfoaa
open Go.RowKit

theorem maps_Clone_any (M : Nat) (es : Array MapEntry) (clock : Nat) (w : World) (hb : w.heap[M]? = some (.map es clock)) :
    Calls Try.prog 21 #[.map (some M)] w fun e w' => e = .returned (.map (some w.heap.size)) ∧ w' = w.alloc (.map es clock) := by
  have hq := fun w => run_eql_map_nil_sl (P := Try.prog) w 53 _ _ (some M) Try.underlying53
  go_enter Try.func21, Try.ntmps21
  go_wp2_with fail
  rw [run_callFunc_extern Try.func24 (by kernel_rfl) (by kernel_rfl) (by kernel_rfl) (e := Extern.MapsClone.clone) (by kernel_rfl), run_maps_clone_sl w 53 hb]
  simp only [Result.andThen]
  rw [Oper.upon_value]
  go_wp2
  rw [run_typeAssert_map_sl _ 53 20 _ _ _ Try.underlying53]
  simp only [Result.andThen]
  rw [Oper.upon_value]
  go_wp2
  go_ret
  exact ⟨rfl, rfl⟩

/-- What slices.Clone answers. -/
def SlC (w : World) (L : List Bt) (e : Ending) (w' : World) : Prop :=
  ∃ g cap, e = .returned (.slice (some ⟨g, 0, none⟩) L.length cap) ∧ w'.ownsRow 0 24 2 (.slice (some ⟨g, 0, none⟩) L.length cap) L.length (L.flatMap bc) ∧ Below w.heap.size w w' ∧ w.heap.size ≤ g
theorem slices_Clone_any (G cap : Nat) (L : List Bt) (w : World) (h : w.ownsRow 0 24 2 (.slice (some ⟨G, 0, none⟩) L.length cap) L.length (L.flatMap bc)) (hlen : L.length ≤ 1024) (hpos : 0 < L.length) :
    Calls Try.prog 22 #[.slice (some ⟨G, 0, none⟩) L.length cap] w (SlC w L) := by
  have hsl := SlR.of_owns h
  have hmr := made_row24 w _ rfl
  have hq := fun (w : World) => Lib.run_eql_slice_nil (P := Try.prog) w 39 24 (some ⟨G, 0, none⟩) L.length cap 0 0 Try.underlying39
  go_enter Try.func22, Try.ntmps22
  go_wp2_with (at_builtin; refine wpList_append_sl rfl _ _ 39 24 rfl w.heap.size (.agg #[.int .u64 0, .int .u64 0]) 2 16 Try.underlying39 info24 rfl (by decide) (by decide) (.slice (some ⟨w.heap.size, 0, none⟩) 0 0) 0 [] rfl hmr _ L.length (L.flatMap bc) rfl (hsl.alloc _) (Port.bc_all L) (by omega) (by simp) ?_; intro v1 w1 hown1 hg1 hat1; obtain ⟨g1, cap1, rfl, hr1⟩ := own_slice (by omega) hown1; rw [Nat.zero_add] at hown1)
  go_ret
  exact ⟨g1, cap1, rfl, owns_base0 (by simpa using hown1), id_grown rfl hg1, hr1.1⟩
/-- What Copy answers. -/
def CopyAns (w : World) (L : List Bt) (e : Ending) (w' : World) : Prop :=
  ∃ T M g, e = .returned (.pointer (some ⟨T, 0, none⟩)) ∧ Tab w' T M g L ∧ Below w.heap.size w w' ∧ w.heap.size ≤ T ∧ w.heap.size ≤ M ∧ w.heap.size ≤ g

structure CopyOk (w w' : World) (T M g cap : Nat) (L : List Bt) : Prop where
  c0 : w'.cell? ⟨T, 0, none⟩ = some (.map (some M))
  c1 : w'.cell? ⟨T, 1, none⟩ = some (.slice (some ⟨g, 0, none⟩) L.length cap)
  m : w'.heap[M]? = some (.map (entriesFrom 0 L).toArray L.length)
  o : w'.ownsRow 0 24 2 (.slice (some ⟨g, 0, none⟩) L.length cap) L.length (L.flatMap bc)
  b : Below w.heap.size w w'
theorem CopyOk.below {w w' w2 : World} {T M g cap : Nat} {L : List Bt} (h : CopyOk w w' T M g cap L) (hb : Below w'.heap.size w' w2) :
    w2.cell? ⟨T, 0, none⟩ = some (.map (some M)) ∧ w2.cell? ⟨T, 1, none⟩ = some (.slice (some ⟨g, 0, none⟩) L.length cap) ∧ CopyOk w w2 T M g cap L := by
  have k := Keep.of_below (S := fun _ => False) hb
  have h0 := k.cell h.c0 (by simp)
  have h1 := k.cell h.c1 (by simp)
  exact ⟨h0, h1, h0, h1, k.obj h.m (by simp), k.owns h.o (by simp), h.b.trans (hb.mono h.b.size)⟩

theorem copy_m {w w' : World} {T M g cap : Nat} {L : List Bt} (h : w'.cell? ⟨T, 0, none⟩ = some (.map (some M)) ∧ w'.cell? ⟨T, 1, none⟩ = some (.slice (some ⟨g, 0, none⟩) L.length cap) ∧ CopyOk w w' T M g cap L) : w'.heap[M]? = some (.map (entriesFrom 0 L).toArray L.length) := h.2.2.m
theorem copy_o {w w' : World} {T M g cap : Nat} {L : List Bt} (h : w'.cell? ⟨T, 0, none⟩ = some (.map (some M)) ∧ w'.cell? ⟨T, 1, none⟩ = some (.slice (some ⟨g, 0, none⟩) L.length cap) ∧ CopyOk w w' T M g cap L) : w'.ownsRow 0 24 2 (.slice (some ⟨g, 0, none⟩) L.length cap) L.length (L.flatMap bc) := h.2.2.o
theorem copy_b {w w' w2 : World} {T M g cap : Nat} {L : List Bt} (h : w'.cell? ⟨T, 0, none⟩ = some (.map (some M)) ∧ w'.cell? ⟨T, 1, none⟩ = some (.slice (some ⟨g, 0, none⟩) L.length cap) ∧ CopyOk w w' T M g cap L) (hb : Below w'.heap.size w' w2) :
    w2.cell? ⟨T, 0, none⟩ = some (.map (some M)) ∧ w2.cell? ⟨T, 1, none⟩ = some (.slice (some ⟨g, 0, none⟩) L.length cap) ∧ CopyOk w w2 T M g cap L := h.2.2.below hb
theorem alloc_eq_below {w w1 : World} {o : Obj} (h : w1 = w.alloc o) : Below w.heap.size w w1 := h ▸ (Below.refl _ _).alloc (Nat.le_refl _) _
theorem alloc_eq_obj {w w1 : World} {o : Obj} (h : w1 = w.alloc o) : w1.heap[w.heap.size]? = some o := h ▸ heap_alloc_new _ _

set_option maxHeartbeats 4000000 in
set_option maxRecDepth 100000 in
theorem Copy_any (T M g : Nat) (L : List Bt) (w : World) (h : Tab w T M g L) (hlen : L.length ≤ 1024) (hpos : 0 < L.length) :
    Calls Try.prog 18 #[.pointer (some ⟨T, 0, none⟩)] w (CopyAns w L) := by
  obtain ⟨cap, c0, c1, _, _, hM, ho⟩ := h.cells
  have hlt := h.lt
  have hok : CopyOk w w T M g cap L := ⟨c0, c1, hM, ho, Below.refl _ _⟩
  clear hM ho
  go_enter Try.func18, Try.ntmps18
  go_wp2_with fail
  go_region_held3 (fun w' => w'.cell? ⟨T, 0, none⟩ = some (.map (some M)) ∧ w'.cell? ⟨T, 1, none⟩ = some (.slice (some ⟨g, 0, none⟩) L.length cap) ∧ CopyOk w w' T M g cap L) ((first | exact hok.below (below_drewN (Below.refl _ _) 1) | assumption | exact copy_b (by assumption) hb2 | exact copy_b (by assumption) hbm | exact hok.below (((Below.refl _ _).alloc (Nat.le_refl _) _).drew) | exact copy_b (by assumption) ((Below.refl _ _).alloc (Nat.le_refl _) _)))
    (first | (go_at_call 21; refine (maps_Clone_any M _ _ _ (copy_m (T := T) (g := g) (cap := cap) (w := w) (by assumption))).mono ?_; rintro e w1 ⟨rfl, hw1⟩; have hbm := alloc_eq_below hw1; have hm1 := alloc_eq_obj hw1) | (go_at_call 22; refine (slices_Clone_any g cap L _ (copy_o (T := T) (M := M) (w := w) (by assumption)) hlen hpos).mono ?_; rintro e w2 ⟨g2, cap2, rfl, hown2, hb2, hg2⟩))
  go_wp2
  go_ret
  have hBw : Below w.heap.size w (w.alloc (Obj.map (entriesFrom 0 L).toArray L.length)).drew := ((Below.refl _ _).alloc (Nat.le_refl _) _).drew
  have hz : (w.alloc (Obj.map (entriesFrom 0 L).toArray L.length)).drew.heap.size = w.heap.size + 1 := by simp
  rw [hz] at hb2 hg2
  have hB2 := hBw.trans (hb2.mono (by omega))
  have hmm : w2.heap[w.heap.size]? = some (.map (entriesFrom 0 L).toArray L.length) := (hb2.block w.heap.size (by omega)).trans (heap_alloc_new w _)
  have hsz2 : w.heap.size + 1 ≤ w2.heap.size := hz ▸ hb2.size
  refine ⟨w2.heap.size, w.heap.size, g2, rfl, ⟨cap2, heap_alloc_new w2 _, ?_, hown2.alloc _⟩, hB2.alloc hB2.size _, hB2.size, Nat.le_refl _, by omega⟩
  rw [Below.heap_alloc _ _ _ (by omega)]
  exact hmm
/-! ### Set and Union of any numbers -/
def atI (L : List Bt) (n : Int) : Option Bt := if 0 ≤ n then L[n.toNat]? else none
def setR (L : List Bt) (n : Int) : Bt × Nat := match atI L n with
  | some s => (s, 0)
  | none => ((0, 0), 2)
def unionR (L : List Bt) (a b : Int) : Nat × Nat × List Bt := match atI L a, atI L b with
  | some x, some y => idRes (orB x y) L
  | _, _ => (0, 2, L)
theorem atI_in {L : List Bt} {i : Nat} (h : i < L.length) : atI L (i : Int) = some L[i] := by simp [atI, h]
theorem atI_out {L : List Bt} {n : Int} (h : n < 0 ∨ (L.length : Int) ≤ n) : atI L n = none := by
  unfold atI
  split
  · rw [List.getElem?_eq_none]
    omega
  · rfl
theorem inOut (L : List Bt) (n : Int) : (∃ i : Nat, n = i ∧ i < L.length) ∨ (n < 0 ∨ (L.length : Int) ≤ n) := by
  by_cases h : n < 0 ∨ (L.length : Int) ≤ n
  · exact .inr h
  · exact .inl ⟨n.toNat, by omega, by omega⟩

theorem refSet_any (v : Value) (G : Nat) (n : Int) (L : List Bt) (w : World) (h : RefT w v L G) :
    Calls Try.prog 16 #[.agg #[v], .int .i64 n] w fun e w' => e = .returned (.tuple #[bv (setR L n).1, .int .i64 ((setR L n).2 : Nat)]) ∧ Below w.heap.size w w' := by
  rcases inOut L n with ⟨i, rfl, hi⟩ | ho
  · have e : setR L (i : Int) = (L[i], 0) := by simp [setR, atI_in hi]
    rw [e]
    exact refSet_in v G i L w h hi
  · have e : setR L n = ((0, 0), 2) := by simp [setR, atI_out ho]
    rw [e]
    exact refSet_out v G n L w h ho
theorem Set_any (T M g : Nat) (n : Int) (L : List Bt) (w : World) (h : Tab w T M g L) :
    Calls Try.prog 11 #[.pointer (some ⟨T, 0, none⟩), .int .i64 n] w fun e w' => e = .returned (.tuple #[bv (setR L n).1, .int .i64 ((setR L n).2 : Nat)]) ∧ Below w.heap.size w w' := by
  rcases inOut L n with ⟨i, rfl, hi⟩ | ho
  · have e : setR L (i : Int) = (L[i], 0) := by simp [setR, atI_in hi]
    rw [e]
    exact Set_in T M g i L w h hi
  · have e : setR L n = ((0, 0), 2) := by simp [setR, atI_out ho]
    rw [e]
    exact Set_out T M g n L w h ho

/-- What ID and Union of a table answer. -/
def TabAns (w : World) (T M g : Nat) (R : Nat × Nat × List Bt) (e : Ending) (w' : World) : Prop :=
  e = .returned (.tuple #[.int .i64 (R.1 : Nat), .int .i64 (R.2.1 : Nat)]) ∧ ∃ g', Tab w' T M g' R.2.2 ∧ Keep (fun k => k = T ∨ k = M ∨ k = g) w w' ∧ (g' = g ∨ w.heap.size ≤ g')

theorem setR_err (L : List Bt) (n : Int) : (setR L n).2 = 0 ∨ (setR L n).2 = 2 := by
  unfold setR
  split <;> simp
theorem unionR_out (L : List Bt) (a b : Int) (h : ¬ ((setR L a).2 = 0 ∧ (setR L b).2 = 0)) : unionR L a b = (0, 2, L) := by
  unfold unionR
  unfold setR at h
  split
  · rename_i x y hx hy
    simp [hx, hy] at h
  · rfl
theorem unionR_in (L : List Bt) (a b : Int) (ha : (setR L a).2 = 0) (hb : (setR L b).2 = 0) : unionR L a b = idRes (orB (setR L a).1 (setR L b).1) L := by
  unfold unionR setR at *
  split
  · rename_i x y hx hy
    simp [hx, hy]
  · rename_i hn
    cases hx : atI L a with
    | none => simp [hx] at ha
    | some x =>
      cases hy : atI L b with
      | none => simp [hy] at hb
      | some y => exact (hn x y hx hy).elim

set_option maxHeartbeats 1000000 in
set_option maxRecDepth 100000 in
theorem Union_any (T M g : Nat) (a b : Int) (L : List Bt) (w : World) (h : Tab w T M g L) :
    Calls Try.prog 10 #[.pointer (some ⟨T, 0, none⟩), .int .i64 a, .int .i64 b] w (TabAns w T M g (unionR L a b)) := by
  obtain ⟨P, hP⟩ : ∃ P, Veil (setR L a = P) := ⟨_, ⟨rfl⟩⟩
  obtain ⟨Q, hQ⟩ : ∃ Q, Veil (setR L b = Q) := ⟨_, ⟨rfl⟩⟩
  obtain ⟨R, hR⟩ : ∃ R, Veil (unionR L a b = R) := ⟨_, ⟨rfl⟩⟩
  rw [hR.out]
  have rP : Veil (P.2 = 0 ∨ P.2 = 2) := ⟨hP.out ▸ setR_err L a⟩
  have rQ : Veil (Q.2 = 0 ∨ Q.2 = 2) := ⟨hQ.out ▸ setR_err L b⟩
  have hin : Veil (P.2 = 0 → Q.2 = 0 → R = idRes (orB P.1 Q.1) L) := ⟨by rw [← hP.out, ← hQ.out, ← hR.out]; exact unionR_in L a b⟩
  have hout : Veil (¬ (P.2 = 0 ∧ Q.2 = 0) → R = (0, 2, L)) := ⟨by rw [← hP.out, ← hQ.out, ← hR.out]; exact unionR_out L a b⟩
  go_enter Try.func10, Try.ntmps10
  go_wp2_with fail
  refine (Set_any T M g a L w h).mono ?_
  rintro e w1 ⟨rfl, hb1⟩
  rw [hP.out]
  have h1 := h.below hb1
  go_wp2_with fail
  refine (Set_any T M g b L _ (h1.below ((Below.refl _ _).alloc (Nat.le_refl _) _))).mono ?_
  rintro e w2 ⟨rfl, hb2⟩
  rw [hQ.out]
  have k0 := box_cell' hb2 0 _ rfl
  have k1 := box_cell' hb2 1 _ rfl
  have h2 := (h1.below ((Below.refl _ _).alloc (Nat.le_refl _) _)).below hb2
  have hB : Below w.heap.size w w2 := hb1.trans (((Below.refl w.heap.size w1).alloc hb1.size _).trans (hb2.mono (by have := hb1.size; simp; omega)))
  have HB := Lib.hid hB
  clear hb1 hb2 hB
  obtain ⟨p, pe⟩ := P
  obtain ⟨q, qe⟩ := Q
  dsimp only at rP rQ hin hout k0 k1 ⊢
  rcases rP.out with rfl | rfl
  · rcases rQ.out with rfl | rfl
    · have hRk := hin.out rfl rfl
      subst hRk
      clear hin hout rP rQ hP hQ hR
      go_wp2_with fail
      refine (Or_any p q _).mono ?_
      rintro e w3 ⟨rfl, hb3⟩
      have h3 := (h2.below ((Below.refl _ _).alloc (Nat.le_refl _) _)).below hb3
      have HB3 : Hid (Below w.heap.size w w3) := HB.out.trans (((Below.refl w.heap.size w2).alloc HB.out.size _).trans (hb3.mono (by have := HB.out.size; simp; omega)))
      clear hb3 k0 k1
      go_wp2_with fail
      refine (ID_any (orB p q) T M g L _ h3).mono ?_
      rintro e w4 ⟨rfl, g', h4, hk, hg⟩
      go_wp2_with fail
      go_ret2
      refine ⟨rfl, g', h4, (Keep.of_below HB3.out).trans (hk.mono (fun _ _ h => h)) , ?_⟩
      have := HB3.out.size
      rcases hg with hg | hg
      · exact .inl hg
      · exact .inr (by omega)
    · have hRk := hout.out (by simp)
      subst hRk
      clear hin hout rP rQ hP hQ hR
      go_wp2_with fail
      go_ret2
      exact ⟨rfl, g, h2.below ((Below.refl _ _).alloc (Nat.le_refl _) _), Keep.of_below (HB.out.alloc HB.out.size _), .inl rfl⟩
  · have hRk := hout.out (by simp)
    subst hRk
    clear hin hout hP hQ hR
    rcases rQ.out with rfl | rfl
    · clear rP rQ
      go_wp2_with fail
      go_ret2
      exact ⟨rfl, g, h2.below ((Below.refl _ _).alloc (Nat.le_refl _) _), Keep.of_below (HB.out.alloc HB.out.size _), .inl rfl⟩
    · clear rP rQ
      go_wp2_with fail
      go_ret2
      exact ⟨rfl, g, h2.below ((Below.refl _ _).alloc (Nat.le_refl _) _), Keep.of_below (HB.out.alloc HB.out.size _), .inl rfl⟩
end Go.Proofs.Ytbbiakpieakfoaa
