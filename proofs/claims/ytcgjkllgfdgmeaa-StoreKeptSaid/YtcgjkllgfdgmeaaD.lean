/- Graphs of nodes alone: a row of nodes of one's own; clone. -/
import Derived.Test.YtcgjkllgfdgmeaaC
import Derived.BigRegion
import Derived.Laws.ResultCell
namespace Go.Proofs.Ytcgjkllgfdgmeaa
open Go.RowKit

theorem info56 : (Try.prog.info? 56).map (fun i => (i.zero, i.size, i.bytes)) = some (some (.agg #[.int .i64 0, .bool false, .complex .f64 0 0]), 3, 32) := by kernel_rfl
theorem nd_one (ids : List Nat) : ∀ u ∈ ids.flatMap nd, u.oneCell' = true := by
  intro u hu
  obtain ⟨n, _, h⟩ := List.mem_flatMap.1 hu
  simp [nd] at h
  rcases h with rfl | rfl | rfl <;> rfl
/-- v is a row of nodes that the call made. -/
def NO (w : World) (base : Nat) (v : Value) (ids : List Nat) : Prop := w.ownsRow base 56 3 v ids.length (ids.flatMap nd)
theorem NO.ns {w : World} {base : Nat} {v : Value} {ids : List Nat} (h : NO w base v ids) : NS w v ids := SlR.of_owns h
theorem NO.nil (w : World) (base : Nat) : NO w base (.slice none 0 0) [] := World.ownsRow_nil _ _ _ _
theorem NO.row {w : World} {base : Nat} {v : Value} {ids : List Nat} (h : NO w base v ids) (hn : 0 < ids.length) : ∃ G cap, v = .slice (some ⟨G, 0, none⟩) ids.length cap ∧ base ≤ G ∧ G < w.heap.size ∧ ids.length ≤ cap ∧ cap ≤ maxLen ∧
    ∀ i, i < ids.length → w.cell? ⟨G, i * 3 + 2, none⟩ = some (.complex .f64 0 0) ∧ w.frozen? ⟨G, i * 3 + 2, none⟩ = false := by
  have hl := World.ownsRow.lt h
  have hc := fun g hg => World.ownsRow.cells h (g := g) hg
  rcases h.2 with ⟨_, e⟩ | ⟨G, cap, cur, rfl, hb, hh, r⟩
  · omega
  · refine ⟨G, cap, rfl, hb, (hl G rfl).2, r.1, r.2.1, fun i hi => ?_⟩
    have h2 := nd_at ids i hi 2 (by omega)
    have hx := hc G rfl _ _ h2
    rw [Addr.add_at] at hx
    simp only [Nat.zero_add] at hx
    exact ⟨hx, by simp [World.frozen?, hh]⟩
theorem set_same {A : Type} : ∀ (l : List A) (j : Nat) (x : A), l[j]? = some x → l.set j x = l
  | [], _, _, h => by simp at h
  | y :: l, 0, x, h => by simp at h; subst h; rfl
  | y :: l, j + 1, x, h => by rw [List.set_cons_succ, set_same l j x (by simpa using h)]
theorem NO.again {w : World} {base G cap : Nat} {ids : List Nat} (h : NO w base (.slice (some ⟨G, 0, none⟩) ids.length cap) ids) (i : Nat) (hi : i < ids.length) :
    NO (w.setCell ⟨G, i * 3 + 2, none⟩ (.complex .f64 0 0)) base (.slice (some ⟨G, 0, none⟩) ids.length cap) ids := by
  have o1 := (World.ownsRow.stored h (i * 3 + 2) (.complex .f64 0 0)).1
  rw [set_same _ _ _ (nd_at ids i hi 2 (by omega))] at o1
  exact o1
theorem NO.below {w w' : World} {base : Nat} {v : Value} {ids : List Nat} (h : NO w base v ids) (b : Below w.heap.size w w') : NO w' base v ids := (Keep.of_below (S := fun _ => False) b).owns h (fun _ _ h => h)
theorem NO.mono {w : World} {base b2 : Nat} {v : Value} {ids : List Nat} (h : NO w base v ids) (hb : b2 ≤ base) : NO w b2 v ids := by
  rcases h.2 with e | ⟨G, cap, cur, e, hB, r⟩
  · exact ⟨h.1, .inl e⟩
  · exact ⟨h.1, .inr ⟨G, cap, cur, e, Nat.le_trans hb hB, r⟩⟩
/-- What lies while clone goes over the nodes. -/
structure ClS (w wr : World) (B : Nat) (v : Value) (ids : List Nat) : Prop where
  no : NO wr (B + 2) v ids
  hb : Below B w wr
  hlt : B + 2 ≤ wr.heap.size
  b1 : wr.cell? ⟨B, 1, none⟩ = some (.slice none 0 0)
  b2 : wr.cell? ⟨B, 2, none⟩ = some (.slice none 0 0)
  r0 : wr.cell? ⟨B + 1, 0, none⟩ = some (.slice none 0 0)
  r1 : wr.cell? ⟨B + 1, 1, none⟩ = some (.slice none 0 0)
  r2 : wr.cell? ⟨B + 1, 2, none⟩ = some (.slice none 0 0)
  f : ∀ j, wr.frozen? ⟨B + 1, j, none⟩ = false
theorem ClS.set {w wr : World} {B G cap : Nat} {ids : List Nat} (h : ClS w wr B (.slice (some ⟨G, 0, none⟩) ids.length cap) ids) (hG : B + 2 ≤ G) (i : Nat) (hi : i < ids.length) :
    ClS w (wr.setCell ⟨G, i * 3 + 2, none⟩ (.complex .f64 0 0)) B (.slice (some ⟨G, 0, none⟩) ids.length cap) ids := by
  have hx : ∀ {b k : Nat} {u : Value}, b < B + 2 → wr.cell? ⟨b, k, none⟩ = some u → (wr.setCell ⟨G, i * 3 + 2, none⟩ (.complex .f64 0 0)).cell? ⟨b, k, none⟩ = some u := fun {b k u} hb e => by
    rw [World.cell?_setCell_other _ _ _ _ (by intro e; injection e with e1 e2; omega)]; exact e
  exact ⟨h.no.again i hi, h.hb.setCell (show B ≤ (⟨G, i * 3 + 2, none⟩ : Addr).block from by show B ≤ G; omega) _, by rw [World.size_setCell]; exact h.hlt, hx (by omega) h.b1, hx (by omega) h.b2, hx (by omega) h.r0, hx (by omega) h.r1, hx (by omega) h.r2, fun j => by rw [World.frozen?_setCell]; exact h.f j⟩
/-- Results that lie in a variable of three cells. -/
theorem results_cell1 {fn : Func} {p : Tmp} {ty : TypeId} (h : fn.results = #[.cell p ty]) (tmps : Array Value) (P : Program) (w : World) :
    (results fn tmps).run P w = ((asAddr (tmps.getD p undef)).run P w).andThen fun a w₁ => ((loadVar ty a).run P w₁) := by
  simp only [results, h]
  simp [Sem.run_bind, Result.andThen]
theorem results_cell3 {fn : Func} {p u q : Tmp} {ty : TypeId} (h : fn.results = #[.cell p ty, .tmp u, .tmp q]) (tmps : Array Value) (P : Program) (w : World) :
    (results fn tmps).run P w = ((asAddr (tmps.getD p undef)).run P w).andThen fun a w₁ => ((loadVar ty a).run P w₁).andThen fun v w₂ => .ok (.tuple #[v, tmps.getD u undef, tmps.getD q undef]) w₂ := by
  simp only [results, h]
  simp [Sem.run_bind, Result.andThen]
theorem res12 (w : World) (tmps : Array Value) (R : Nat) (x y z : Value) (hp : tmps.getD 2 undef = .pointer (some ⟨R, 0, none⟩)) (h0 : w.cell? ⟨R, 0, none⟩ = some x) (h1 : w.cell? ⟨R, 1, none⟩ = some y) (h2 : w.cell? ⟨R, 2, none⟩ = some z) :
    (results Try.f12 tmps).run Try.prog w = .ok (.agg #[x, y, z]) w := by
  rw [results_cell1 (p := 2) (ty := 30) rfl, hp]
  go_simp
theorem res9 (w : World) (tmps : Array Value) (R : Nat) (x y z u v : Value) (hp : tmps.getD 4 undef = .pointer (some ⟨R, 0, none⟩)) (hu : tmps.getD 5 undef = u) (hv : tmps.getD 6 undef = v) (h0 : w.cell? ⟨R, 0, none⟩ = some x) (h1 : w.cell? ⟨R, 1, none⟩ = some y) (h2 : w.cell? ⟨R, 2, none⟩ = some z) :
    (results Try.f9 tmps).run Try.prog w = .ok (.tuple #[.agg #[x, y, z], u, v]) w := by
  rw [results_cell3 (p := 4) (u := 5) (q := 6) (ty := 30) rfl, hp, hu, hv]
  go_simp
theorem res7 (w : World) (tmps : Array Value) (R : Nat) (x y z e : Value) (hp : tmps.getD 4 undef = .pointer (some ⟨R, 0, none⟩)) (he : tmps.getD 5 undef = e) (h0 : w.cell? ⟨R, 0, none⟩ = some x) (h1 : w.cell? ⟨R, 1, none⟩ = some y) (h2 : w.cell? ⟨R, 2, none⟩ = some z) :
    (results Try.f7 tmps).run Try.prog w = .ok (.tuple #[.agg #[x, y, z], e]) w := by
  rw [results_cell_tmp (p := 4) (u := 5) (ty := 30) rfl, hp, he]
  go_simp
theorem res10 (w : World) (tmps : Array Value) (R : Nat) (x y z e : Value) (hp : tmps.getD 4 undef = .pointer (some ⟨R, 0, none⟩)) (he : tmps.getD 5 undef = e) (h0 : w.cell? ⟨R, 0, none⟩ = some x) (h1 : w.cell? ⟨R, 1, none⟩ = some y) (h2 : w.cell? ⟨R, 2, none⟩ = some z) :
    (results Try.f10 tmps).run Try.prog w = .ok (.tuple #[.agg #[x, y, z], e]) w := by
  rw [results_cell_tmp (p := 4) (u := 5) (ty := 30) rfl, hp, he]
  go_simp
/-- Three cells of a box, written. -/
theorem three_set {w : World} {R : Nat} {x y z : Value} (x' y' z' : Value) (h0 : w.cell? ⟨R, 0, none⟩ = some x) (h1 : w.cell? ⟨R, 1, none⟩ = some y) (h2 : w.cell? ⟨R, 2, none⟩ = some z) :
    (((w.setCell ⟨R, 0, none⟩ x').setCell ⟨R, 1, none⟩ y').setCell ⟨R, 2, none⟩ z').cell? ⟨R, 0, none⟩ = some x' ∧ (((w.setCell ⟨R, 0, none⟩ x').setCell ⟨R, 1, none⟩ y').setCell ⟨R, 2, none⟩ z').cell? ⟨R, 1, none⟩ = some y' ∧
    (((w.setCell ⟨R, 0, none⟩ x').setCell ⟨R, 1, none⟩ y').setCell ⟨R, 2, none⟩ z').cell? ⟨R, 2, none⟩ = some z' := by
  have k0 := World.cell?_setCell_same w ⟨R, 0, none⟩ x' h0
  have k1 : (w.setCell ⟨R, 0, none⟩ x').cell? ⟨R, 1, none⟩ = some y := (World.cell?_setCell_other _ _ _ _ (by simp)).trans h1
  have k2 : ((w.setCell ⟨R, 0, none⟩ x').setCell ⟨R, 1, none⟩ y').cell? ⟨R, 2, none⟩ = some z := ((World.cell?_setCell_other _ _ _ _ (by simp)).trans (World.cell?_setCell_other _ _ _ _ (by simp))).trans h2
  have l0 : ((w.setCell ⟨R, 0, none⟩ x').setCell ⟨R, 1, none⟩ y').cell? ⟨R, 0, none⟩ = some x' := (World.cell?_setCell_other _ _ _ _ (by simp)).trans k0
  have l1 := World.cell?_setCell_same (w.setCell ⟨R, 0, none⟩ x') ⟨R, 1, none⟩ y' k1
  exact ⟨(World.cell?_setCell_other _ _ _ _ (by simp)).trans l0, (World.cell?_setCell_other _ _ _ _ (by simp)).trans l1, World.cell?_setCell_same _ _ _ k2⟩
theorem three_keep {S : Nat → Prop} {w w' : World} (h : Keep S w w') (R : Nat) (x y z : Value) (hR : S R ∨ w.heap.size ≤ R) : Keep S w (((w'.setCell ⟨R, 0, none⟩ x).setCell ⟨R, 1, none⟩ y).setCell ⟨R, 2, none⟩ z) :=
  ((h.setCell ⟨R, 0, none⟩ x hR).setCell ⟨R, 1, none⟩ y hR).setCell ⟨R, 2, none⟩ z hR
set_option maxHeartbeats 8000000 in
set_option maxRecDepth 100000 in
theorem clone_any (v : Value) (ids : List Nat) (w : World) (h : NS w v ids) (hl : ids.length ≤ 128) :
    Calls Try.prog 12 #[.agg #[v, .slice none 0 0, .slice none 0 0]] w fun e w' => ∃ v', e = .returned (.agg #[v', .slice none 0 0, .slice none 0 0]) ∧ NO w' w.heap.size v' ids ∧ Below w.heap.size w w' := by
  obtain ⟨a, cap, rfl, hm, hc⟩ := h.form
  have hA1 := (Below.refl _ w).alloc (Nat.le_refl _) (.cells #[.slice a ids.length cap, .slice none 0 0, .slice none 0 0] 30)
  have hA2 := (Below.refl _ (w.alloc (.cells #[.slice a ids.length cap, .slice none 0 0, .slice none 0 0] 30))).alloc (Nat.le_refl _) (.cells #[.slice none 0 0, .slice none 0 0, .slice none 0 0] 30)
  have hsz : (w.alloc (.cells #[.slice a ids.length cap, .slice none 0 0, .slice none 0 0] 30)).heap.size = w.heap.size + 1 := by simp
  have b0 := box_new w #[.slice a ids.length cap, .slice none 0 0, .slice none 0 0] 30 0 _ rfl
  have b1 := box_new w #[.slice a ids.length cap, .slice none 0 0, .slice none 0 0] 30 1 _ rfl
  have b2 := box_new w #[.slice a ids.length cap, .slice none 0 0, .slice none 0 0] 30 2 _ rfl
  have c0 := (hA2.cell (World.block_lt_of_cell? _ _ b0)).trans b0
  have c1 := (hA2.cell (World.block_lt_of_cell? _ _ b1)).trans b1
  have c2 := (hA2.cell (World.block_lt_of_cell? _ _ b2)).trans b2
  have r0 := box_new (w.alloc (.cells #[.slice a ids.length cap, .slice none 0 0, .slice none 0 0] 30)) #[.slice none 0 0, .slice none 0 0, .slice none 0 0] 30 0 _ rfl
  have r1 := box_new (w.alloc (.cells #[.slice a ids.length cap, .slice none 0 0, .slice none 0 0] 30)) #[.slice none 0 0, .slice none 0 0, .slice none 0 0] 30 1 _ rfl
  have r2 := box_new (w.alloc (.cells #[.slice a ids.length cap, .slice none 0 0, .slice none 0 0] 30)) #[.slice none 0 0, .slice none 0 0, .slice none 0 0] 30 2 _ rfl
  have rf := fun j => free_new (w.alloc (.cells #[.slice a ids.length cap, .slice none 0 0, .slice none 0 0] 30)) #[.slice none 0 0, .slice none 0 0, .slice none 0 0] 30 j
  rw [hsz] at r0 r1 r2
  simp only [hsz] at rf
  have hb2 := hA1.trans (hA2.mono hA1.size)
  have hs2 : ((w.alloc (.cells #[.slice a ids.length cap, .slice none 0 0, .slice none 0 0] 30)).alloc (.cells #[.slice none 0 0, .slice none 0 0, .slice none 0 0] 30)).heap.size = w.heap.size + 2 := by simp
  clear b0 b1 b2 hA1 hA2 hsz
  go_enter Try.func12, Try.ntmps12
  generalize hW2 : (w.alloc (.cells #[.slice a ids.length cap, .slice none 0 0, .slice none 0 0] 30)).alloc (.cells #[.slice none 0 0, .slice none 0 0, .slice none 0 0] 30) = W2 at *
  have hW := hW2
  clear hW2
  have hns : NS W2 (.slice a ids.length cap) ids := hc.below hb2
  go_wp2_with (at_builtin; refine wpList_append_sl rfl _ _ 26 56 rfl (w.heap.size + 2) _ 3 32 Try.underlying26 info56 rfl (by decide) (by decide) (.slice none 0 0) 0 [] rfl (World.ownsRow_nil _ _ _ _) (.slice a ids.length cap) ids.length (ids.flatMap nd) rfl hns (nd_one ids) (by omega) (by omega) ?_; intro v1 w3 ho hg hbl; have hno : NO w3 (w.heap.size + 2) v1 ids := (by rw [Nat.zero_add, List.nil_append] at ho; exact ho); have hK := Keep.grown (Keep.refl (fun _ => False) W2) hg (fun k e => (by cases e)); obtain ⟨a1, cp1, rfl, _, _⟩ := hno.ns.form)
  have hK2 : Below W2.heap.size W2 w3 := hK.below (fun k hk => ⟨hk, fun e => e⟩)
  have hS : ClS w w3 w.heap.size (.slice a1 ids.length cp1) ids :=
    ⟨hno, hb2.trans (hK2.mono hb2.size), by have := hK2.size; omega, hK.cell c1 (fun e => e), hK.cell c2 (fun e => e), hK.cell r0 (fun e => e), hK.cell r1 (fun e => e), hK.cell r2 (fun e => e), fun j => hK.unfrozen (by show w.heap.size + 1 < _; omega) (rf j) (fun e => e)⟩
  clear hno hK hK2 hns c0 c1 c2 r0 r1 r2 rf hb2 hs2 hg hbl ho hW
  generalize hBB : w.heap.size = B at hS ⊢
  go_loopw [10] (fun x wr => ∃ i : Nat, x = .int .i64 i ∧ i ≤ ids.length ∧ ClS w wr B (.slice a1 ids.length cp1) ids) (fun x _ => ids.length - (kO x).toNat)
  case atStart => exact ⟨0, rfl, Nat.zero_le _, hS⟩
  case round =>
    clear hS
    obtain ⟨i, rfl, hi, hS⟩ := hrel
    by_cases hlt : i < ids.length
    · obtain ⟨G, cp, hGe, hG1, hG2, hcp, hcm, hq⟩ := hS.no.row (by omega)
      injection hGe with e1 e2 e3
      subst e1
      subst e3
      obtain ⟨q, qf⟩ := hq i hlt
      have hS2 := hS.set hG1 i hlt
      have hcx := store_c
      go_wp2_with (go_at_call 22; refine (plain_zero _).mono ?_; rintro e w4 ⟨rfl, rfl⟩)
      go_roundw
      case rel => exact ⟨i + 1, by go_num, by omega, hS2⟩
      case measure => simp [kO]; omega
    · have hb := hS.hb
      have hno := hS.no
      have b1 := hS.b1
      have b2 := hS.b2
      have r0 := hS.r0
      have r1 := hS.r1
      have r2 := hS.r2
      have rf := hS.f
      go_wp2_with fail
      go_region
      go_wp2
      obtain ⟨k0, k1, k2⟩ := three_set (.slice a1 ids.length cp1) (.slice none 0 0) (.slice none 0 0) r0 r1 r2
      refine bodyPost_ret (res12 _ _ (B + 1) _ _ _ rfl k0 k1 k2) rfl ?_
      have hK := three_keep (Keep.refl (fun k => k = B + 1) wr) (B + 1) (.slice a1 ids.length cp1) (.slice none 0 0) (.slice none 0 0) (.inl rfl)
      refine ⟨_, rfl, ?_, ?_⟩
      · rw [hBB]
        have := hK.owns hno (fun k hk e => by have := (World.ownsRow.lt hno k hk).1; omega)
        exact NO.mono (base := B + 2) this (by omega)
      · rw [hBB]
        exact (Below.keep hb (by have := hS.hlt; omega) hK (fun k hk => by omega)).drew
end Go.Proofs.Ytcgjkllgfdgmeaa
