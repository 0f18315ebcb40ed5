/- Graphs of nodes alone: Apply of at most one edit. -/
import Derived.Test.YtcgjkllgfdgmeaaE
namespace Go.Proofs.Ytcgjkllgfdgmeaa
open Go.RowKit

/-- A graph's box B and a box B + 1 of nothing behind it. -/
structure TwoS (w wr : World) (B : Nat) (v : Value) : Prop where
  hb : Below B w wr
  hlt : B + 2 ≤ wr.heap.size
  c0 : wr.cell? ⟨B, 0, none⟩ = some v
  c1 : wr.cell? ⟨B, 1, none⟩ = some (.slice none 0 0)
  c2 : wr.cell? ⟨B, 2, none⟩ = some (.slice none 0 0)
  r0 : wr.cell? ⟨B + 1, 0, none⟩ = some (.slice none 0 0)
  r1 : wr.cell? ⟨B + 1, 1, none⟩ = some (.slice none 0 0)
  r2 : wr.cell? ⟨B + 1, 2, none⟩ = some (.slice none 0 0)
  f : ∀ j, wr.frozen? ⟨B + 1, j, none⟩ = false
theorem TwoS.below {w wr w2 : World} {B : Nat} {v : Value} (h : TwoS w wr B v) (b : Below wr.heap.size wr w2) : TwoS w w2 B v :=
  have hx : ∀ {x : Nat} {i : Nat} {u : Value}, wr.cell? ⟨x, i, none⟩ = some u → w2.cell? ⟨x, i, none⟩ = some u := fun {x i u} e => (b.cell (World.block_lt_of_cell? wr _ e)).trans e
  ⟨h.hb.trans (b.mono (by have := h.hlt; omega)), Nat.le_trans h.hlt b.size, hx h.c0, hx h.c1, hx h.c2, hx h.r0, hx h.r1, hx h.r2, fun j => (b.frozen (p := ⟨B + 1, j, none⟩) (by have := h.hlt; show B + 1 < _; omega)).trans (h.f j)⟩
theorem TwoS.new (w : World) (v : Value) : TwoS w ((w.alloc (.cells #[v, .slice none 0 0, .slice none 0 0] 30)).alloc (.cells #[.slice none 0 0, .slice none 0 0, .slice none 0 0] 30)) w.heap.size v := by
  have hA1 := (Below.refl _ w).alloc (Nat.le_refl _) (.cells #[v, .slice none 0 0, .slice none 0 0] 30)
  have hA2 := (Below.refl _ (w.alloc (.cells #[v, .slice none 0 0, .slice none 0 0] 30))).alloc (Nat.le_refl _) (.cells #[.slice none 0 0, .slice none 0 0, .slice none 0 0] 30)
  have hsz : (w.alloc (.cells #[v, .slice none 0 0, .slice none 0 0] 30)).heap.size = w.heap.size + 1 := by simp
  have b0 := box_new w #[v, .slice none 0 0, .slice none 0 0] 30 0 _ rfl
  have b1 := box_new w #[v, .slice none 0 0, .slice none 0 0] 30 1 _ rfl
  have b2 := box_new w #[v, .slice none 0 0, .slice none 0 0] 30 2 _ rfl
  have r0 := box_new (w.alloc (.cells #[v, .slice none 0 0, .slice none 0 0] 30)) #[.slice none 0 0, .slice none 0 0, .slice none 0 0] 30 0 _ rfl
  have r1 := box_new (w.alloc (.cells #[v, .slice none 0 0, .slice none 0 0] 30)) #[.slice none 0 0, .slice none 0 0, .slice none 0 0] 30 1 _ rfl
  have r2 := box_new (w.alloc (.cells #[v, .slice none 0 0, .slice none 0 0] 30)) #[.slice none 0 0, .slice none 0 0, .slice none 0 0] 30 2 _ rfl
  have rf := fun j => free_new (w.alloc (.cells #[v, .slice none 0 0, .slice none 0 0] 30)) #[.slice none 0 0, .slice none 0 0, .slice none 0 0] 30 j
  rw [hsz] at r0 r1 r2
  simp only [hsz] at rf
  exact ⟨hA1.trans (hA2.mono hA1.size), by simp, (hA2.cell (World.block_lt_of_cell? _ _ b0)).trans b0, (hA2.cell (World.block_lt_of_cell? _ _ b1)).trans b1, (hA2.cell (World.block_lt_of_cell? _ _ b2)).trans b2, r0, r1, r2, rf⟩
/-- An edit that adds a node at nought, in cells. -/
def ed (n : Nat) : List Value := [.int .i64 1, .int .i64 n, .int .i64 0, .int .i64 0, .int .i64 0, .complex .f64 0 0, .int .u32 0, .int .i64 0, .bool false]
/-- What lies while Apply does the edits. -/
structure ApS (w wr : World) (B : Nat) (v : Value) (ids : List Nat) : Prop where
  no : NO wr (B + 2) v ids
  hb : Below B w wr
  hlt : B + 2 ≤ wr.heap.size
  r0 : wr.cell? ⟨B + 1, 0, none⟩ = some v
  r1 : wr.cell? ⟨B + 1, 1, none⟩ = some (.slice none 0 0)
  r2 : wr.cell? ⟨B + 1, 2, none⟩ = some (.slice none 0 0)
  f : ∀ j, wr.frozen? ⟨B + 1, j, none⟩ = false
theorem ApS.below {w wr w2 : World} {B : Nat} {v : Value} {ids : List Nat} (h : ApS w wr B v ids) (b : Below wr.heap.size wr w2) : ApS w w2 B v ids :=
  have hx : ∀ {x : Nat} {i : Nat} {u : Value}, wr.cell? ⟨x, i, none⟩ = some u → w2.cell? ⟨x, i, none⟩ = some u := fun {x i u} e => (b.cell (World.block_lt_of_cell? wr _ e)).trans e
  ⟨h.no.below b, h.hb.trans (b.mono (by have := h.hlt; omega)), Nat.le_trans h.hlt b.size, hx h.r0, hx h.r1, hx h.r2, fun j => (b.frozen (p := ⟨B + 1, j, none⟩) (by have := h.hlt; show B + 1 < _; omega)).trans (h.f j)⟩
theorem ApS.step {w wr w2 : World} {B : Nat} {v v6 : Value} {ids L : List Nat} (h : ApS w wr B v ids) (hno : NO w2 (B + 2) v6 L) (q0 : w2.cell? ⟨B + 1, 0, none⟩ = some v6) (q1 : w2.cell? ⟨B + 1, 1, none⟩ = some (.slice none 0 0)) (q2 : w2.cell? ⟨B + 1, 2, none⟩ = some (.slice none 0 0))
    (hK : Keep (fun k => k = B + 1 ∨ v.ownBlock = some k) wr w2) (hf : ∀ j, w2.frozen? ⟨B + 1, j, none⟩ = false) : ApS w w2 B v6 L :=
  ⟨hno, Below.keep h.hb (by have := h.hlt; omega) hK (fun k hk => by
    rcases hk with rfl | hk
    · omega
    · have := (World.ownsRow.lt h.no k hk).1; omega), Nat.le_trans h.hlt hK.size, q0, q1, q2, hf⟩
theorem ed_at (os : List Nat) : ∀ (i : Nat) (hi : i < os.length) (j : Nat), j < 9 → (os.flatMap ed)[i * 9 + j]? = (ed os[i])[j]? := by
  induction os with
  | nil => intro i hi; simp at hi
  | cons o os ih =>
    intro i hi j hj
    rw [List.flatMap_cons]
    cases i with
    | zero =>
      rw [List.getElem?_append_left (by simp [ed]; omega)]
      simp
    | succ i =>
      rw [List.getElem?_append_right (by simp [ed]; omega)]
      have := ih i (by simpa using hi) j hj
      simp only [List.getElem_cons_succ]
      rw [← this]
      congr 1
      simp [ed]
      omega
theorem ed_cells {w : World} {a : Option Addr} {n cap : Nat} {os : List Nat} (h : SlR w 9 (.slice a n cap) n (os.flatMap ed)) (i : Nat) (hi : i < os.length) :
    ∃ b off, a = some ⟨b, off, none⟩ ∧ ∀ j, j < 9 → w.cell? ⟨b, off + i * 9 + j, none⟩ = (ed os[i])[j]? := by
  obtain ⟨_, _, a', cap', he, _, hc⟩ := h
  injection he with e1 e2 e3
  subst e1
  rcases hc with hc | ⟨b, off, rfl, hc⟩
  · have := ed_at os i hi 0 (by omega)
    rw [hc] at this
    simp [ed] at this
  · refine ⟨b, off, rfl, fun j hj => ?_⟩
    have h1 := ed_at os i hi j hj
    obtain ⟨x, hx⟩ : ∃ x, (ed os[i])[j]? = some x := ⟨(ed os[i])[j]'(by simp [ed]; omega), List.getElem?_eq_getElem _⟩
    rw [hx] at h1 ⊢
    have := hc _ _ h1
    rwa [← Nat.add_assoc] at this
theorem ApS.start {w w3 : World} {B : Nat} {v v3 : Value} {ids : List Nat} (h : TwoS w w3 B v) (hno : NO w3 (B + 2) v3 ids) :
    ApS w (((w3.setCell ⟨B + 1, 0, none⟩ v3).setCell ⟨B + 1, 1, none⟩ (.slice none 0 0)).setCell ⟨B + 1, 2, none⟩ (.slice none 0 0)) B v3 ids := by
  obtain ⟨k0, k1, k2⟩ := three_set v3 (.slice none 0 0) (.slice none 0 0) h.r0 h.r1 h.r2
  have hK := three_keep (Keep.refl (fun k => k = B + 1) w3) (B + 1) v3 (.slice none 0 0) (.slice none 0 0) (.inl rfl)
  exact ⟨hK.owns hno (fun k hk e => by have := (World.ownsRow.lt hno k hk).1; omega), Below.keep h.hb (by have := h.hlt; omega) hK (fun k hk => by omega), Nat.le_trans h.hlt hK.size, k0, k1, k2, fun j => by rw [World.frozen?_setCell, World.frozen?_setCell, World.frozen?_setCell]; exact h.f j⟩
set_option maxHeartbeats 8000000 in
set_option maxRecDepth 100000 in
theorem Apply_any (v bv : Value) (ids es : List Nat) (w : World) (h : NS w v ids) (ha : Asc ids) (hes : SlR w 9 bv es.length (es.flatMap ed)) (he : es.length ≤ 1) (hn : ∀ n ∈ es, n < 128 ∧ ∀ x ∈ ids, x < n) :
    Calls Try.prog 9 #[.agg #[v, .slice none 0 0, .slice none 0 0], bv] w fun e w' => ∃ v', e = .returned (.tuple #[.agg #[v', .slice none 0 0, .slice none 0 0], .int .i64 0, .int .i64 0]) ∧ NO w' w.heap.size v' (ids ++ es) ∧ Below w.heap.size w w' := by
  have hl := ha.len
  obtain ⟨a, cap, rfl, hm, hc⟩ := h.form
  obtain ⟨ab, cpb, rfl, hmb, hcb⟩ := hes.form
  have hT0 := TwoS.new w (.slice a ids.length cap)
  generalize hW2 : (w.alloc (.cells #[.slice a ids.length cap, .slice none 0 0, .slice none 0 0] 30)).alloc (.cells #[.slice none 0 0, .slice none 0 0, .slice none 0 0] 30) = W2 at *
  have c0 := hT0.c0
  have c1 := hT0.c1
  have c2 := hT0.c2
  have hs0 : w.heap.size ≤ W2.heap.size := by have := hT0.hlt; omega
  have hlen : decide ((256 : Int) < es.length) = false := by simp; omega
  go_enter Try.func9, Try.ntmps9
  go_wp2_with (first
    | (go_at_call 11; refine (Check_any (.slice a ids.length cap) ids _ (hc.below hT0.hb) ha).mono ?_; rintro e w2 ⟨rfl, hb2⟩; have hT2 := hT0.below hb2; have d0 := hT2.c0; have d1 := hT2.c1; have d2 := hT2.c2)
    | (go_at_call 12; refine (clone_any (.slice a ids.length cap) ids _ (hc.below hT2.hb) hl).mono ?_; rintro e w3 ⟨v3, rfl, hno3, hb3⟩; obtain ⟨a3, cp3, rfl, _, _⟩ := hno3.ns.form; have hT3 := hT2.below hb3; have r0 := hT3.r0; have r1 := hT3.r1; have r2 := hT3.r2; have rf := hT3.f))
  have hS := ApS.start hT3 (hno3.mono hT2.hlt)
  clear hno3 hT3 hT2 hT0 c0 c1 c2 d0 d1 d2 r0 r1 r2 rf hb2 hb3 hs0 hW2
  generalize hBB : w.heap.size = B at hS ⊢
  generalize ((w3.setCell _ _).setCell _ _).setCell _ _ = W4 at hS ⊢
  go_loopw [25] (fun x wr => ∃ i : Nat, x = .int .i64 i ∧ i ≤ es.length ∧ ∃ v', ApS w wr B v' (ids ++ es.take i)) (fun x _ => es.length - (kO x).toNat)
  case atStart => exact ⟨0, rfl, Nat.zero_le _, _, by simpa using hS⟩
  case round =>
    clear hS
    obtain ⟨i, rfl, hi, v', hS⟩ := hrel
    by_cases hlt : i < es.length
    · have hi0 : i = 0 := by omega
      subst hi0
      obtain ⟨b, off, rfl, hcell⟩ := ed_cells (hcb.below (by rw [hBB]; exact hS.hb)) 0 hlt
      have hx := hn _ (List.getElem_mem hlt)
      have htk : es.take (0 + 1) = [es[0]] := by rw [List.take_succ_eq_append_getElem hlt]; simp
      generalize es[0] = n at hcell hx htk
      have e0 := hcell 0 (by omega)
      have e1 := hcell 1 (by omega)
      have e2 := hcell 2 (by omega)
      have e3 := hcell 3 (by omega)
      have e4 := hcell 4 (by omega)
      have e5 := hcell 5 (by omega)
      have e6 := hcell 6 (by omega)
      have e7 := hcell 7 (by omega)
      have e8 := hcell 8 (by omega)
      simp only [ed, Nat.zero_mul, Nat.add_zero] at e0 e1 e2 e3 e4 e5 e6 e7 e8
      clear hcell
      have hcx := store_c
      have r0 := hS.r0
      have r1 := hS.r1
      have r2 := hS.r2
      have rf := hS.f
      obtain ⟨a3, cp3, rfl, _, _⟩ := hS.no.ns.form
      rw [List.take_zero, List.append_nil] at hS
      have hA := (Below.refl _ wr).alloc (Nat.le_refl _) (.cells #[.int .i64 1, .int .i64 n, .int .i64 0, .int .i64 0, .int .i64 0, .complex .f64 0 0, .int .u32 0, .int .i64 0, .bool false] 39)
      have hS1 := hS.below hA
      go_wp2_with fail
      refine (do_any (B + 1) (B + 2) n _ ids _ hS1.no hS1.r0 hS1.r1 hS1.r2 hS1.f (fun k hk e => by have := (World.ownsRow.lt hS1.no k hk).1; omega) hS1.hlt hx.1 hl hx.2).mono ?_
      rintro e w6 ⟨rfl, v6, hno6, q0, q1, q2, hK6, hf6⟩
      have hS6 := hS1.step hno6 q0 q1 q2 hK6 hf6
      rw [← htk] at hS6
      clear hno6 q0 q1 q2 hK6 hf6 hS1 hA r0 r1 r2 rf e0 e1 e2 e3 e4 e5 e6 e7 e8
      go_wp2_with fail
      go_roundw
      case rel => exact ⟨1, rfl, by omega, _, hS6⟩
      case measure => simp [kO]; omega
    · have hie : i = es.length := by omega
      subst hie
      rw [List.take_length] at hS
      have r0 := hS.r0
      have r1 := hS.r1
      have r2 := hS.r2
      have rf := hS.f
      obtain ⟨a3, cp3, rfl, _, _⟩ := hS.no.ns.form
      go_wp2_with fail
      obtain ⟨k0, k1, k2⟩ := three_set (.slice a3 (ids.length + es.length) cp3) (.slice none 0 0) (.slice none 0 0) r0 r1 r2
      refine bodyPost_ret (res9 _ _ (B + 1) _ _ _ _ _ rfl rfl rfl k0 k1 k2) rfl ?_
      have hK := three_keep (Keep.refl (fun k => k = B + 1) wr) (B + 1) (.slice a3 (ids.length + es.length) cp3) (.slice none 0 0) (.slice none 0 0) (.inl rfl)
      have hno := hS.no
      rw [List.length_append] at hno
      refine ⟨_, rfl, ?_, ?_⟩
      · rw [hBB]
        have := hK.owns hno (fun k hk e => by have := (World.ownsRow.lt hno k hk).1; omega)
        exact NO.mono (base := B + 2) this (by omega)
      · rw [hBB]
        exact Below.keep hS.hb (by have := hS.hlt; omega) hK (fun k hk => by omega)
end Go.Proofs.Ytcgjkllgfdgmeaa
