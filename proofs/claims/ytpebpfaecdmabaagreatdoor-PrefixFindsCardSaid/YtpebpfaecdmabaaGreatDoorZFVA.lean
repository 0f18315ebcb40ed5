/- awake's graph: full.Of. -/
import Derived.Test.YtpebpfaecdmabaaGreatDoorZF01
import Derived.BigRegion
import Derived.StillTailTactics
import Derived.Deep.RegionHeld3
import Derived.Deep.RegionLaw
import Derived.Deep.AppendLies
import Derived.Deep.CutRange
namespace Go.Proofs.YtpebpfaecdmabaaGreatDoor
open Go.RowKit

/-- The cells of a view of no graph. -/
def view0 : Array Value := Array.replicate 128 (.bool false) ++ Array.replicate 256 (.slice none 0 0)
theorem zero115 (w : World) : (zeroValue 116).run Tryz.prog w = .ok (.agg view0) w := by kernel_rfl
theorem view0_over (j : Nat) (h : j < 128) : view0[j]? = some (.bool false) := by
  unfold view0
  rw [Array.getElem?_append_left (by simpa using h), Array.getElem?_replicate]
  simp [h]
theorem view0_list (j : Nat) (h : j < 256) : view0[128 + j]? = some (.slice none 0 0) := by
  unfold view0
  rw [Array.getElem?_append_right (by simp), Array.getElem?_replicate]
  simp [h]
/-- What is asked of a view: no node is overloaded, the list from 1, that from 2, that to 2. -/
structure VW (w : World) (V : Nat) (o1 i2 : Value) : Prop where
  over : ∀ j, j < 128 → w.cell? ⟨V, j, none⟩ = some (.bool false)
  out1 : w.cell? ⟨V, 129, none⟩ = some o1
  out2 : w.cell? ⟨V, 130, none⟩ = some (.slice none 0 0)
  in2 : w.cell? ⟨V, 258, none⟩ = some i2
  fr : ∀ j, w.frozen? ⟨V, j, none⟩ = false
theorem VW.lt {w : World} {V : Nat} {o1 i2 : Value} (h : VW w V o1 i2) : V < w.heap.size := World.block_lt_of_cell? _ _ h.out1
theorem VW.keep {w w2 : World} {V : Nat} {o1 i2 : Value} {S : Nat → Prop} (h : VW w V o1 i2) (k : Keep S w w2) (hV : ¬ S V) : VW w2 V o1 i2 :=
  ⟨fun j hj => k.cell (h.over j hj) hV, k.cell h.out1 hV, k.cell h.out2 hV, k.cell h.in2 hV, fun j => k.unfrozen h.lt (h.fr j) hV⟩
theorem VW.below {w w2 : World} {V : Nat} {o1 i2 : Value} (h : VW w V o1 i2) (b : Below w.heap.size w w2) : VW w2 V o1 i2 := h.keep (Keep.of_below (S := fun _ => False) b) (by simp)
theorem VW.new (w : World) : VW (w.alloc (.cells view0 116)) w.heap.size (.slice none 0 0) (.slice none 0 0) :=
  ⟨fun j hj => box_new w _ _ _ _ (view0_over j hj), box_new w _ _ _ _ (view0_list 1 (by decide)), box_new w _ _ _ _ (view0_list 2 (by decide)), box_new w _ _ _ _ (view0_list 130 (by decide)), fun j => free_new w _ _ j⟩
theorem VW.setOver {w : World} {V : Nat} {o1 i2 : Value} (h : VW w V o1 i2) (i : Nat) (hi : i < 128) : VW (w.setCell ⟨V, i, none⟩ (.bool false)) V o1 i2 := by
  have hx : ∀ {k : Nat} {u : Value}, k ≠ i → w.cell? ⟨V, k, none⟩ = some u → (w.setCell ⟨V, i, none⟩ (.bool false)).cell? ⟨V, k, none⟩ = some u := fun {k u} hk e => by
    rw [World.cell?_setCell_other _ _ _ _ (by intro e; injection e with e1 e2; exact hk e2.symm)]; exact e
  refine ⟨fun j hj => ?_, hx (by omega) h.out1, hx (by omega) h.out2, hx (by omega) h.in2, fun j => by rw [World.frozen?_setCell]; exact h.fr j⟩
  by_cases e : j = i
  · subst e; exact World.cell?_setCell_same _ _ _ (h.over j hj)
  · exact hx e (h.over j hj)
theorem VW.setOut {w : World} {V : Nat} {o1 i2 : Value} (h : VW w V o1 i2) (v : Value) : VW (w.setCell ⟨V, 129, none⟩ v) V v i2 := by
  have hx : ∀ {k : Nat} {u : Value}, k ≠ 129 → w.cell? ⟨V, k, none⟩ = some u → (w.setCell ⟨V, 129, none⟩ v).cell? ⟨V, k, none⟩ = some u := fun {k u} hk e => by
    rw [World.cell?_setCell_other _ _ _ _ (by intro e; injection e with e1 e2; exact hk e2.symm)]; exact e
  exact ⟨fun j hj => hx (by omega) (h.over j hj), World.cell?_setCell_same _ _ _ h.out1, hx (by omega) h.out2, hx (by omega) h.in2, fun j => by rw [World.frozen?_setCell]; exact h.fr j⟩
theorem VW.setIn {w : World} {V : Nat} {o1 i2 : Value} (h : VW w V o1 i2) (v : Value) : VW (w.setCell ⟨V, 258, none⟩ v) V o1 v := by
  have hx : ∀ {k : Nat} {u : Value}, k ≠ 258 → w.cell? ⟨V, k, none⟩ = some u → (w.setCell ⟨V, 258, none⟩ v).cell? ⟨V, k, none⟩ = some u := fun {k u} hk e => by
    rw [World.cell?_setCell_other _ _ _ _ (by intro e; injection e with e1 e2; exact hk e2.symm)]; exact e
  exact ⟨fun j hj => hx (by omega) (h.over j hj), hx (by omega) h.out1, hx (by omega) h.out2, World.cell?_setCell_same _ _ _ h.in2, fun j => by rw [World.frozen?_setCell]; exact h.fr j⟩
theorem info44 : (Tryz.prog.info? 51).map (fun i => (i.zero, i.size, i.bytes)) = some (some (.agg #[.int .i64 0, .int .i64 0, .int .i64 0, .int .i64 0]), 4, 32) := by kernel_rfl
def link1 : List Value := [.int .i64 1, .int .i64 2, .int .i64 1, .int .i64 0]
theorem link1_one : ∀ u ∈ link1, u.oneCell' = true := by decide +kernel
/-- What Of's walk knows. -/
structure OfS (w wr : World) (B V : Nat) (v lv pv o1 i2 : Value) : Prop where
  hb : Below w.heap.size w wr
  hB : w.heap.size ≤ B
  hV : w.heap.size ≤ V
  hBV : B < V
  g1 : wr.cell? ⟨B, 1, none⟩ = some lv
  vw : VW wr V o1 i2
theorem OfS.below {w wr w2 : World} {B V : Nat} {v lv pv o1 i2 : Value} (h : OfS w wr B V v lv pv o1 i2) (b : Below wr.heap.size wr w2) : OfS w w2 B V v lv pv o1 i2 :=
  ⟨h.hb.trans (b.mono h.hb.size), h.hB, h.hV, h.hBV, (b.cell (World.block_lt_of_cell? _ _ h.g1)).trans h.g1, h.vw.below b⟩
theorem OfS.over {w wr : World} {B V : Nat} {v lv pv o1 i2 : Value} (h : OfS w wr B V v lv pv o1 i2) (i : Nat) (hi : i < 128) : OfS w (wr.setCell ⟨V, i, none⟩ (.bool false)) B V v lv pv o1 i2 :=
  ⟨h.hb.setCell (show w.heap.size ≤ (⟨V, i, none⟩ : Addr).block from h.hV) _, h.hB, h.hV, h.hBV, by rw [World.cell?_setCell_other _ _ _ _ (by intro e; injection e with e1 e2; have := h.hBV; omega)]; exact h.g1, h.vw.setOver i hi⟩
theorem OfS.drew {w wr : World} {B V : Nat} {v lv pv o1 i2 : Value} (h : OfS w wr B V v lv pv o1 i2) : OfS w wr.drew B V v lv pv o1 i2 := h.below ((Below.refl _ _).drew)

/-- The cells of a link's box. -/
def BoxL (w : World) (B5 : Nat) : Prop := w.cell? ⟨B5, 0, none⟩ = some (.int .i64 1) ∧ w.cell? ⟨B5, 1, none⟩ = some (.int .i64 2) ∧ w.cell? ⟨B5, 2, none⟩ = some (.int .i64 1) ∧ w.cell? ⟨B5, 3, none⟩ = some (.int .i64 0)
theorem BoxL.keep {S : Nat → Prop} {w w2 : World} {B5 : Nat} (h : BoxL w B5) (k : Keep S w w2) (hB : ¬ S B5) : BoxL w2 B5 := ⟨k.cell h.1 hB, k.cell h.2.1 hB, k.cell h.2.2.1 hB, k.cell h.2.2.2 hB⟩
/-- An own row of the one link, apart from the view. -/
def Row1 (w : World) (V : Nat) (o : Value) : Prop := w.ownsRow 0 51 4 o 1 link1 ∧ o.ownBlock ≠ some V
theorem Row1.keepV {w w2 : World} {V : Nat} {o : Value} (h : Row1 w V o) (k : Keep (fun i => i = V) w w2) : Row1 w2 V o := ⟨k.owns h.1 (fun i hi e => by subst e; exact h.2 hi), h.2⟩
theorem app_keep {W1 w1 : World} {o : Obj} {ov : Value} (hob : ov.ownBlock = none) (hg : (W1.alloc o).drew.grownBy w1 ov.ownBlock) : Below W1.heap.size W1 w1 :=
  ((((Keep.refl (fun _ => False) W1).alloc o).drewN 1).grown hg (fun k hk => by rw [hob] at hk; cases hk)).below (fun k hk => ⟨hk, id⟩)
theorem app_row {W1 w1 : World} {V gg cap2 off : Nat} {ov : Value} (hV : V < W1.heap.size) (hob : ov.ownBlock = none) (hown : w1.ownsRow 0 51 4 (.slice (some ⟨gg, 0, none⟩) (0 + 1) cap2) (0 + 1) ([] ++ link1)) (hat : ov.ownBlock = some gg ∨ gg = W1.heap.size + 1) :
    Row1 (w1.setCell ⟨V, off, none⟩ (.slice (some ⟨gg, 0, none⟩) 1 cap2)) V (.slice (some ⟨gg, 0, none⟩) 1 cap2) := by
  have hg : gg ≠ V := by
    rcases hat with e | e
    · rw [hob] at e; cases e
    · omega
  have k : Keep (fun i => i = V) w1 (w1.setCell ⟨V, off, none⟩ (.slice (some ⟨gg, 0, none⟩) 1 cap2)) := (Keep.refl _ w1).setCell ⟨V, off, none⟩ _ (.inl rfl)
  refine ⟨?_, by simpa [Value.ownBlock] using hg⟩
  have := k.owns hown (fun i hi e => by subst e; simp [Value.ownBlock] at hi; exact hg hi)
  simpa using this
theorem OfS.setOut {w wr : World} {B V : Nat} {v lv pv o1 i2 : Value} (h : OfS w wr B V v lv pv o1 i2) (x : Value) : OfS w (wr.setCell ⟨V, 129, none⟩ x) B V v lv pv x i2 :=
  ⟨h.hb.setCell (show w.heap.size ≤ (⟨V, 129, none⟩ : Addr).block from h.hV) _, h.hB, h.hV, h.hBV, by rw [World.cell?_setCell_other _ _ _ _ (by intro e; injection e with e1 e2; have := h.hBV; omega)]; exact h.g1, h.vw.setOut x⟩
theorem OfS.setIn {w wr : World} {B V : Nat} {v lv pv o1 i2 : Value} (h : OfS w wr B V v lv pv o1 i2) (x : Value) : OfS w (wr.setCell ⟨V, 258, none⟩ x) B V v lv pv o1 x :=
  ⟨h.hb.setCell (show w.heap.size ≤ (⟨V, 258, none⟩ : Addr).block from h.hV) _, h.hB, h.hV, h.hBV, by rw [World.cell?_setCell_other _ _ _ _ (by intro e; injection e with e1 e2; have := h.hBV; omega)]; exact h.g1, h.vw.setIn x⟩
theorem OfS.outEnd {w W1 w1 : World} {B V B5 gg cap2 : Nat} {o : Obj} {v lv pv o1 i2 : Value} (h : OfS w W1 B V v lv pv o1 i2) (hb : BoxL W1 B5) (h5 : V < B5) (hob : o1.ownBlock = none) (hg : (W1.alloc o).drew.grownBy w1 o1.ownBlock)
    (hown : w1.ownsRow 0 51 4 (.slice (some ⟨gg, 0, none⟩) (0 + 1) cap2) (0 + 1) ([] ++ link1)) (hat : o1.ownBlock = some gg ∨ gg = W1.heap.size + 1) :
    ∃ o1', OfS w (w1.setCell ⟨V, 129, none⟩ (.slice (some ⟨gg, 0, none⟩) 1 cap2)) B V v lv pv o1' i2 ∧ Row1 (w1.setCell ⟨V, 129, none⟩ (.slice (some ⟨gg, 0, none⟩) 1 cap2)) V o1' ∧ BoxL (w1.setCell ⟨V, 129, none⟩ (.slice (some ⟨gg, 0, none⟩) 1 cap2)) B5 := by
  have k := app_keep hob hg
  exact ⟨_, (h.below k).setOut _, app_row h.vw.lt hob hown hat, (hb.keep (Keep.of_below (S := fun i => i = V) k) (by omega)).keep ((Keep.refl (fun i => i = V) w1).setCell ⟨V, 129, none⟩ _ (.inl rfl)) (by omega)⟩
theorem OfS.inEnd {w W1 w1 : World} {B V gg cap2 : Nat} {o : Obj} {v lv pv o1 i2 : Value} (h : OfS w W1 B V v lv pv o1 i2) (hr : Row1 W1 V o1) (hob : i2.ownBlock = none) (hg : (W1.alloc o).drew.grownBy w1 i2.ownBlock) :
    ∃ o1' i2', OfS w (w1.setCell ⟨V, 258, none⟩ (.slice (some ⟨gg, 0, none⟩) 1 cap2)) B V v lv pv o1' i2' ∧ Row1 (w1.setCell ⟨V, 258, none⟩ (.slice (some ⟨gg, 0, none⟩) 1 cap2)) V o1' := by
  have k := app_keep hob hg
  exact ⟨_, _, (h.below k).setIn _, (hr.keepV (Keep.of_below k)).keepV ((Keep.refl (fun i => i = V) w1).setCell ⟨V, 258, none⟩ _ (.inl rfl))⟩

set_option maxHeartbeats 8000000 in
set_option maxRecDepth 100000 in
theorem Of_awake {w : World} {v lv pv : Value} (h : GA w v lv pv) : Calls Tryz.prog 45 #[.agg #[v, lv, pv]] w fun e w' => ∃ V o1 i2, e = .returned (.pointer (some ⟨V, 0, none⟩)) ∧ VW w' V o1 i2 ∧ SlR w' 4 o1 1 link1 ∧ w.heap.size ≤ V ∧ Below w.heap.size w w' := by
  have hz := zero115
  obtain ⟨ids, hids⟩ : ∃ ids : List Nat, ids = [1, 2] := ⟨_, rfl⟩
  have hn := h.n
  have ha : ∀ x ∈ ids, x < 128 := by rw [hids]; decide
  rw [← hids] at hn
  have HID := Lib.hid hids
  clear hids
  obtain ⟨al, cl, rfl, hml, hcl⟩ := h.l.form
  obtain ⟨ap, cp, rfl, hmp, hcp⟩ := h.p.form
  obtain ⟨a, cap, rfl, hm, hc⟩ := hn.form
  have hS0 : OfS w ((w.alloc (.cells #[.slice a ids.length cap, .slice al 1 cl, .slice ap 1 cp] 57)).alloc (.cells view0 116)) w.heap.size (w.heap.size + 1) (.slice a ids.length cap) (.slice al 1 cl) (.slice ap 1 cp) (.slice none 0 0) (.slice none 0 0) := by
    have hA := (Below.refl _ w).alloc (Nat.le_refl _) (.cells #[.slice a ids.length cap, .slice al 1 cl, .slice ap 1 cp] 57)
    have b1 := box_new w #[.slice a ids.length cap, .slice al 1 cl, .slice ap 1 cp] 57 1 _ rfl
    have s1 : (w.alloc (.cells #[.slice a ids.length cap, .slice al 1 cl, .slice ap 1 cp] 57)).heap.size = w.heap.size + 1 := by simp
    generalize w.alloc (.cells #[.slice a ids.length cap, .slice al 1 cl, .slice ap 1 cp] 57) = W1 at *
    have hA2 := (Below.refl _ W1).alloc (Nat.le_refl _) (.cells view0 116)
    have hv := VW.new W1
    rw [s1] at hv
    exact ⟨hA.trans (hA2.mono hA.size), Nat.le_refl _, by omega, by omega, (hA2.cell (World.block_lt_of_cell? _ _ b1)).trans b1, hv⟩
  go_enter Tryz.func45, Tryz.ntmps45
  go_wp2_with fail
  generalize (w.alloc (.cells #[.slice a ids.length cap, .slice al 1 cl, .slice ap 1 cp] 57)).alloc (.cells view0 116) = W0 at hS0 ⊢
  have hBB : w.heap.size ≤ w.heap.size := Nat.le_refl _
  obtain ⟨B, hB⟩ : ∃ B, B = w.heap.size := ⟨_, rfl⟩
  rw [← hB] at hS0 ⊢
  generalize hV : B + 1 = V at hS0 ⊢
  have HB := Lib.hid hB
  clear hB hBB
  go_loopw [13] (fun x wr => ∃ i : Nat, x = .int .i64 i ∧ i ≤ ids.length ∧ OfS w wr B V (.slice a ids.length cap) (.slice al 1 cl) (.slice ap 1 cp) (.slice none 0 0) (.slice none 0 0)) (fun x _ => ids.length - (kO x).toNat)
  case atStart => exact ⟨0, rfl, Nat.zero_le _, hS0⟩
  case round =>
    clear hS0
    obtain ⟨i, rfl, hi, hS⟩ := hrel
    by_cases hlt : i < ids.length
    · obtain ⟨b, off, rfl, q0, q1, q2⟩ := (hc.below hS.hb).at_ i hlt
      have hi128 := ha _ (List.getElem_mem hlt)
      generalize ids[i] = n at q0 hi128
      have hn1 : (n : Int) < 128 := by omega
      have hcx := store_c
      have hS1 := hS.below ((Below.refl _ wr).alloc (Nat.le_refl _) (.cells #[.int .i64 n, .bool false, .complex .f64 0 0] 48))
      have hbox0 := box_new wr #[.int .i64 n, .bool false, .complex .f64 0 0] 48 0 _ rfl
      have hbox1 := box_new wr #[.int .i64 n, .bool false, .complex .f64 0 0] 48 1 _ rfl
      go_wp2_with fail
      generalize wr.alloc (.cells #[.int .i64 n, .bool false, .complex .f64 0 0] 48) = W1 at hbox0 hbox1 hS1 ⊢
      generalize wr.heap.size = B5 at hbox0 hbox1 ⊢
      clear hS q0 q1 q2
      have t0 := hS1.vw.over n hi128
      have t1 := hS1.vw.fr n
      have hS3 := (hS1.over n hi128).drew
      go_region
      generalize (W1.setCell ⟨V, n, none⟩ (.bool false)).drew = W2 at hS3 ⊢
      clear hS1 hbox0 hbox1 t0 t1
      go_wp2_with fail
      go_roundw
      case rel => exact ⟨i + 1, by go_num, by omega, hS3⟩
      case measure => simp [kO]; omega
    · have hi2 : i = ids.length := by omega
      subst hi2
      have g1 := hS.g1
      go_wp2_with fail
      clear g1
      go_loopw [29] (fun x w2 => ∃ (i : Nat) (o1 i2 : Value), x = .int .i64 i ∧ i ≤ 1 ∧ OfS w w2 B V (.slice a ids.length cap) (.slice al 1 cl) (.slice ap 1 cp) o1 i2 ∧ (i = 0 → Hid (o1 = .slice none 0 0 ∧ i2 = .slice none 0 0)) ∧ (i = 1 → Row1 w2 V o1)) (fun x _ => 1 - (kO x).toNat)
      case atStart => exact ⟨0, _, _, rfl, by omega, hS, fun _ => Lib.hid ⟨rfl, rfl⟩, fun h => by omega⟩
      case round =>
        clear hS
        obtain ⟨i, o1, i2, rfl, hi, hS, h0, h1⟩ := hrel
        by_cases hlt : i < 1
        · have hi0 : i = 0 := by omega
          subst hi0
          have HO := h0 rfl
          clear h0 h1
          obtain ⟨lb, lo, rfl, l0, l1, l2, l3⟩ := four_cells (hcl.below hS.hb)
          have hS1 := hS.below ((Below.refl _ wr).alloc (Nat.le_refl _) (.cells #[.int .i64 1, .int .i64 2, .int .i64 1, .int .i64 0] 51))
          have hbx : BoxL (wr.alloc (.cells #[.int .i64 1, .int .i64 2, .int .i64 1, .int .i64 0] 51)) wr.heap.size := ⟨box_new wr _ _ 0 _ rfl, box_new wr _ _ 1 _ rfl, box_new wr _ _ 2 _ rfl, box_new wr _ _ 3 _ rfl⟩
          have hV5 : V < wr.heap.size := hS.vw.lt
          go_wp2_with fail
          generalize wr.alloc (.cells #[.int .i64 1, .int .i64 2, .int .i64 1, .int .i64 0] 51) = W1 at *
          generalize wr.heap.size = B5 at *
          clear hS l0 l1 l2 l3
          obtain ⟨i0, hi0, hz0, hz1, hz2⟩ := info_parts info44
          go_cut [29] from 29 to 65 (fun v29 wc => v29 = .int .i64 0 ∧ ∃ o1', OfS w wc B V (.slice a ids.length cap) (.slice (some ⟨lb, lo, none⟩) 1 cl) (.slice ap 1 cp) o1' i2 ∧ Row1 wc V o1' ∧ BoxL wc B5)
          case first =>
            have hown : W1.ownsRow 0 51 4 o1 0 [] := by rw [HO.out.1]; exact World.ownsRow_nil _ _ _ _
            have hno : o1.ownBlock = none := by rw [HO.out.1]; rfl
            have hob : o1.ownBlock ≠ some V := by rw [hno]; simp
            have hobB : o1.ownBlock ≠ some B5 := by rw [hno]; simp
            have c1 := hS1.vw.out1
            have f1 := hS1.vw.fr 129
            have hlt1 := hS1.vw.lt
            have HBX := Lib.hid hbx
            obtain ⟨b0, b1, b2, b3⟩ := hbx
            have hltB : B5 < W1.heap.size := World.block_lt_of_cell? _ _ b0
            go_region_law ((refine step_append_lies _ (by rfl) _ _ _ (by rfl) 0 51 i0 _ 4 32 Tryz.underlying52 hi0 hz0 hz1 hz2 rfl (by omega) o1 0 [] (by rfl) ((hown.alloc _).drew) ⟨W1.heap.size, 0, none⟩ 1 1 link1 (by rfl) (by rfl) (World.news_of_block (cs := #[.int .i64 1, .int .i64 2, .int .i64 1, .int .i64 0]) (t := 51) (fr := (0, 0)) (heap_alloc_new W1 _)) link1_one (by omega) (by unfold maxLen; omega) (by omega) (by omega) (W1.heap.size + 1) (by simp) ?_; intro gg cap2 w1 hown1 hgrow hat hltg; have cw1 : w1.cell? ⟨V, 129, none⟩ = some o1 := (hgrow.cell_far ⟨V, 129, none⟩ (show V < _ by simp; omega) (Ne.symm hob)).trans ((World.cell?_alloc_past _ _ _ (show V < _ by omega)).trans c1); have fw1 : w1.frozen? ⟨V, 129, none⟩ = false := (hgrow.frozen_far ⟨V, 129, none⟩ (show V < _ by simp; omega) (Ne.symm hob)).trans ((World.frozen?_alloc_past _ _ _ (show V < _ by omega)).trans f1); have cB1 : w1.cell? ⟨B5, 0, none⟩ = some (.int .i64 1) := (hgrow.cell_far ⟨B5, 0, none⟩ (show B5 < _ by simp; omega) (Ne.symm hobB)).trans ((World.cell?_alloc_past _ _ _ (show B5 < _ by omega)).trans b0)))
            all_goals
              go_wp2_with fail
              go_meet
              case rel => exact ⟨rfl, hS1.outEnd HBX.out hV5 hno hgrow hown1 hat⟩
          case rest =>
            obtain ⟨rfl, o1', hS2, hr, hbx2⟩ := hcut
            clear hS1 hbx
            go_upto_region 11 with fail
            have hown : wc.ownsRow 0 51 4 i2 0 [] := by rw [HO.out.2]; exact World.ownsRow_nil _ _ _ _
            have hno : i2.ownBlock = none := by rw [HO.out.2]; rfl
            have hob : i2.ownBlock ≠ some V := by rw [hno]; simp
            have hobB : i2.ownBlock ≠ some B5 := by rw [hno]; simp
            have c1 := hS2.vw.in2
            have f1 := hS2.vw.fr 258
            have hlt1 := hS2.vw.lt
            obtain ⟨b0, b1, b2, b3⟩ := hbx2
            have hltB : B5 < wc.heap.size := World.block_lt_of_cell? _ _ b0
            go_region_law ((refine step_append_lies _ (by rfl) _ _ _ (by rfl) 0 51 i0 _ 4 32 Tryz.underlying52 hi0 hz0 hz1 hz2 rfl (by omega) i2 0 [] (by rfl) ((hown.alloc _).drew) ⟨wc.heap.size, 0, none⟩ 1 1 link1 (by rfl) (by rfl) (World.news_of_block (cs := #[.int .i64 1, .int .i64 2, .int .i64 1, .int .i64 0]) (t := 51) (fr := (0, 0)) (heap_alloc_new wc _)) link1_one (by omega) (by unfold maxLen; omega) (by omega) (by omega) (wc.heap.size + 1) (by simp) ?_; intro gg cap2 w1 hown1 hgrow hat hltg; have cw1 : w1.cell? ⟨V, 258, none⟩ = some i2 := (hgrow.cell_far ⟨V, 258, none⟩ (show V < _ by simp; omega) (Ne.symm hob)).trans ((World.cell?_alloc_past _ _ _ (show V < _ by omega)).trans c1); have fw1 : w1.frozen? ⟨V, 258, none⟩ = false := (hgrow.frozen_far ⟨V, 258, none⟩ (show V < _ by simp; omega) (Ne.symm hob)).trans ((World.frozen?_alloc_past _ _ _ (show V < _ by omega)).trans f1); have cB1 : w1.cell? ⟨B5, 1, none⟩ = some (.int .i64 2) := (hgrow.cell_far ⟨B5, 1, none⟩ (show B5 < _ by simp; omega) (Ne.symm hobB)).trans ((World.cell?_alloc_past _ _ _ (show B5 < _ by omega)).trans b1)))

            all_goals
              have hE := hS2.inEnd (gg := gg) (cap2 := cap2) hr hno hgrow
              go_wp2_with fail
              go_roundw
              case rel => obtain ⟨o3, i3, hS3, hr3⟩ := hE; exact ⟨1, o3, i3, rfl, by omega, hS3, fun h => by omega, fun _ => hr3⟩
              case measure => simp [kO]
        · have hi1 : i = 1 := by omega
          subst hi1
          have hr := h1 rfl
          clear h0 h1
          go_wp2_with fail
          go_ret
          exact ⟨V, o1, i2, rfl, hS.vw, SlR.of_owns hr.1, hS.hV, hS.hb⟩
end Go.Proofs.YtpebpfaecdmabaaGreatDoor
