/- The heap with texts for keys. -/
import Derived.Test.YtpapknmkiampgaaJ
import Derived.Test.YtpapknmkiampgaaND
import Derived.Lib.Strings
import Derived.BigRegion
import Derived.StillTailTactics
import Derived.Deep.RegionHeld3
import Derived.Deep.RegionLaw
import Derived.WalkMore
import Derived.ScopeJumps
import Derived.Deep.AppendLies
namespace Go.Proofs.Ytpapknmkiampgaa.S
open Go.RowKit Go.Lib

/-- A key's text. -/
def tx (k : Int) : ByteArray := ⟨(itoa (k + 2000)).toArray⟩
/-- A key that the law brings. -/
def sm (k : Int) : Prop := -1000 < k ∧ k < 1000
def okE (e : En) : Prop := e.2 < 128 ∧ sm e.1
def dg (d : Nat) : UInt8 := UInt8.ofNat (48 + d)
theorem four (u : Nat) (h0 : 1000 ≤ u) (h1 : u < 3000) : decDigits u = [dg (u / 1000), dg (u / 100 % 10), dg (u / 10 % 10), dg (u % 10)] := by
  have e1 : decDigits u = decDigits (u / 10) ++ [dg (u % 10)] := by rw [decDigits, dif_neg (by omega)]; rfl
  have e2 : decDigits (u / 10) = decDigits (u / 10 / 10) ++ [dg (u / 10 % 10)] := by rw [decDigits, dif_neg (by omega)]; rfl
  have e3 : decDigits (u / 10 / 10) = decDigits (u / 10 / 10 / 10) ++ [dg (u / 10 / 10 % 10)] := by rw [decDigits, dif_neg (by omega)]; rfl
  have e4 : decDigits (u / 10 / 10 / 10) = [dg (u / 10 / 10 / 10)] := by rw [decDigits, dif_pos (by omega)]; rfl
  rw [e1, e2, e3, e4, show u / 10 / 10 / 10 = u / 1000 by omega, show u / 10 / 10 = u / 100 by omega]
  rfl
theorem dg_lt {a b : Nat} (ha : a < 10) (hb : b < 10) : decide (dg a < dg b) = decide (a < b) := by
  congr 1
  apply propext
  rw [UInt8.lt_iff_toNat_lt]
  unfold dg
  rw [UInt8.toNat_ofNat', UInt8.toNat_ofNat']
  omega
theorem dg_eq {a b : Nat} (ha : a < 10) (hb : b < 10) : (dg a == dg b) = decide (a = b) := by
  by_cases h : a = b
  · subst h; simp
  · rw [decide_eq_false h, beq_eq_false_iff_ne]
    intro e
    have := congrArg UInt8.toNat e
    unfold dg at this
    rw [UInt8.toNat_ofNat', UInt8.toNat_ofNat'] at this
    omega
theorem less4 (u v : Nat) (h0 : 1000 ≤ u) (h1 : u < 3000) (k0 : 1000 ≤ v) (k1 : v < 3000) : Op.bytesLess (decDigits u) (decDigits v) = decide (u < v) := by
  rw [four u h0 h1, four v k0 k1]
  simp only [Op.bytesLess]
  rw [dg_lt (by omega) (by omega), dg_lt (by omega) (by omega), dg_lt (by omega) (by omega), dg_lt (by omega) (by omega), dg_eq (by omega) (by omega), dg_eq (by omega) (by omega), dg_eq (by omega) (by omega), dg_eq (by omega) (by omega)]
  rw [Bool.eq_iff_iff]
  simp only [Bool.or_eq_true, Bool.and_eq_true, decide_eq_true_eq, Bool.false_eq_true, and_false, or_false]
  omega
theorem tx_list (k : Int) : (tx k).toList = itoa (k + 2000) := by rw [Lib.toList_data]; rfl
theorem tx_less (a b : Int) (ha : sm a) (hb : sm b) : Op.bytesLess (tx a).toList (tx b).toList = decide (a < b) := by
  unfold sm at ha hb
  rw [tx_list, tx_list]
  unfold itoa
  rw [if_neg (by omega), if_neg (by omega), less4 _ _ (by omega) (by omega) (by omega) (by omega)]
  congr 1
  apply propext
  omega
theorem tx_inj {a b : Int} (h : (tx a).toList = (tx b).toList) : a = b := by
  rw [tx_list, tx_list] at h
  have := itoa_inj h
  omega
end Go.Proofs.Ytpapknmkiampgaa.S
namespace Go.Proofs.Ytpapknmkiampgaa.S
open Go.RowKit

def ec (e : En) : List Value := [.string (tx e.1), .int .i64 e.2]
theorem ec_one (e : En) : ∀ u ∈ ec e, u.oneCell' = true := by
  intro u hu
  simp only [ec, List.mem_cons, List.not_mem_nil, or_false] at hu
  rcases hu with rfl | rfl <;> rfl
theorem ec_at (es : List En) : ∀ (i : Nat) (a : En), es[i]? = some a → (es.flatMap ec)[i * 2]? = some (.string (tx a.1)) ∧ (es.flatMap ec)[i * 2 + 1]? = some (.int .i64 a.2) := by
  induction es with
  | nil => intro i a h; simp at h
  | cons e es ih =>
    intro i a h
    cases i with
    | zero => simp at h; subst h; simp [ec]
    | succ i =>
      have := ih i a (by simpa using h)
      rw [List.flatMap_cons]
      rw [show (i + 1) * 2 = (i * 2) + 1 + 1 by omega]
      simpa [ec] using this
theorem ec_len (es : List En) : (es.flatMap ec).length = es.length * 2 := by
  induction es with
  | nil => rfl
  | cons e es ih => simp [List.flatMap_cons, ec, ih]; omega

/-- A heap: its struct in block H, its list v, the entries es, the places po. -/
structure HW (w : World) (H : Nat) (v : Value) (es : List En) (po : Nat → Nat) : Prop where
  c0 : w.cell? ⟨H, 0, none⟩ = some v
  f0 : w.frozen? ⟨H, 0, none⟩ = false
  at_ : ∀ n, n < 128 → w.cell? ⟨H, 1 + n, none⟩ = some (.int .i64 (po n))
  fa : ∀ n, n < 128 → w.frozen? ⟨H, 1 + n, none⟩ = false
  own : w.ownsRow 0 76 2 v es.length (es.flatMap ec)
  apart : v.ownBlock ≠ some H
  len : es.length ≤ 128
  small : ∀ n, po n ≤ 128
  node : ∀ e ∈ es, okE e

theorem HW.lt {w : World} {H : Nat} {v : Value} {es : List En} {po : Nat → Nat} (h : HW w H v es po) : H < w.heap.size := World.block_lt_of_cell? _ _ h.c0
theorem HW.row {w : World} {H : Nat} {v : Value} {es : List En} {po : Nat → Nat} (h : HW w H v es po) (hn : 0 < es.length) : ∃ G cap, v = .slice (some ⟨G, 0, none⟩) es.length cap ∧ G ≠ H ∧ G < w.heap.size ∧ es.length ≤ cap ∧ cap ≤ maxLen ∧
    ∀ i a, es[i]? = some a → w.cell? ⟨G, i * 2, none⟩ = some (.string (tx a.1)) ∧ w.cell? ⟨G, i * 2 + 1, none⟩ = some (.int .i64 a.2) ∧ w.frozen? ⟨G, i * 2, none⟩ = false ∧ w.frozen? ⟨G, i * 2 + 1, none⟩ = false := by
  have hl := h.own.lt
  have hc := fun g hg => h.own.cells (g := g) hg
  have hap := h.apart
  rcases h.own.2 with ⟨_, e⟩ | ⟨G, cap, cur, rfl, hb, hh, r⟩
  · omega
  · refine ⟨G, cap, rfl, ?_, (hl G rfl).2, r.1, r.2.1, fun i a ha => ?_⟩
    · simpa [Value.ownBlock] using hap
    · have h2 := ec_at es i a ha
      have hx := hc G rfl _ _ h2.1
      have hy := hc G rfl _ _ h2.2
      rw [Addr.add_at] at hx hy
      simp only [Nat.zero_add] at hx hy
      exact ⟨hx, hy, by simp [World.frozen?, hh], by simp [World.frozen?, hh]⟩

set_option maxHeartbeats 1000000 in
theorem before_any (H : Nat) (v : Value) (es : List En) (po : Nat → Nat) (i j : Nat) (a b : En) (w : World) (h : HW w H v es po) (hi : es[i]? = some a) (hj : es[j]? = some b) :
    Calls Try.prog 46 #[.pointer (some ⟨H, 0, none⟩), .int .i64 i, .int .i64 j] w fun e w' => e = .returned (.bool (be a b)) ∧ Below w.heap.size w w' := by
  have hil : i < es.length := (List.getElem?_eq_some_iff.1 hi).1
  have hjl : j < es.length := (List.getElem?_eq_some_iff.1 hj).1
  obtain ⟨G, cap, rfl, hG, hGl, hcap, hcm, hrow⟩ := h.row (by omega)
  obtain ⟨i0, i1, _, _⟩ := hrow i a hi
  obtain ⟨j0, j1, _, _⟩ := hrow j b hj
  have c0 := h.c0
  have hl := h.len
  have hH := h.lt
  have hlt := tx_less a.1 b.1 (h.node a (List.mem_of_getElem? hi)).2 (h.node b (List.mem_of_getElem? hj)).2
  have hinj := fun (e : (tx a.1).toList = (tx b.1).toList) => tx_inj e
  have heq : a.1 = b.1 → (tx a.1).toList = (tx b.1).toList := fun e => by rw [e]
  clear hrow hi hj
  unfold maxLen at hcm
  by_cases h1 : a.1 < b.1
  · rw [decide_eq_true h1] at hlt
    have hbe : be a b = true := by simp [be, h1]
    clear heq hinj h1
    go_enter Try.func46, Try.ntmps46
    go_wp2_with fail
    go_region
    all_goals
      go_wp2
      all_goals
        go_ret
        exact ⟨ret_bool hbe.symm, below_drewN (((Below.refl _ w).alloc (Nat.le_refl _) _).alloc (by simp) _) 1⟩
  · rw [decide_eq_false h1] at hlt
    by_cases h2 : a.1 = b.1
    · have he := heq h2
      have hbe : be a b = decide (a.2 < b.2) := by simp [be, h2]
      clear heq hinj h1 h2
      go_enter Try.func46, Try.ntmps46
      go_wp2_with fail
      go_region
      all_goals
        go_wp2
        all_goals
          go_ret
          exact ⟨ret_bool (by first | (exfalso; rw [he] at hlt; simp_all; done) | (rw [hbe]; done) | (rw [hbe]; simp_all; done)), below_drewN (((Below.refl _ w).alloc (Nat.le_refl _) _).alloc (by simp) _) 1⟩
    · have he : ¬ ((tx a.1).toList = (tx b.1).toList) := fun e => h2 (hinj e)
      have hbe : be a b = false := by simp [be, h2]; omega
      clear heq hinj h1 h2
      go_enter Try.func46, Try.ntmps46
      go_wp2_with fail
      go_region
      all_goals
        go_wp2
        all_goals
          go_ret
          exact ⟨ret_bool hbe.symm, below_drewN (((Below.refl _ w).alloc (Nat.le_refl _) _).alloc (by simp) _) 1⟩

theorem ec_set (es : List En) (c : En) : ∀ (i : Nat), i < es.length → ((es.flatMap ec).set (i * 2) (.string (tx c.1))).set (i * 2 + 1) (.int .i64 c.2) = (es.set i c).flatMap ec := by
  induction es with
  | nil => intro i h; simp at h
  | cons e es ih =>
    intro i h
    cases i with
    | zero => simp [ec]
    | succ i =>
      have := ih i (by simpa using h)
      rw [show (i + 1) * 2 = i * 2 + 1 + 1 by omega, List.set_cons_succ, List.flatMap_cons, List.flatMap_cons, ← this]
      simp [ec]

theorem HW.setE {w : World} {H G cap : Nat} {es : List En} {po : Nat → Nat} (h : HW w H (.slice (some ⟨G, 0, none⟩) es.length cap) es po) (i : Nat) (c : En) (hi : i < es.length) (hc : okE c) :
    HW ((w.setCell ⟨G, i * 2, none⟩ (.string (tx c.1))).setCell ⟨G, i * 2 + 1, none⟩ (.int .i64 c.2)) H (.slice (some ⟨G, 0, none⟩) (es.set i c).length cap) (es.set i c) po := by
  have hap : G ≠ H := by simpa [Value.ownBlock] using h.apart
  have K : Keep (fun k => k = G) w ((w.setCell ⟨G, i * 2, none⟩ (.string (tx c.1))).setCell ⟨G, i * 2 + 1, none⟩ (.int .i64 c.2)) := ((Keep.refl (fun k => k = G) w).setCell _ _ (.inl rfl)).setCell _ _ (.inl rfl)
  have o1 := ((h.own.stored (i * 2) (.string (tx c.1))).1.stored (i * 2 + 1) (.int .i64 c.2)).1
  rw [ec_set es c i hi] at o1
  rw [List.length_set]
  refine ⟨K.cell h.c0 (Ne.symm hap), K.unfrozen h.lt h.f0 (Ne.symm hap), fun n hn => K.cell (h.at_ n hn) (Ne.symm hap), fun n hn => K.unfrozen h.lt (h.fa n hn) (Ne.symm hap), ?_, h.apart, ?_, h.small, ?_⟩
  · rw [List.length_set]; exact o1
  · rw [List.length_set]; exact h.len
  · intro e he
    rcases List.mem_or_eq_of_mem_set he with he | rfl
    · exact h.node e he
    · exact hc

theorem HW.setP {w : World} {H : Nat} {v : Value} {es : List En} {po : Nat → Nat} (h : HW w H v es po) (n x : Nat) (hx : x ≤ 128) : HW (w.setCell ⟨H, 1 + n, none⟩ (.int .i64 x)) H v es (upd po n x) := by
  have K : Keep (fun k => k = H) w (w.setCell ⟨H, 1 + n, none⟩ (.int .i64 x)) := (Keep.refl _ w).setCell _ _ (.inl rfl)
  refine ⟨?_, ?_, fun m hm => ?_, fun m hm => ?_, K.owns h.own ?_, h.apart, h.len, ?_, h.node⟩
  · rw [World.cell?_setCell_other _ _ _ _ (by simp)]; exact h.c0
  · rw [World.frozen?_setCell]; exact h.f0
  · unfold upd
    split
    · subst m; exact World.cell?_setCell_same w _ _ (h.at_ n hm)
    · rename_i hne; rw [World.cell?_setCell_other _ _ _ _ (by intro e; injection e with e1 e2; omega)]; exact h.at_ m hm
  · rw [World.frozen?_setCell]; exact h.fa m hm
  · intro k hk e
    subst e
    exact h.apart hk
  · intro m
    unfold upd
    split
    · exact hx
    · exact h.small m
theorem HW.drew {w : World} {H : Nat} {v : Value} {es : List En} {po : Nat → Nat} (h : HW w H v es po) : HW w.drew H v es po := ⟨h.c0, h.f0, h.at_, h.fa, h.own, h.apart, h.len, h.small, h.node⟩
theorem HW.keep {w w' : World} {H : Nat} {v : Value} {es : List En} {po : Nat → Nat} {S : Nat → Prop} (h : HW w H v es po) (k : Keep S w w') (hH : ¬ S H) (hG : ∀ G, v.ownBlock = some G → ¬ S G) : HW w' H v es po :=
  ⟨k.cell h.c0 hH, k.unfrozen h.lt h.f0 hH, fun n hn => k.cell (h.at_ n hn) hH, fun n hn => k.unfrozen h.lt (h.fa n hn) hH, k.owns h.own hG, h.apart, h.len, h.small, h.node⟩
theorem HW.below {w w' : World} {H : Nat} {v : Value} {es : List En} {po : Nat → Nat} (h : HW w H v es po) (b : Below w.heap.size w w') : HW w' H v es po := h.keep (Keep.of_below (S := fun _ => False) b) (by simp) (by simp)

set_option maxHeartbeats 2000000 in
theorem swap_any (H : Nat) (v : Value) (es : List En) (po : Nat → Nat) (i j : Nat) (a b : En) (w : World) (h : HW w H v es po) (hi : es[i]? = some a) (hj : es[j]? = some b) :
    Calls Try.prog 47 #[.pointer (some ⟨H, 0, none⟩), .int .i64 i, .int .i64 j] w fun e w' => e = .returned (.tuple #[]) ∧ HW w' H v ((es.set i b).set j a) (upd (upd po b.2 (i + 1)) a.2 (j + 1)) ∧
      Keep (fun k => k = H ∨ v.ownBlock = some k) w w' := by
  have hil : i < es.length := (List.getElem?_eq_some_iff.1 hi).1
  have hjl : j < es.length := (List.getElem?_eq_some_iff.1 hj).1
  obtain ⟨G, cap, rfl, hG, hGl, hcap, hcm, hrow⟩ := h.row (by omega)
  obtain ⟨i0, i1, fi0, fi1⟩ := hrow i a hi
  obtain ⟨j0, j1, fj0, fj1⟩ := hrow j b hj
  have c0 := h.c0
  have f0 := h.f0
  have hl := h.len
  have hH := h.lt
  have ka := h.node a (List.mem_of_getElem? hi)
  have na : a.2 < 128 := ka.1
  have kb := h.node b (List.mem_of_getElem? hj)
  have nb : b.2 < 128 := kb.1
  obtain ⟨x1, hx1⟩ := cell_some (p := ⟨G, i * 2, none⟩) (x := .string (tx b.1)) j0
  obtain ⟨x3, hx3⟩ := cell_some (p := ⟨G, i * 2, none⟩) (x := .string (tx b.1)) j1
  obtain ⟨x2, hx2⟩ := cell_some (p := ⟨G, i * 2 + 1, none⟩) (x := .int .i64 b.2) hx3
  clear hx3
  have hS := Lib.hid (((h.setE i b hil kb).setE j a (by simpa using hjl) ka).drew)
  have HI := Lib.hid hi
  have HJ := Lib.hid hj
  clear hrow hi hj
  unfold maxLen at hcm
  go_enter Try.func47, Try.ntmps47
  go_wp2_with fail
  go_region
  obtain ⟨W1, hW1⟩ : ∃ W1, W1 = ((((w.setCell ⟨G, i * 2, none⟩ (.string (tx b.1))).setCell ⟨G, i * 2 + 1, none⟩ (.int .i64 b.2)).setCell ⟨G, j * 2, none⟩ (.string (tx a.1))).setCell ⟨G, j * 2 + 1, none⟩ (.int .i64 a.2)).drew := ⟨_, rfl⟩
  have K1 : Keep (fun k => k = H ∨ (Value.slice (some ⟨G, 0, none⟩) es.length cap).ownBlock = some k) w W1 := by
    rw [hW1]
    exact keep4 (S := fun k => k = H ∨ (Value.slice (some ⟨G, 0, none⟩) es.length cap).ownBlock = some k) w G (.inr rfl) _ _ _ _ _ _ _ _
  have hS1 : HW W1 H (.slice (some ⟨G, 0, none⟩) es.length cap) ((es.set i b).set j a) po := by
    have := hS.out
    rw [← hW1] at this
    simpa using this
  rw [← hW1]
  clear hW1 hS hx1 hx2 i0 i1 j0 j1 fi0 fi1 fj0 fj1 c0 f0
  obtain ⟨G', cap', hv', _, _, _, _, hrow⟩ := hS1.row (by simp; omega)
  have hlen : ((es.set i b).set j a).length = es.length := by simp
  rw [hlen] at hv'
  injection hv' with e1 e2 e3
  injection e1 with e1
  injection e1 with e1
  subst e1 e3
  obtain ⟨_, i1, _, _⟩ := hrow i b (set_at_i HI.out HJ.out)
  obtain ⟨_, j1, _, _⟩ := hrow j a (by simp [hjl])
  have c0 := hS1.c0
  have ca := hS1.at_ a.2 na
  have cb := hS1.at_ b.2 nb
  have fa := hS1.fa a.2 na
  have fb := hS1.fa b.2 nb
  obtain ⟨x1, hx1⟩ := cell_some (p := ⟨H, 1 + b.2, none⟩) (x := .int .i64 (i + 1)) ca
  clear hrow hlen e2
  go_wp2_with fail
  go_region
  go_wp2
  go_end0
  exact ⟨rfl, ((hS1.setP b.2 (i + 1) (by omega)).setP a.2 (j + 1) (by omega)).drew, keep2 K1 H (.inl rfl) _ _ _ _⟩
end Go.Proofs.Ytpapknmkiampgaa.S
namespace Go.Proofs.Ytpapknmkiampgaa.S
open Go.RowKit

theorem before_at (H : Nat) (v : Value) (es : List En) (po : Nat → Nat) (i j : Nat) (a b : En) (x y : Int) (w : World) (hx : x = i) (hy : y = j) (h : HW w H v es po) (hi : es[i]? = some a) (hj : es[j]? = some b) :
    Calls Try.prog 46 #[.pointer (some ⟨H, 0, none⟩), .int .i64 x, .int .i64 y] w fun e w' => e = .returned (.bool (be a b)) ∧ Below w.heap.size w w' := by
  subst hx hy
  exact before_any H v es po i j a b w h hi hj
theorem swap_at (H : Nat) (v : Value) (es : List En) (po : Nat → Nat) (i j : Nat) (a b : En) (x y : Int) (w : World) (hx : x = i) (hy : y = j) (h : HW w H v es po) (hi : es[i]? = some a) (hj : es[j]? = some b) :
    Calls Try.prog 47 #[.pointer (some ⟨H, 0, none⟩), .int .i64 x, .int .i64 y] w fun e w' => e = .returned (.tuple #[]) ∧ HW w' H v (swS (es, po) i j a b).1 (swS (es, po) i j a b).2 ∧ Keep (fun k => k = H ∨ v.ownBlock = some k) w w' := by
  subst hx hy
  exact swap_any H v es po i j a b w h hi hj

def UpJ (H : Nat) (v : Value) (s : HS) (i : Nat) (w : World) (a' : Act) (w' : World) : Prop :=
  ∃ (m : Nat) (t : HS) (u2 u3 u4 u5 u6 u7 u8 u9 u10 u11 u12 u13 u14 u15 u16 u17 u18 u19 u20 u21 u22 : Value), a' = { tmps := #[.pointer (some ⟨H, 0, none⟩), .int .i64 m, u2, u3, u4, u5, u6, u7, u8, u9, u10, u11, u12, u13, u14, u15, u16, u17, u18, u19, u20, u21, u22], defers := [] } ∧ m < t.1.length ∧ HW w' H v t.1 t.2 ∧ Hid (upS t m = upS s i) ∧ Keep (fun k => k = H ∨ v.ownBlock = some k) w w'

set_option maxHeartbeats 2000000 in
theorem up_any (H : Nat) (v : Value) (s : HS) (i : Nat) (w : World) (h : HW w H v s.1 s.2) (hi : i < s.1.length) :
    Calls Try.prog 38 #[.pointer (some ⟨H, 0, none⟩), .int .i64 i] w fun e w' => e = .returned (.tuple #[]) ∧ HW w' H v (upS s i).1 (upS s i).2 ∧ Keep (fun k => k = H ∨ v.ownBlock = some k) w w' := by
  have hl := h.len
  go_enter Try.func38, Try.ntmps38
  go_wp2
  refine wp_scope_jumps1 0 (UpJ H v s i w) (fun a' _ => (intOf (a'.tmps.getD 1 undef)).toNat) rfl ?_ ?_
  · intro hp
    refine wp_seq (wp_label ?_)
    exact hp _ _ ⟨i, s, undef, undef, undef, undef, undef, undef, undef, undef, undef, undef, undef, undef, undef, undef, undef, undef, undef, undef, undef, undef, undef, rfl, hi, h, Lib.hid rfl, Keep.refl _ _⟩
  · rintro a' w' ⟨m, t, u2, u3, u4, u5, u6, u7, u8, u9, u10, u11, u12, u13, u14, u15, u16, u17, u18, u19, u20, u21, u22, rfl, hm, hW, hU, hK⟩
    by_cases h0 : m = 0
    · subst h0
      go_wp2
      simp only [Exit.jump]
      have e := hU.out
      rw [upS_zero] at e
      go_end0
      rw [← e]
      exact ⟨rfl, hW, hK⟩
    · obtain ⟨a, ha⟩ : ∃ a, Veil (t.1[m]? = some a) := ⟨t.1[m], ⟨List.getElem?_eq_getElem _⟩⟩
      obtain ⟨b, hb⟩ : ∃ b, Veil (t.1[(m - 1) / 2]? = some b) := ⟨t.1[(m - 1) / 2]'(by omega), ⟨List.getElem?_eq_getElem _⟩⟩
      have hl := hW.len
      by_cases hbe : be a b = true
      · go_wp2_with (go_at_call 46; refine (before_at H v t.1 t.2 m ((m - 1) / 2) a b _ _ _ (by omega) (by omega) hW ha.out hb.out).mono ?_; rintro e w1 ⟨rfl, hb1⟩)
        refine (swap_at H v t.1 t.2 m ((m - 1) / 2) a b _ _ _ (by omega) (by omega) (hW.below hb1) ha.out hb.out).mono ?_
        rintro e w2 ⟨rfl, hW2, hK2⟩
        have hU2 : Hid (upS (swS (t.1, t.2) m ((m - 1) / 2) a b) ((m - 1) / 2) = upS s i) := Lib.hid (by rw [← hU.out, upS_yes t m a b ha.out hb.out (by omega) hbe])
        have hlen := swS_len (t.1, t.2) m ((m - 1) / 2) a b
        have hm2 : (m - 1) / 2 < (swS (t.1, t.2) m ((m - 1) / 2) a b).1.length := by rw [hlen]; show _ < t.1.length; omega
        clear hlen
        generalize swS (t.1, t.2) m ((m - 1) / 2) a b = t2 at hW2 hU2 hm2
        have hK3 := hK.trans ((Keep.of_below hb1).trans hK2)
        have hq : ((m : Int) - 1) / 2 = (((m - 1) / 2 : Nat) : Int) := by omega
        go_wp2
        go_step3
        refine ⟨rfl, ⟨(m - 1) / 2, t2, _, _, _, _, _, _, _, _, _, _, _, _, _, _, _, _, _, _, _, _, _, by rw [hq], hm2, hW2, hU2, hK3⟩, ?_⟩
        simp [intOf]
        omega
      · have hbf : be a b = false := by simpa using hbe
        have e := upS_no t m a b ha.out hb.out hbf
        have e2 : upS s i = t := by rw [← hU.out, e]
        have HE := Lib.hid e2
        clear e e2
        go_wp2_with (go_at_call 46; refine (before_at H v t.1 t.2 m ((m - 1) / 2) a b _ _ _ (by omega) (by omega) hW ha.out hb.out).mono ?_; rintro e w1 ⟨rfl, hb1⟩)
        simp only [Exit.jump]
        go_end0
        rw [HE.out]
        exact ⟨rfl, hW.below hb1, hK.trans (Keep.of_below hb1)⟩
end Go.Proofs.Ytpapknmkiampgaa.S
namespace Go.Proofs.Ytpapknmkiampgaa.S
open Go.RowKit

def DownJ (H : Nat) (v : Value) (s : HS) (i : Nat) (w : World) (a' : Act) (w' : World) : Prop :=
  ∃ (m : Nat) (t : HS) (u2 u3 u4 u5 u6 u7 u8 u9 u10 u11 u12 u13 u14 u15 u16 u17 u18 u19 u20 u21 u22 u23 u24 u25 u26 u27 u28 u29 u30 u31 u32 u33 u34 u35 u36 u37 u38 u39 u40 : Value), a' = { tmps := #[.pointer (some ⟨H, 0, none⟩), .int .i64 m, u2, u3, u4, u5, u6, u7, u8, u9, u10, u11, u12, u13, u14, u15, u16, u17, u18, u19, u20, u21, u22, u23, u24, u25, u26, u27, u28, u29, u30, u31, u32, u33, u34, u35, u36, u37, u38, u39, u40], defers := [] } ∧ m < t.1.length ∧ t.1.length ≤ 128 ∧ HW w' H v t.1 t.2 ∧ Hid (downS t m = downS s i) ∧ Keep (fun k => k = H ∨ v.ownBlock = some k) w w'

set_option maxHeartbeats 4000000 in
theorem down_any (H : Nat) (v : Value) (s : HS) (i : Nat) (w : World) (h : HW w H v s.1 s.2) (hi : i < s.1.length) :
    Calls Try.prog 48 #[.pointer (some ⟨H, 0, none⟩), .int .i64 i] w fun e w' => e = .returned (.tuple #[]) ∧ HW w' H v (downS s i).1 (downS s i).2 ∧ Keep (fun k => k = H ∨ v.ownBlock = some k) w w' := by
  have hl := h.len
  go_enter Try.func48, Try.ntmps48
  go_wp2
  refine wp_scope_jumps1 0 (DownJ H v s i w) (fun a' _ => 128 - (intOf (a'.tmps.getD 1 undef)).toNat) rfl ?_ ?_
  · intro hp
    refine wp_seq_k (fun K hK => ?_)
    go_wp2
    go_step3
    rename_i hK
    exact hK _ _ (hp _ _ ⟨i, s, undef, undef, .int .i64 0, undef, undef, undef, undef, undef, undef, undef, undef, undef, undef, undef, undef, undef, undef, undef, undef, undef, undef, undef, undef, undef, undef, undef, undef, undef, undef, undef, undef, undef, undef, undef, undef, undef, undef, undef, undef, rfl, hi, hl, h, Lib.hid rfl, Keep.refl _ _⟩)
  · rintro a' w' ⟨m, t, u2, u3, u4, u5, u6, u7, u8, u9, u10, u11, u12, u13, u14, u15, u16, u17, u18, u19, u20, u21, u22, u23, u24, u25, u26, u27, u28, u29, u30, u31, u32, u33, u34, u35, u36, u37, u38, u39, u40, rfl, hm, hl, hW, hU, hK⟩
    have c0 := hW.c0
    obtain ⟨G, cap, rfl, _, _, _, _, _⟩ := hW.row (by omega)
    by_cases h1 : 2 * m + 1 < t.1.length
    · obtain ⟨a, ha⟩ : ∃ a, Veil (t.1[m]? = some a) := ⟨t.1[m], ⟨List.getElem?_eq_getElem _⟩⟩
      obtain ⟨c1, hc1⟩ : ∃ b, Veil (t.1[2 * m + 1]? = some b) := ⟨t.1[2 * m + 1]'(by omega), ⟨List.getElem?_eq_getElem _⟩⟩
      by_cases h2 : 2 * m + 2 < t.1.length
      · obtain ⟨b, hb⟩ : ∃ b, Veil (t.1[2 * m + 2]? = some b) := ⟨t.1[2 * m + 2]'(by omega), ⟨List.getElem?_eq_getElem _⟩⟩
        by_cases hbc : be b c1 = true
        · have hkid : Veil (kid t.1 m = 2 * m + 2) := ⟨by unfold kid; rw [hb.out, hc1.out]; simp [hbc]⟩
          obtain ⟨c, hc⟩ : ∃ c, Veil (t.1[2 * m + 2]? = some c) := ⟨b, hb⟩
          by_cases hbe : be c a = true
          · go_wp2_with fail
            refine (before_at H _ t.1 t.2 (2 * m + 2) (2 * m + 1) b c1 _ _ _ (by omega) (by omega) hW hb.out hc1.out).mono ?_
            rintro e w1 ⟨rfl, hb1⟩
            have hWn := hW.below hb1
            have hKn := hK.trans (Keep.of_below hb1)
            have c1n := hWn.c0
            go_wp2_with fail
            refine (before_at H _ t.1 t.2 (2 * m + 2) m c a _ _ _ (by omega) (by omega) hWn hc.out ha.out).mono ?_
            rintro e w2 ⟨rfl, hb2⟩
            have hW2 := hWn.below hb2
            go_wp2_with fail
            refine (swap_at H _ t.1 t.2 m (2 * m + 2) a c _ _ _ (by omega) (by omega) hW2 ha.out hc.out).mono ?_
            rintro e w3 ⟨rfl, hW3, hK3⟩
            have hU2 : Hid (downS (swS (t.1, t.2) m (2 * m + 2) a c) (2 * m + 2) = downS s i) := Lib.hid (by rw [← hU.out, downS_yes t m a c (by rw [hkid.out]; exact hc.out) ha.out hbe, hkid.out])
            have hlen : (swS (t.1, t.2) m (2 * m + 2) a c).1.length = t.1.length := swS_len (t.1, t.2) m (2 * m + 2) a c
            have hm2 : 2 * m + 2 < (swS (t.1, t.2) m (2 * m + 2) a c).1.length := by omega
            have hl2 : (swS (t.1, t.2) m (2 * m + 2) a c).1.length ≤ 128 := by omega
            clear hlen
            generalize swS (t.1, t.2) m (2 * m + 2) a c = t2 at hW3 hU2 hm2 hl2
            have hK4 := hKn.trans ((Keep.of_below hb2).trans hK3)
            go_wp2
            go_step3
            have hq : ((2 * m + 1 + 1 : Int)) = ((2 * m + 2 : Nat) : Int) := by omega
            refine ⟨rfl, ⟨2 * m + 2, t2, _, _, _, _, _, _, _, _, _, _, _, _, _, _, _, _, _, _, _, _, _, _, _, _, _, _, _, _, _, _, _, _, _, _, _, _, _, _, _, by rw [hq], hm2, hl2, hW3, hU2, hK4⟩, ?_⟩
            simp [intOf]
            omega
          · have hbf : be c a = false := by simpa using hbe
            have e2 : downS s i = t := by rw [← hU.out, downS_no t m a c (by rw [hkid.out]; exact hc.out) ha.out hbf]
            have HE := Lib.hid e2
            clear e2
            go_wp2_with fail
            refine (before_at H _ t.1 t.2 (2 * m + 2) (2 * m + 1) b c1 _ _ _ (by omega) (by omega) hW hb.out hc1.out).mono ?_
            rintro e w1 ⟨rfl, hb1⟩
            have hWn := hW.below hb1
            have hKn := hK.trans (Keep.of_below hb1)
            have c1n := hWn.c0
            go_wp2_with fail
            refine (before_at H _ t.1 t.2 (2 * m + 2) m c a _ _ _ (by omega) (by omega) hWn hc.out ha.out).mono ?_
            rintro e w2 ⟨rfl, hb2⟩
            have hW2 := hWn.below hb2
            go_wp2
            simp only [Exit.jump]
            go_end0
            rw [HE.out]
            exact ⟨rfl, hW2, hKn.trans (Keep.of_below hb2)⟩
        · have hbc' : be b c1 = false := by simpa using hbc
          have hkid : Veil (kid t.1 m = 2 * m + 1) := ⟨by unfold kid; rw [hb.out, hc1.out]; simp [hbc']⟩
          obtain ⟨c, hc⟩ : ∃ c, Veil (t.1[2 * m + 1]? = some c) := ⟨c1, hc1⟩
          by_cases hbe : be c a = true
          · go_wp2_with fail
            refine (before_at H _ t.1 t.2 (2 * m + 2) (2 * m + 1) b c1 _ _ _ (by omega) (by omega) hW hb.out hc1.out).mono ?_
            rintro e w1 ⟨rfl, hb1⟩
            have hWn := hW.below hb1
            have hKn := hK.trans (Keep.of_below hb1)
            have c1n := hWn.c0
            go_wp2_with fail
            refine (before_at H _ t.1 t.2 (2 * m + 1) m c a _ _ _ (by omega) (by omega) hWn hc.out ha.out).mono ?_
            rintro e w2 ⟨rfl, hb2⟩
            have hW2 := hWn.below hb2
            go_wp2_with fail
            refine (swap_at H _ t.1 t.2 m (2 * m + 1) a c _ _ _ (by omega) (by omega) hW2 ha.out hc.out).mono ?_
            rintro e w3 ⟨rfl, hW3, hK3⟩
            have hU2 : Hid (downS (swS (t.1, t.2) m (2 * m + 1) a c) (2 * m + 1) = downS s i) := Lib.hid (by rw [← hU.out, downS_yes t m a c (by rw [hkid.out]; exact hc.out) ha.out hbe, hkid.out])
            have hlen : (swS (t.1, t.2) m (2 * m + 1) a c).1.length = t.1.length := swS_len (t.1, t.2) m (2 * m + 1) a c
            have hm2 : 2 * m + 1 < (swS (t.1, t.2) m (2 * m + 1) a c).1.length := by omega
            have hl2 : (swS (t.1, t.2) m (2 * m + 1) a c).1.length ≤ 128 := by omega
            clear hlen
            generalize swS (t.1, t.2) m (2 * m + 1) a c = t2 at hW3 hU2 hm2 hl2
            have hK4 := hKn.trans ((Keep.of_below hb2).trans hK3)
            go_wp2
            go_step3
            have hq : ((2 * m + 1 : Int)) = ((2 * m + 1 : Nat) : Int) := by omega
            refine ⟨rfl, ⟨2 * m + 1, t2, _, _, _, _, _, _, _, _, _, _, _, _, _, _, _, _, _, _, _, _, _, _, _, _, _, _, _, _, _, _, _, _, _, _, _, _, _, _, _, by rw [hq], hm2, hl2, hW3, hU2, hK4⟩, ?_⟩
            simp [intOf]
            omega
          · have hbf : be c a = false := by simpa using hbe
            have e2 : downS s i = t := by rw [← hU.out, downS_no t m a c (by rw [hkid.out]; exact hc.out) ha.out hbf]
            have HE := Lib.hid e2
            clear e2
            go_wp2_with fail
            refine (before_at H _ t.1 t.2 (2 * m + 2) (2 * m + 1) b c1 _ _ _ (by omega) (by omega) hW hb.out hc1.out).mono ?_
            rintro e w1 ⟨rfl, hb1⟩
            have hWn := hW.below hb1
            have hKn := hK.trans (Keep.of_below hb1)
            have c1n := hWn.c0
            go_wp2_with fail
            refine (before_at H _ t.1 t.2 (2 * m + 1) m c a _ _ _ (by omega) (by omega) hWn hc.out ha.out).mono ?_
            rintro e w2 ⟨rfl, hb2⟩
            have hW2 := hWn.below hb2
            go_wp2
            simp only [Exit.jump]
            go_end0
            rw [HE.out]
            exact ⟨rfl, hW2, hKn.trans (Keep.of_below hb2)⟩
      · have hkid : Veil (kid t.1 m = 2 * m + 1) := ⟨by unfold kid; rw [List.getElem?_eq_none (by omega : t.1.length ≤ 2 * m + 2)]⟩
        obtain ⟨c, hc⟩ : ∃ c, Veil (t.1[2 * m + 1]? = some c) := ⟨c1, hc1⟩
        by_cases hbe : be c a = true
        · have hWn := hW
          have hKn := hK
          go_wp2_with fail
          refine (before_at H _ t.1 t.2 (2 * m + 1) m c a _ _ _ (by omega) (by omega) hWn hc.out ha.out).mono ?_
          rintro e w2 ⟨rfl, hb2⟩
          have hW2 := hWn.below hb2
          go_wp2_with fail
          refine (swap_at H _ t.1 t.2 m (2 * m + 1) a c _ _ _ (by omega) (by omega) hW2 ha.out hc.out).mono ?_
          rintro e w3 ⟨rfl, hW3, hK3⟩
          have hU2 : Hid (downS (swS (t.1, t.2) m (2 * m + 1) a c) (2 * m + 1) = downS s i) := Lib.hid (by rw [← hU.out, downS_yes t m a c (by rw [hkid.out]; exact hc.out) ha.out hbe, hkid.out])
          have hlen : (swS (t.1, t.2) m (2 * m + 1) a c).1.length = t.1.length := swS_len (t.1, t.2) m (2 * m + 1) a c
          have hm2 : 2 * m + 1 < (swS (t.1, t.2) m (2 * m + 1) a c).1.length := by omega
          have hl2 : (swS (t.1, t.2) m (2 * m + 1) a c).1.length ≤ 128 := by omega
          clear hlen
          generalize swS (t.1, t.2) m (2 * m + 1) a c = t2 at hW3 hU2 hm2 hl2
          have hK4 := hKn.trans ((Keep.of_below hb2).trans hK3)
          go_wp2
          go_step3
          have hq : ((2 * m + 1 : Int)) = ((2 * m + 1 : Nat) : Int) := by omega
          refine ⟨rfl, ⟨2 * m + 1, t2, _, _, _, _, _, _, _, _, _, _, _, _, _, _, _, _, _, _, _, _, _, _, _, _, _, _, _, _, _, _, _, _, _, _, _, _, _, _, _, by rw [hq], hm2, hl2, hW3, hU2, hK4⟩, ?_⟩
          simp [intOf]
          omega
        · have hbf : be c a = false := by simpa using hbe
          have e2 : downS s i = t := by rw [← hU.out, downS_no t m a c (by rw [hkid.out]; exact hc.out) ha.out hbf]
          have HE := Lib.hid e2
          clear e2
          have hWn := hW
          have hKn := hK
          go_wp2_with fail
          refine (before_at H _ t.1 t.2 (2 * m + 1) m c a _ _ _ (by omega) (by omega) hWn hc.out ha.out).mono ?_
          rintro e w2 ⟨rfl, hb2⟩
          have hW2 := hWn.below hb2
          go_wp2
          simp only [Exit.jump]
          go_end0
          rw [HE.out]
          exact ⟨rfl, hW2, hKn.trans (Keep.of_below hb2)⟩
    · go_wp2
      simp only [Exit.jump]
      have hkn : t.1[kid t.1 m]? = none := by
        refine List.getElem?_eq_none ?_
        have : 2 * m + 1 ≤ kid t.1 m := by
          unfold kid
          split
          · split <;> omega
          · omega
        omega
      have e2 : downS s i = t := by rw [← hU.out, downS_end t m hkn]
      refine bodyPost_ret (results_none rfl _ _ _) rfl ?_
      rw [e2]
      exact ⟨rfl, hW, hK⟩
end Go.Proofs.Ytpapknmkiampgaa.S
namespace Go.Proofs.Ytpapknmkiampgaa.S
open Go.RowKit

theorem ec_dropLast (es : List En) : (es.flatMap ec).take ((es.length - 1) * 2) = es.dropLast.flatMap ec := by
  induction es with
  | nil => rfl
  | cons e es ih =>
    cases es with
    | nil => rfl
    | cons e' es =>
      rw [List.dropLast_cons_cons, List.flatMap_cons, List.flatMap_cons (xs := (e' :: es).dropLast), ← ih]
      have : (es.length + 1 + 1 - 1) * 2 = (es.length + 1 - 1) * 2 + 2 := by omega
      simp only [List.length_cons, this]
      rfl

theorem HW.trunc {w : World} {H G cap : Nat} {es : List En} {po : Nat → Nat} (h : HW w H (.slice (some ⟨G, 0, none⟩) es.length cap) es po) :
    HW (w.setCell ⟨H, 0, none⟩ (.slice (some ⟨G, 0, none⟩) (es.length - 1) cap)) H (.slice (some ⟨G, 0, none⟩) (es.length - 1) cap) es.dropLast po := by
  have hap : G ≠ H := by simpa [Value.ownBlock] using h.apart
  have K : Keep (fun k => k = H) w (w.setCell ⟨H, 0, none⟩ (.slice (some ⟨G, 0, none⟩) (es.length - 1) cap)) := (Keep.refl (fun k => k = H) w).setCell ⟨H, 0, none⟩ _ (.inl rfl)
  refine ⟨World.cell?_setCell_same w _ _ h.c0, ?_, fun n hn => ?_, fun n hn => ?_, ?_, h.apart, ?_, h.small, fun e he => h.node e (List.dropLast_subset _ he)⟩
  · rw [World.frozen?_setCell]; exact h.f0
  · rw [World.cell?_setCell_other _ _ _ _ (by simp)]; exact h.at_ n hn
  · rw [World.frozen?_setCell]; exact h.fa n hn
  · refine K.owns ?_ ?_
    · obtain ⟨h1, h2⟩ := h.own
      rcases h2 with ⟨e, _⟩ | ⟨g, cap', cur, e, hb, hh, r1, r2, r3, r4⟩
      · cases e
      · injection e with e1 e2 e3
        injection e1 with e1
        injection e1 with e1
        subst e1 e3
        refine ⟨by rw [ec_len], .inr ⟨G, cap, cur, by rw [List.length_dropLast], hb, hh, by rw [List.length_dropLast]; omega, r2, r3, ?_⟩⟩
        rw [← ec_dropLast, ← r4, List.take_take, List.length_dropLast]
        congr 1
        omega
    · intro k hk
      simp only [Value.ownBlock, Option.some.injEq] at hk
      subst hk
      exact hap
  · rw [List.length_dropLast]
    have := h.len
    omega

theorem take_close (H G n cap L : Nat) (s : HS) (a : En) (w W5 : World) (hW5 : HW W5 H (.slice (some ⟨G, 0, none⟩) n cap) s.1 s.2) (hKT : Keep (fun k => k = H ∨ (Value.slice (some ⟨G, 0, none⟩) L cap).ownBlock = some k) w W5)
    (hRH : w.heap.size ≠ H) (hRG : w.heap.size ≠ G) : ∃ v', HW ((W5.setCell ⟨w.heap.size, 0, none⟩ (.string (tx a.1))).setCell ⟨w.heap.size, 1, none⟩ (.int .i64 a.2)) H v' s.1 s.2 ∧ v'.ownBlock = (Value.slice (some ⟨G, 0, none⟩) L cap).ownBlock ∧
      Keep (fun k => k = H ∨ (Value.slice (some ⟨G, 0, none⟩) L cap).ownBlock = some k) w ((W5.setCell ⟨w.heap.size, 0, none⟩ (.string (tx a.1))).setCell ⟨w.heap.size, 1, none⟩ (.int .i64 a.2)) := by
  refine ⟨.slice (some ⟨G, 0, none⟩) n cap, ?_, rfl, (hKT.setCell ⟨w.heap.size, 0, none⟩ _ (.inr (Nat.le_refl _))).setCell ⟨w.heap.size, 1, none⟩ _ (.inr (Nat.le_refl _))⟩
  exact hW5.keep (((Keep.refl (fun k => k = w.heap.size) W5).setCell ⟨w.heap.size, 0, none⟩ _ (.inl rfl)).setCell ⟨w.heap.size, 1, none⟩ _ (.inl rfl)) (Ne.symm hRH) (fun g hg e => by simp [Value.ownBlock] at hg; omega)
def TakeOk (H : Nat) (v : Value) (s : HS) (w w' : World) : Prop := ∃ v', HW w' H v' s.1 s.2 ∧ v'.ownBlock = v.ownBlock ∧ Keep (fun k => k = H ∨ v.ownBlock = some k) w w'

set_option maxHeartbeats 4000000 in
theorem take_any (H : Nat) (v : Value) (s : HS) (i : Nat) (a b : En) (w : World) (h : HW w H v s.1 s.2) (hi : s.1[i]? = some a) (hb : s.1[s.1.length - 1]? = some b) :
    Calls Try.prog 42 #[.pointer (some ⟨H, 0, none⟩), .int .i64 i] w fun e w' => e = .returned (.agg #[.string (tx a.1), .int .i64 a.2]) ∧ TakeOk H v (takeS s i a b) w w' := by
  have hl := h.len
  have hil : i < s.1.length := (List.getElem?_eq_some_iff.1 hi).1
  have hH := h.lt
  have c0 := h.c0
  obtain ⟨G, cap, rfl, hG, hGl, hcap, hcm, hrow⟩ := h.row (by omega)
  unfold maxLen at hcm
  have HI := Lib.hid hi
  have HB := Lib.hid hb
  have bR : Below w.heap.size w (w.alloc (.cells #[.string ⟨#[]⟩, .int .i64 0] 76)) := (Below.refl _ _).alloc (Nat.le_refl _) _
  have h1 := h.below bR
  clear hi hb hrow
  go_enter Try.func42, Try.ntmps42
  go_wp2_with fail
  refine (swap_at H _ s.1 s.2 i (s.1.length - 1) a b _ _ _ (by omega) (by omega) h1 HI.out HB.out).mono ?_
  rintro e W1 ⟨rfl, hW1, hK1⟩
  have hlen : (swS (s.1, s.2) i (s.1.length - 1) a b).1.length = s.1.length := swS_len (s.1, s.2) i (s.1.length - 1) a b
  have hla : (swS (s.1, s.2) i (s.1.length - 1) a b).1[s.1.length - 1]? = some a := by
    simp only [swS]
    rw [List.getElem?_set_self]
    simp
    omega
  obtain ⟨t, HT⟩ : ∃ t, Veil (swS s i (s.1.length - 1) a b = t) := ⟨_, ⟨rfl⟩⟩
  have HT2 : swS (s.1, s.2) i (s.1.length - 1) a b = t := HT.out
  rw [HT2] at hW1 hlen hla
  clear HT2
  have hrow := hW1.row (by omega)
  obtain ⟨G', cap', hv', _, _, _, _, hrow⟩ := hrow
  rw [hlen] at hv'
  injection hv' with e1 e2 e3
  injection e1 with e1
  injection e1 with e1
  subst e1 e3
  obtain ⟨x0, x1, _, _⟩ := hrow (s.1.length - 1) a hla
  have ka := hW1.node a (List.mem_of_getElem? hla)
  have na : a.2 < 128 := ka.1
  have c1 := hW1.c0
  have f1 := hW1.f0
  have p1 := hW1.at_ a.2 na
  have pf1 := hW1.fa a.2 na
  have hH1 := hW1.lt
  have hR1 : w.heap.size < W1.heap.size := by have := hK1.size; simp at this; omega
  have hG1 : G < W1.heap.size := by omega
  clear hrow e2 c0
  have HL := Lib.hid hlen
  have HLA := Lib.hid hla
  clear hlen hla
  have HG : Veil (HW W1 H (.slice (some ⟨G, 0, none⟩) t.1.length cap) t.1 t.2) := ⟨by rw [HL.out]; exact hW1⟩
  go_wp2_with fail
  obtain ⟨W2, hw2⟩ : ∃ W2, W2 = (W1.setCell ⟨H, 0, none⟩ (.slice (some ⟨G, 0, none⟩) (s.1.length - 1) cap)).alloc (.cells #[.string (tx a.1), .int .i64 a.2] 76) := ⟨_, rfl⟩
  have hW2 : HW W2 H (.slice (some ⟨G, 0, none⟩) (s.1.length - 1) cap) t.1.dropLast t.2 := by
    rw [hw2]
    have := HG.out.trunc
    rw [HL.out] at this
    exact this.below ((Below.refl _ _).alloc (Nat.le_refl _) _)
  have hK2 : Keep (fun k => k = H ∨ (Value.slice (some ⟨G, 0, none⟩) s.1.length cap).ownBlock = some k) W1 W2 := by
    rw [hw2]
    exact ((Keep.refl _ W1).setCell ⟨H, 0, none⟩ _ (.inl (.inl rfl))).alloc _
  have hz : (W1.setCell ⟨H, 0, none⟩ (.slice (some ⟨G, 0, none⟩) (s.1.length - 1) cap)).heap.size = W1.heap.size := by simp [World.setCell]
  have q0 : W2.cell? ⟨W1.heap.size, 0, none⟩ = some (.string (tx a.1)) := by rw [hw2]; exact new_cell _ _ hz _ _ 0 _ rfl
  have q1 : W2.cell? ⟨W1.heap.size, 1, none⟩ = some (.int .i64 a.2) := by rw [hw2]; exact new_cell _ _ hz _ _ 1 _ rfl
  have hX2 : W1.heap.size < W2.heap.size := by rw [hw2]; simp [World.setCell]
  clear hz
  rw [← hw2]
  clear hw2 x0 x1 c1 f1 p1 pf1
  have hK12 := hK1.trans hK2
  have hRH : w.heap.size ≠ H := by omega
  have hRG : w.heap.size ≠ G := by omega
  have r0 := hK12.cell (a := ⟨w.heap.size, 0, none⟩) (v := .string ⟨#[]⟩) (new_cell w _ rfl _ _ 0 _ rfl) (by rintro (e | e); exact hRH e; simp [Value.ownBlock] at e; omega)
  have r1 := hK12.cell (a := ⟨w.heap.size, 1, none⟩) (v := .int .i64 0) (new_cell w _ rfl _ _ 1 _ rfl) (by rintro (e | e); exact hRH e; simp [Value.ownBlock] at e; omega)
  have g0 := hK12.unfrozen (a := ⟨w.heap.size, 0, none⟩) (b := false) (by simp) (new_free w _ _ 0) (by rintro (e | e); exact hRH e; simp [Value.ownBlock] at e; omega)
  have g1 := hK12.unfrozen (a := ⟨w.heap.size, 1, none⟩) (b := false) (by simp) (new_free w _ _ 1) (by rintro (e | e); exact hRH e; simp [Value.ownBlock] at e; omega)
  have p2 := hW2.at_ a.2 na
  have pf2 := hW2.fa a.2 na
  have hH2 := hW2.lt
  have hK02 := ((Keep.refl (fun k => k = H ∨ (Value.slice (some ⟨G, 0, none⟩) s.1.length cap).ownBlock = some k) w).alloc (.cells #[.string ⟨#[]⟩, .int .i64 0] 76)).trans hK12
  have HTA : Veil (takeS s i a b = if i < s.1.length - 1 then downS (upS (t.1.dropLast, upd t.2 a.2 0) i) i else (t.1.dropLast, upd t.2 a.2 0)) := ⟨by unfold takeS; rw [HT.out]⟩
  have hDL : t.1.dropLast.length = s.1.length - 1 := by rw [List.length_dropLast, HL.out]
  generalize hd : t.1.dropLast = d at hW2 HTA hDL
  have HDL := Lib.hid hDL
  clear hd HT HG HLA hK1 hK2 hK12 hW1 bR h1 h hDL
  go_region
  obtain ⟨W3, hw3⟩ : ∃ W3, W3 = (W2.setCell ⟨H, 1 + a.2, none⟩ (.int .i64 0)).drew := ⟨_, rfl⟩
  have hK3 : Keep (fun k => k = H ∨ (Value.slice (some ⟨G, 0, none⟩) s.1.length cap).ownBlock = some k) W2 W3 := by
    rw [hw3]
    exact ((Keep.refl _ W2).setCell ⟨H, 1 + a.2, none⟩ _ (.inl (.inl rfl))).drewN 1
  have hW3 : HW W3 H (.slice (some ⟨G, 0, none⟩) (s.1.length - 1) cap) d (upd t.2 a.2 0) := by
    rw [hw3]
    exact (hW2.setP a.2 0 (by omega)).drew
  rw [← hw3]
  clear hw3 p2 pf2 hH2
  by_cases hlast : i < s.1.length - 1
  · rw [if_pos hlast] at HTA
    go_wp2_with fail
    refine (up_any H _ (d, upd t.2 a.2 0) i W3 hW3 (by rw [HDL.out]; exact hlast)).mono ?_
    rintro e W4 ⟨rfl, hW4, hK4⟩
    go_wp2_with fail
    refine (down_any H _ (upS (d, upd t.2 a.2 0) i) i W4 hW4 (by rw [up_len, HDL.out]; exact hlast)).mono ?_
    rintro e W5 ⟨rfl, hW5, hK5⟩
    rw [← HTA.out] at hW5
    have hKt : Keep (fun k => k = H ∨ (Value.slice (some ⟨G, 0, none⟩) s.1.length cap).ownBlock = some k) W2 W5 := hK3.trans (hK4.trans hK5)
    have hKT := hK02.trans hKt
    have q0' := hKt.cell q0 (by rintro (e | e); simp at e; omega; simp [Value.ownBlock] at e; omega)
    have q1' := hKt.cell q1 (by rintro (e | e); simp at e; omega; simp [Value.ownBlock] at e; omega)
    have r0' := hKt.cell r0 (by rintro (e | e); exact hRH e; simp [Value.ownBlock] at e; omega)
    have r1' := hKt.cell r1 (by rintro (e | e); exact hRH e; simp [Value.ownBlock] at e; omega)
    have g0' := hKt.unfrozen (World.block_lt_of_cell? _ _ r0) g0 (by rintro (e | e); exact hRH e; simp [Value.ownBlock] at e; omega)
    have g1' := hKt.unfrozen (World.block_lt_of_cell? _ _ r1) g1 (by rintro (e | e); exact hRH e; simp [Value.ownBlock] at e; omega)
    have hfin := take_close H G _ cap s.1.length (takeS s i a b) a w _ hW5 hKT hRH hRG
    clear hK3 hK4 hK5 hW4 hW3 q0 q1 r0 r1 g0 g1 hK02 hKt hKT hW5
    go_wp2
    exact bodyPost_ret (v := .agg #[.string (tx a.1), .int .i64 a.2]) (by simp [results, Try.results42, go_sem, r0', r1']) rfl ⟨rfl, hfin⟩
  · rw [if_neg hlast] at HTA
    have hW5 := hW3
    have e5 := HTA.out.symm
    rw [show d = (d, upd t.2 a.2 0).1 from rfl, show upd t.2 a.2 0 = (d, upd t.2 a.2 0).2 from rfl, e5] at hW5
    clear e5
    have hKt := hK3
    have hKT := hK02.trans hKt
    have q0' := hKt.cell q0 (by rintro (e | e); simp at e; omega; simp [Value.ownBlock] at e; omega)
    have q1' := hKt.cell q1 (by rintro (e | e); simp at e; omega; simp [Value.ownBlock] at e; omega)
    have r0' := hKt.cell r0 (by rintro (e | e); exact hRH e; simp [Value.ownBlock] at e; omega)
    have r1' := hKt.cell r1 (by rintro (e | e); exact hRH e; simp [Value.ownBlock] at e; omega)
    have g0' := hKt.unfrozen (World.block_lt_of_cell? _ _ r0) g0 (by rintro (e | e); exact hRH e; simp [Value.ownBlock] at e; omega)
    have g1' := hKt.unfrozen (World.block_lt_of_cell? _ _ r1) g1 (by rintro (e | e); exact hRH e; simp [Value.ownBlock] at e; omega)
    have hfin := take_close H G _ cap s.1.length (takeS s i a b) a w _ hW5 hKT hRH hRG
    clear hK3 hW3 q0 q1 r0 r1 g0 g1 hK02 hKt hKT hW5
    go_wp2
    exact bodyPost_ret (v := .agg #[.string (tx a.1), .int .i64 a.2]) (by simp [results, Try.results42, go_sem, r0', r1']) rfl ⟨rfl, hfin⟩
end Go.Proofs.Ytpapknmkiampgaa.S
namespace Go.Proofs.Ytpapknmkiampgaa.S
open Go.RowKit

theorem zero66 (w : World) : (zeroValue 74).run Try.prog w = .ok (.agg heap0) w := by kernel_rfl
theorem HW.new (w : World) : HW (w.alloc (.cells heap0 74)) w.heap.size (.slice none 0 0) [] (fun _ => 0) :=
  ⟨new_cell w _ rfl _ _ 0 _ heap0_zero, new_free w _ _ _, fun n hn => new_cell w _ rfl _ _ _ _ (heap0_at n hn), fun n _ => new_free w _ _ _, World.ownsRow_nil _ _ _ _, by simp [Value.ownBlock], by simp, by simp, by simp⟩
theorem new_any (w : World) : Calls Try.prog 14 #[] w fun e w' => e = .returned (.pointer (some ⟨w.heap.size, 0, none⟩)) ∧ HW w' w.heap.size (.slice none 0 0) [] (fun _ => 0) ∧ Below w.heap.size w w' := by
  have hz := zero66 w
  go_enter Try.func14, Try.ntmps14
  go_wp2
  go_ret
  exact ⟨rfl, HW.new w, (Below.refl _ _).alloc (Nat.le_refl _) _⟩

theorem len_any (H : Nat) (v : Value) (s : HS) (w : World) (h : HW w H v s.1 s.2) : Calls Try.prog 34 #[.pointer (some ⟨H, 0, none⟩)] w fun e w' => e = .returned (.int .i64 s.1.length) ∧ w = w' := by
  have c0 := h.c0
  obtain ⟨a, cap, hv⟩ : ∃ a cap, v = .slice a s.1.length cap := by
    rcases h.own.2 with ⟨e, h0⟩ | ⟨g, cap, cur, e, _⟩
    · exact ⟨none, 0, by rw [e, h0]⟩
    · exact ⟨_, _, e⟩
  subst hv
  go_enter Try.func34, Try.ntmps34
  go_wp2
  go_ret
  exact ⟨rfl, rfl⟩
theorem len_nil (w : World) : Calls Try.prog 34 #[.pointer none] w fun e w' => e = .returned (.int .i64 0) ∧ w = w' := by
  go_enter Try.func34, Try.ntmps34
  go_wp2
  go_ret
  exact ⟨rfl, rfl⟩

def topR (es : List En) : Value := match es with | [] => .tuple #[.int .i64 0, .string ⟨#[]⟩, .int .i64 8] | a :: _ => .tuple #[.int .i64 a.2, .string (tx a.1), .int .i64 0]
theorem top_any (H : Nat) (v : Value) (s : HS) (w : World) (h : HW w H v s.1 s.2) : Calls Try.prog 29 #[.pointer (some ⟨H, 0, none⟩)] w fun e w' => e = .returned (topR s.1) ∧ ∃ n, w' = w.drewN n := by
  obtain ⟨es, po⟩ := s
  have c0 := h.c0
  cases es with
  | nil =>
    obtain ⟨a, cap, hv⟩ : ∃ a cap, v = .slice a 0 cap := by
      rcases h.own.2 with ⟨e, h0⟩ | ⟨g, cap, cur, e, _⟩
      · exact ⟨none, 0, by rw [e]⟩
      · exact ⟨_, _, e⟩
    subst hv
    go_enter Try.func29, Try.ntmps29
    go_wp2
    go_ret3
    exact ⟨rfl, 0, rfl⟩
  | cons a es =>
    obtain ⟨G, cap, rfl, hG, hGl, hcap, hcm, hrow⟩ := h.row (by simp)
    obtain ⟨i0, i1, _, _⟩ := hrow 0 a rfl
    simp only [Nat.zero_mul, Nat.zero_add, List.length_cons] at i0 i1 c0 hcap
    clear hrow
    unfold maxLen at hcm
    go_enter Try.func29, Try.ntmps29
    go_wp2
    go_quiet (fail)
    go_wp2
    go_ret3
    exact ⟨rfl, _, rfl⟩
theorem top_nil (w : World) : Calls Try.prog 29 #[.pointer none] w fun e w' => e = .returned (.tuple #[.int .i64 0, .string ⟨#[]⟩, .int .i64 2]) ∧ w = w' := by
  go_enter Try.func29, Try.ntmps29
  go_wp2
  go_ret3
  exact ⟨rfl, rfl⟩
end Go.Proofs.Ytpapknmkiampgaa.S
namespace Go.Proofs.Ytpapknmkiampgaa.S
open Go.RowKit

theorem info69 : (Try.prog.info? 76).map (fun i => (i.zero, i.size, i.bytes)) = some (some (.agg #[.string ⟨#[]⟩, .int .i64 0]), 2, 24) := by kernel_rfl

/-- The heap behind a call: its list may lie in a new block. -/
def Ok (H : Nat) (v : Value) (s : HS) (w w' : World) : Prop := ∃ v', HW w' H v' s.1 s.2 ∧ Keep (fun k => k = H ∨ v.ownBlock = some k) w w' ∧ (v'.ownBlock = v.ownBlock ∨ ∃ g, v'.ownBlock = some g ∧ w.heap.size ≤ g)

theorem push_out (p : Value) (n k : Int) (w : World) (hp : p = .pointer none ∨ ∃ H, p = .pointer (some ⟨H, 0, none⟩)) (hn : p = .pointer none ∨ n < 0 ∨ 127 < n) :
    Calls Try.prog 16 #[p, .int .i64 n, .string (tx k)] w fun e w' => e = .returned (.int .i64 2) ∧ w = w' := by
  rcases hp with rfl | ⟨H, rfl⟩
  · go_enter Try.func16, Try.ntmps16
    go_wp2
    go_ret
    exact ⟨rfl, rfl⟩
  · have hf : (decide (0 ≤ n) && decide (n ≤ 127)) = false := by
      rcases hn with hn | hn | hn
      · cases hn
      · simp; omega
      · simp; omega
    go_enter Try.func16, Try.ntmps16
    go_wp2_with (go_at_call 35; refine (in_any n _).mono ?_; rintro e w' ⟨rfl, rfl⟩)
    go_ret
    exact ⟨rfl, rfl⟩

theorem push_twice (H : Nat) (v : Value) (s : HS) (n : Nat) (k : Int) (w : World) (h : HW w H v s.1 s.2) (hn : n < 128) (ht : s.2 n ≠ 0) :
    Calls Try.prog 16 #[.pointer (some ⟨H, 0, none⟩), .int .i64 n, .string (tx k)] w fun e w' => e = .returned (.int .i64 5) ∧ w = w' := by
  have hf0 : decide (0 ≤ (n : Int)) = true := by simp
  have hf : decide ((n : Int) ≤ 127) = true := by simp; omega
  have ha := h.at_ n hn
  have ht' : ((s.2 n : Int) != 0) = true := by simpa using ht
  go_enter Try.func16, Try.ntmps16
  go_wp2_with (go_at_call 35; refine (in_any n _).mono ?_; rintro e w' ⟨rfl, rfl⟩)
  go_ret
  exact ⟨rfl, rfl⟩

theorem keep_grown {H : Nat} {v : Value} {s : HS} {w w1 : World} {o : Obj} (_ : HW w H v s.1 s.2) (hg : (w.alloc o).grownBy w1 v.ownBlock) : Keep (fun k => v.ownBlock = some k) w w1 :=
  ((Keep.refl (fun k => v.ownBlock = some k) w).alloc o).grown hg (fun _ hk => .inl hk)
theorem push_cells {H : Nat} {v : Value} {s : HS} {w w1 : World} {o : Obj} (h : HW w H v s.1 s.2) (hg : (w.alloc o).grownBy w1 v.ownBlock) {n : Nat} (hn : n < 128) :
    w1.cell? ⟨H, 0, none⟩ = some v ∧ w1.frozen? ⟨H, 0, none⟩ = false ∧ w1.cell? ⟨H, 1 + n, none⟩ = some (.int .i64 (s.2 n)) ∧ w1.frozen? ⟨H, 1 + n, none⟩ = false := by
  have K := keep_grown h hg
  exact ⟨K.cell h.c0 h.apart, K.unfrozen h.lt h.f0 h.apart, K.cell (h.at_ n hn) h.apart, K.unfrozen h.lt (h.fa n hn) h.apart⟩

theorem push_state {H : Nat} {v : Value} {s : HS} {w w1 : World} {o : Obj} {g1 cap1 n : Nat} {k : Int} (h : HW w H v s.1 s.2) (hg : (w.alloc o).grownBy w1 v.ownBlock)
    (hown : w1.ownsRow 0 76 2 (.slice (some ⟨g1, 0, none⟩) (s.1.length + 1) cap1) (s.1.length + 1) (s.1.flatMap ec ++ ec (k, n)))
    (hat : (Value.slice (some ⟨g1, 0, none⟩) (s.1.length + 1) cap1).ownBlock = v.ownBlock ∨ (Value.slice (some ⟨g1, 0, none⟩) (s.1.length + 1) cap1).ownBlock = some (w.alloc o).heap.size) (hn : n < 128) (hk : sm k) (hl : s.1.length < 128) :
    HW (w1.setCell ⟨H, 0, none⟩ (.slice (some ⟨g1, 0, none⟩) (s.1.length + 1) cap1)) H (.slice (some ⟨g1, 0, none⟩) (s.1.length + 1) cap1) (s.1 ++ [(k, n)]) s.2 := by
  have K := keep_grown h hg
  have hap : (Value.slice (some ⟨g1, 0, none⟩) (s.1.length + 1) cap1).ownBlock ≠ some H := by
    rcases hat with e | e
    · rw [e]; exact h.apart
    · rw [e]
      have := h.lt
      simp
      omega
  refine ⟨World.cell?_setCell_same w1 _ _ (K.cell h.c0 h.apart), ?_, fun m hm => ?_, fun m hm => ?_, ?_, hap, by simp; omega, h.small, ?_⟩
  · rw [World.frozen?_setCell]; exact K.unfrozen h.lt h.f0 h.apart
  · rw [World.cell?_setCell_other _ _ _ _ (by simp)]; exact K.cell (h.at_ m hm) h.apart
  · rw [World.frozen?_setCell]; exact K.unfrozen h.lt (h.fa m hm) h.apart
  · have K2 : Keep (fun k => k = H) w1 (w1.setCell ⟨H, 0, none⟩ (.slice (some ⟨g1, 0, none⟩) (s.1.length + 1) cap1)) := (Keep.refl (fun k => k = H) w1).setCell ⟨H, 0, none⟩ _ (.inl rfl)
    have := K2.owns hown (fun k hk e => by subst e; exact hap hk)
    simpa using this
  · intro e he
    rcases List.mem_append.1 he with he | he
    · exact h.node e he
    · simp at he
      subst he
      exact ⟨hn, hk⟩
theorem up_at (H : Nat) (v : Value) (s : HS) (i : Nat) (x : Int) (w : World) (hx : x = i) (h : HW w H v s.1 s.2) (hi : i < s.1.length) :
    Calls Try.prog 38 #[.pointer (some ⟨H, 0, none⟩), .int .i64 x] w fun e w' => e = .returned (.tuple #[]) ∧ HW w' H v (upS s i).1 (upS s i).2 ∧ Keep (fun k => k = H ∨ v.ownBlock = some k) w w' := by
  subst hx
  exact up_any H v s i w h hi

set_option maxHeartbeats 2000000 in
theorem push_new (H : Nat) (v : Value) (s : HS) (n : Nat) (k : Int) (w : World) (h : HW w H v s.1 s.2) (hn : n < 128) (hk : sm k) (ht : s.2 n = 0) (hl : s.1.length < 128) :
    Calls Try.prog 16 #[.pointer (some ⟨H, 0, none⟩), .int .i64 n, .string (tx k)] w fun e w' => e = .returned (.int .i64 0) ∧ Ok H v (upS (s.1 ++ [(k, n)], upd s.2 n (s.1.length + 1)) s.1.length) w w' := by
  have hf0 : decide (0 ≤ (n : Int)) = true := by simp
  have hf : decide ((n : Int) ≤ 127) = true := by simp; omega
  have ha := h.at_ n hn
  have fa := h.fa n hn
  rw [ht] at ha
  have c0 := h.c0
  have f0 := h.f0
  have hH := h.lt
  obtain ⟨ad, cap, hv⟩ : ∃ ad cap, v = .slice ad s.1.length cap := by
    rcases h.own.2 with ⟨e, h0⟩ | ⟨g, cap, cur, e, _⟩
    · exact ⟨none, 0, by rw [e, h0]⟩
    · exact ⟨_, _, e⟩
  subst hv
  have hown := h.own
  have hap := h.apart
  have hsl : SlR (w.alloc (.cells #[.string (tx k), .int .i64 n] 76)) 2 (.slice (some ⟨w.heap.size, 0, none⟩) 1 1) 1 (ec (k, n)) :=
    ⟨rfl, by simp [maxLen], _, 1, rfl, by simp, .inr ⟨w.heap.size, 0, rfl, fun j u hu => by rw [Nat.zero_add]; exact new_cell w _ rfl _ _ j u (by simpa [ec] using hu)⟩⟩
  go_enter Try.func16, Try.ntmps16
  go_wp2_with (first | (go_at_call 35; refine (in_any n _).mono ?_; rintro e w' ⟨rfl, rfl⟩) | (at_builtin; refine wpList_append_sl rfl _ _ 72 76 rfl 0 (.agg #[.string ⟨#[]⟩, .int .i64 0]) 2 24 Try.underlying72 info69 rfl (by decide) (by decide) (.slice ad s.1.length cap) _ _ rfl (hown.alloc _) _ 1 (ec (k, n)) rfl hsl (ec_one _) (by omega) (by simp) ?_; intro v1 w1 hown1 hg hat; obtain ⟨g1, cap1, rfl⟩ := own_form (by omega) hown1; obtain ⟨c01, f01, ha1, fa1⟩ := push_cells h hg hn))
  have hP := push_state h hg hown1 hat hn hk hl
  clear c01 f01 ha1 fa1 ha fa c0 f0
  have hap1 : g1 ≠ H := by simpa [Value.ownBlock] using hP.apart
  have c01 := hP.c0
  have ha1 := hP.at_ n hn
  have fa1 := hP.fa n hn
  obtain ⟨W1, hw1⟩ : ∃ W1, W1 = w1.setCell ⟨H, 0, none⟩ (.slice (some ⟨g1, 0, none⟩) (s.1.length + 1) cap1) := ⟨_, rfl⟩
  have hK1 : Keep (fun k => k = H ∨ (Value.slice ad s.1.length cap).ownBlock = some k) w W1 := by
    rw [hw1]
    exact ((keep_grown h hg).mono (fun k _ hk => .inr hk)).setCell ⟨H, 0, none⟩ _ (.inl (.inl rfl))
  have hat' : Veil ((Value.slice (some ⟨g1, 0, none⟩) (s.1.length + 1) cap1).ownBlock = (Value.slice ad s.1.length cap).ownBlock ∨ ∃ g, (Value.slice (some ⟨g1, 0, none⟩) (s.1.length + 1) cap1).ownBlock = some g ∧ w.heap.size ≤ g) := by
    refine ⟨?_⟩
    rcases hat with e | e
    · exact .inl e
    · exact .inr ⟨_, e, by simp⟩
  rw [← hw1] at hP c01 ha1 fa1 ⊢
  clear hw1 hat hg hown hown1 h hap hsl
  go_region
  obtain ⟨W2, hw2⟩ : ∃ W2, W2 = (W1.setCell ⟨H, 1 + n, none⟩ (.int .i64 (s.1.length + 1 : Nat))).drew := ⟨_, rfl⟩
  have hK2 : Keep (fun k => k = H ∨ (Value.slice ad s.1.length cap).ownBlock = some k) w W2 := by
    rw [hw2]
    exact (hK1.setCell ⟨H, 1 + n, none⟩ _ (.inl (.inl rfl))).drewN 1
  have hW2 : HW W2 H (.slice (some ⟨g1, 0, none⟩) (s.1.length + 1) cap1) (s.1 ++ [(k, (n : Nat))]) (upd s.2 n (s.1.length + 1)) := by
    rw [hw2]
    exact (hP.setP n (s.1.length + 1) (by omega)).drew
  have c02 := hW2.c0
  rw [show ((s.1.length : Int) + 1) = ((s.1.length + 1 : Nat) : Int) from rfl, ← hw2]
  clear hw2 hP c01 ha1 fa1 hK1
  go_wp2_with fail
  refine (up_at H _ (s.1 ++ [(k, (n : Nat))], upd s.2 n (s.1.length + 1)) s.1.length _ W2 (by omega) hW2 (by simp)).mono ?_
  rintro e W3 ⟨rfl, hW3, hK3⟩
  have hOk : Ok H (.slice ad s.1.length cap) (upS (s.1 ++ [(k, n)], upd s.2 n (s.1.length + 1)) s.1.length) w W3 := by
    refine ⟨_, hW3, hK2.then hK3 ?_, hat'.out⟩
    rintro j hj (e | e)
    · exact .inl e
    · rcases hat'.out with h1 | ⟨g, h1, h2⟩
      · rw [h1] at e; exact .inr e
      · rw [h1] at e
        injection e with e
        omega
  clear hW3 hK3 hK2 hW2 c02
  go_wp2
  go_ret
  exact ⟨rfl, hOk⟩

theorem drop_out (p : Value) (n : Int) (w : World) (hp : p = .pointer none ∨ ∃ H, p = .pointer (some ⟨H, 0, none⟩)) (hn : p = .pointer none ∨ n < 0 ∨ 127 < n) :
    Calls Try.prog 22 #[p, .int .i64 n] w fun e w' => e = .returned (.int .i64 2) ∧ w = w' := by
  rcases hp with rfl | ⟨H, rfl⟩
  · go_enter Try.func22, Try.ntmps22
    go_wp2
    go_ret
    exact ⟨rfl, rfl⟩
  · have hf : (decide (0 ≤ n) && decide (n ≤ 127)) = false := by
      rcases hn with hn | hn | hn
      · cases hn
      · simp; omega
      · simp; omega
    go_enter Try.func22, Try.ntmps22
    go_wp2_with (go_at_call 35; refine (in_any n _).mono ?_; rintro e w' ⟨rfl, rfl⟩)
    go_ret
    exact ⟨rfl, rfl⟩
theorem drop_none (H : Nat) (v : Value) (s : HS) (n : Nat) (w : World) (h : HW w H v s.1 s.2) (hn : n < 128) (ht : s.2 n = 0) :
    Calls Try.prog 22 #[.pointer (some ⟨H, 0, none⟩), .int .i64 n] w fun e w' => e = .returned (.int .i64 8) ∧ w = w' := by
  have hf0 : decide (0 ≤ (n : Int)) = true := by simp
  have hf : decide ((n : Int) ≤ 127) = true := by simp; omega
  have ha := h.at_ n hn
  rw [ht] at ha
  go_enter Try.func22, Try.ntmps22
  go_wp2_with (go_at_call 35; refine (in_any n _).mono ?_; rintro e w' ⟨rfl, rfl⟩)
  go_ret
  exact ⟨rfl, rfl⟩
theorem take_at (H : Nat) (v : Value) (s : HS) (i : Nat) (x : Int) (a b : En) (w : World) (hx : x = i) (h : HW w H v s.1 s.2) (hi : s.1[i]? = some a) (hb : s.1[s.1.length - 1]? = some b) :
    Calls Try.prog 42 #[.pointer (some ⟨H, 0, none⟩), .int .i64 x] w fun e w' => e = .returned (.agg #[.string (tx a.1), .int .i64 a.2]) ∧ TakeOk H v (takeS s i a b) w w' := by
  subst hx
  exact take_any H v s i a b w h hi hb
theorem drop_some (H : Nat) (v : Value) (s : HS) (n i : Nat) (a b : En) (w : World) (h : HW w H v s.1 s.2) (hn : n < 128) (ht : s.2 n = i + 1) (hi : s.1[i]? = some a) (hb : s.1[s.1.length - 1]? = some b) :
    Calls Try.prog 22 #[.pointer (some ⟨H, 0, none⟩), .int .i64 n] w fun e w' => e = .returned (.int .i64 0) ∧ TakeOk H v (takeS s i a b) w w' := by
  have hf0 : decide (0 ≤ (n : Int)) = true := by simp
  have hf : decide ((n : Int) ≤ 127) = true := by simp; omega
  have ha := h.at_ n hn
  have hl := h.len
  have hil := (List.getElem?_eq_some_iff.1 hi).1
  rw [ht] at ha
  have hz : (((i + 1 : Nat) : Int) == 0) = false := by simp; omega
  have HI := Lib.hid hi
  have HB := Lib.hid hb
  clear hi hb ht
  go_enter Try.func22, Try.ntmps22
  go_wp2_with (go_at_call 35; refine (in_any n _).mono ?_; rintro e w' ⟨rfl, rfl⟩)
  refine (take_at H v s i _ a b _ (by omega) h HI.out HB.out).mono ?_
  rintro e w' ⟨rfl, hT⟩
  go_wp2
  go_ret
  exact ⟨rfl, hT⟩

theorem pop_none (H : Nat) (v : Value) (s : HS) (w : World) (h : HW w H v s.1 s.2) (hs : s.1 = []) :
    Calls Try.prog 30 #[.pointer (some ⟨H, 0, none⟩)] w fun e w' => e = .returned (.tuple #[.int .i64 0, .string ⟨#[]⟩, .int .i64 8]) ∧ ∃ n, w' = w.drewN n := by
  have ht := top_any H v s w h
  rw [hs] at ht
  simp only [topR] at ht
  have HT := Lib.hid ht
  clear ht hs
  go_enter Try.func30, Try.ntmps30
  go_wp2_with (go_at_call 29; refine (HT.out).mono ?_; rintro e w' ⟨rfl, nn, rfl⟩)
  go_ret3
  exact ⟨rfl, _, rfl⟩
theorem pop_nil (w : World) : Calls Try.prog 30 #[.pointer none] w fun e w' => e = .returned (.tuple #[.int .i64 0, .string ⟨#[]⟩, .int .i64 2]) ∧ w = w' := by
  go_enter Try.func30, Try.ntmps30
  go_wp2_with (go_at_call 29; refine (top_nil _).mono ?_; rintro e w' ⟨rfl, rfl⟩)
  go_ret3
  exact ⟨rfl, rfl⟩
theorem TakeOk.drewN {H : Nat} {v : Value} {s : HS} {w w' : World} {n : Nat} (h : TakeOk H v s (w.drewN n) w') : TakeOk H v s w w' := by
  obtain ⟨v', h1, h2, h3⟩ := h
  exact ⟨v', h1, h2, h3.os, h3.tape, h3.output, h3.size, h3.block⟩
theorem HW.drewN {w : World} {H : Nat} {v : Value} {es : List En} {po : Nat → Nat} (h : HW w H v es po) (n : Nat) : HW (w.drewN n) H v es po := ⟨h.c0, h.f0, h.at_, h.fa, h.own, h.apart, h.len, h.small, h.node⟩
theorem pop_some (H : Nat) (v : Value) (s : HS) (a b : En) (w : World) (h : HW w H v s.1 s.2) (hi : s.1[0]? = some a) (hb : s.1[s.1.length - 1]? = some b) :
    Calls Try.prog 30 #[.pointer (some ⟨H, 0, none⟩)] w fun e w' => e = .returned (.tuple #[.int .i64 a.2, .string (tx a.1), .int .i64 0]) ∧ TakeOk H v (takeS s 0 a b) w w' := by
  have ht := top_any H v s w h
  have e1 : topR s.1 = .tuple #[.int .i64 a.2, .string (tx a.1), .int .i64 0] := by
    cases hs : s.1 with
    | nil => rw [hs] at hi; simp at hi
    | cons x l => rw [hs] at hi; simp at hi; subst hi; rfl
  rw [e1] at ht
  have HT := Lib.hid ht
  have HI := Lib.hid hi
  have HB := Lib.hid hb
  clear ht e1 hi hb
  go_enter Try.func30, Try.ntmps30
  go_wp2_with (go_at_call 29; refine (HT.out).mono ?_; rintro e w' ⟨rfl, nn, rfl⟩)
  refine (take_at H v s 0 _ a b _ (by rfl) (h.drewN nn) HI.out HB.out).mono ?_
  rintro e w' ⟨rfl, hT⟩
  go_wp2
  go_ret3
  exact ⟨rfl, hT.drewN⟩
end Go.Proofs.Ytpapknmkiampgaa.S
namespace Go.Proofs.Ytpapknmkiampgaa.S
open Go.RowKit

theorem HW.range {w : World} {H : Nat} {v : Value} {es : List En} {po : Nat → Nat} (h : HW w H v es po) : w.rangeAt H 1 (atL po) := by
  intro j u hu
  simp only [atL, List.getElem?_map, Option.map_eq_some_iff] at hu
  obtain ⟨n, hn, rfl⟩ := hu
  have h1 := (List.getElem?_eq_some_iff.1 hn).1
  rw [List.length_range] at h1
  rw [List.getElem?_range h1] at hn
  injection hn with hn
  subst hn
  exact h.at_ j h1
theorem size64 : (Try.prog.info? 64).map (·.size) = some 128 := by kernel_rfl

theorem HW.copy {w w1 : World} {gg cap2 : Nat} {es : List En} {po : Nat → Nat} (hlen : es.length ≤ 128) (small : ∀ n, po n ≤ 128) (node : ∀ e ∈ es, okE e)
    (hown : w1.ownsRow 0 76 2 (.slice (some ⟨gg, 0, none⟩) es.length cap2) es.length (es.flatMap ec)) (hlt : gg < w1.heap.size) (_ : Below w.heap.size w w1) :
    HW (w1.alloc (.cells (heapOf (.slice (some ⟨gg, 0, none⟩) es.length cap2) (atL po)) 74)) w1.heap.size (.slice (some ⟨gg, 0, none⟩) es.length cap2) es po := by
  refine ⟨new_cell w1 _ rfl _ _ 0 _ (heapOf_zero _ _), new_free w1 _ _ _, fun n hn => new_cell w1 _ rfl _ _ _ _ ?_, fun n _ => new_free w1 _ _ _, hown.alloc _, by simp [Value.ownBlock]; omega, hlen, small, node⟩
  rw [heapOf_at _ _ _ hn (atL_len _)]
  simp [atL, hn]

def NodesOk (s : HS) (w : World) (e : Ending) (w' : World) : Prop :=
  ∃ out, e = .returned out ∧ w'.ownsRow w.heap.size 3 1 out (nodesOf s).length (natL (nodesOf s)) ∧ Below w.heap.size w w'
/-- The loop of Nodes. -/
def NodesL (s : HS) (w : World) (C gg B : Nat) (out : Value) (wr : World) : Prop :=
  ∃ (done : List Nat) (t : HS) (v : Value), HW wr C v t.1 t.2 ∧ v.ownBlock = some gg ∧ done ++ popAll t.1.length t = nodesOf s ∧ wr.ownsRow B 3 1 out done.length (natL done) ∧ Below w.heap.size w wr ∧ B ≤ wr.heap.size ∧ done.length + t.1.length ≤ 128
theorem field69 (x : ByteArray) (y : Int) (w : World) : (Instr.field 76 (.agg #[.string x, .int .i64 y]) 1).run Try.prog w = .ok (.int .i64 y) w := by kernel_rfl
theorem info3 : (Try.prog.info? 3).map (fun i => (i.zero, i.size, i.bytes)) = some (some (.int .i64 0), 1, 8) := by kernel_rfl

set_option maxHeartbeats 2000000 in
set_option maxRecDepth 100000 in
theorem nodes_some (H : Nat) (v : Value) (s : HS) (w : World) (h : HW w H v s.1 s.2) (hpos : 0 < s.1.length) :
    Calls Try.prog 32 #[.pointer (some ⟨H, 0, none⟩)] w (NodesOk s w) := by
  obtain ⟨G, cap, rfl, hG, hGl, hcap, hcm, _⟩ := h.row hpos
  have c0 := h.c0
  have hr := h.range
  have hl := atL_len s.2
  have h1 := atL_one s.2
  have hlen := h.len
  have hH := h.lt
  have hsrc := fun j u hu => h.own.cells (g := G) rfl j u hu
  have hel := ec_len s.1
  obtain ⟨cs, hcs⟩ : ∃ cs, Veil (atL s.2 = cs) := ⟨_, ⟨rfl⟩⟩
  rw [hcs.out] at hr hl h1
  have hu := Try.underlying64
  have hi : (Try.prog.info? 64).map (·.size) = some cs.length := by rw [size64, hl]
  obtain ⟨i0, hi0, hz0, hz1, hz2⟩ := info_parts info69
  have hz66 := fun w => zero66 w
  have hne := heap0_ne
  have hsz := heap0_size
  have hmx : s.1.length ≤ maxLen := by unfold maxLen; omega
  have hmb : (0 + s.1.length) * 24 ≤ 140737488355328 := by omega
  go_enter Try.func32, Try.ntmps32
  go_wp2_with fail
  go_region_held3 (fun w' => w'.cell? ⟨H, 0, none⟩ = some (.slice (some ⟨G, 0, none⟩) s.1.length cap) ∧ w'.rangeAt H 1 cs) ((first | exact ⟨c0, hr⟩ | assumption | exact keep_S (by assumption) (World.grownBy_alloc _ _ none) (fun e => by cases e) | exact keep_S (by assumption) hgrow (row_ne hH)))
    ((refine step_append_lies _ (by rfl) _ _ _ (by rfl) 0 76 i0 _ 2 24 Try.underlying72 hi0 hz0 hz1 hz2 rfl (by decide) (.slice (some ⟨w.heap.size, 0, none⟩) 0 0) 0 [] (by rfl) ((World.ownsRow_made w #[] 0 (Nat.zero_le _) (by simp [maxLen]) rfl).drew) ⟨G, 0, none⟩ s.1.length cap (s.1.flatMap ec) (by rfl) hel (src_alloc hsrc _) (by intro u hu; simp only [List.mem_flatMap] at hu; obtain ⟨a, _, ha⟩ := hu; exact ec_one a u ha) hpos (by simpa using hmx) hmb (Nat.zero_le _) (w.heap.size + 1) (by simp) ?_; intro gg cap2 w1 hown1 hgrow hat hlt))
  have hb1 : Below w.heap.size w w1 := ((((Below.refl _ w).alloc (Nat.le_refl _) (.cells #[] 76)).drew).grown hgrow (by show _ ≤ (w.alloc _).heap.size; simp) (fun k hk => by simp [Value.ownBlock] at hk; omega))
  have hW2 := HW.copy (po := s.2) hlen h.small h.node (by simpa using hown1) hlt hb1
  rw [hcs.out] at hW2
  have hgg : w.heap.size ≤ gg := by
    rcases hat with e | e
    · simp [Value.ownBlock] at e; omega
    · omega
  obtain ⟨W2, hw2⟩ : ∃ W2, W2 = w1.alloc (.cells (heapOf (.slice (some ⟨gg, 0, none⟩) s.1.length cap2) cs) 74) := ⟨_, rfl⟩
  have hw2' : w1.alloc (Obj.cells (List.foldl (fun cs x => cs.setIfInBounds (1 + x.2) x.1) (heap0.setIfInBounds 0 (Value.slice (some ⟨gg, 0, none⟩) s.1.length cap2)) cs.zipIdx) 74) = W2 := hw2.symm
  have hb2 : Below w.heap.size w W2 := by rw [hw2]; exact hb1.alloc hb1.size _
  have hCB : w1.heap.size < W2.heap.size := by rw [hw2]; simp
  have hC : w.heap.size ≤ w1.heap.size := hb1.size
  rw [← hw2] at hW2
  rw [hw2']
  generalize w1.heap.size = C at hW2 hCB hC hlt ⊢
  generalize List.foldl (fun cs x => cs.setIfInBounds (1 + x.2) x.1) (heap0.setIfInBounds 0 (Value.slice (some ⟨gg, 0, none⟩) s.1.length cap2)) cs.zipIdx = X
  have hst : NodesL s w C gg W2.heap.size (.slice none 0 0) W2 := ⟨[], s, _, hW2, rfl, rfl, World.ownsRow_nil _ _ _ _, hb2, Nat.le_refl _, by simpa using hlen⟩
  clear hw2 hw2' hown1 hgrow hat hb1 hW2 hr h1 hu hi hne hsz hmx hmb hsrc hel hz66 hcs hl
  have hgB : gg < W2.heap.size := by omega
  clear h c0 hH
  generalize W2.heap.size = B at hst hCB hgB
  go_wp2_with fail
  go_loopw [4] (fun out wr => NodesL s w C gg B out wr) (fun out _ => 128 - sliceLen out)
  case atStart => exact hst
  case round =>
    clear hst hb2
    obtain ⟨done, t, v, hW, hv, hd, ho, hb, hB, hl⟩ := hrel
    obtain ⟨oa, oc, hou⟩ := own_shape ho
    obtain ⟨va, vc, hvv⟩ := own_shape hW.own
    subst hou hvv
    have c0 := hW.c0
    by_cases ht : 0 < t.1.length
    · obtain ⟨a, ha⟩ : ∃ a, Veil (t.1[0]? = some a) := ⟨t.1[0], ⟨List.getElem?_eq_getElem _⟩⟩
      obtain ⟨b, hbb⟩ : ∃ b, Veil (t.1[t.1.length - 1]? = some b) := ⟨t.1[t.1.length - 1]'(by omega), ⟨List.getElem?_eq_getElem _⟩⟩
      have hfd := fun w => field69 (tx a.1) a.2 w
      have HD := Lib.hid hd
      have HV := Lib.hid hv
      clear hd hv
      go_wp2_with fail
      refine (take_at C _ t 0 _ a b _ (by rfl) hW ha.out hbb.out).mono ?_
      rintro e w3 ⟨rfl, hT⟩
      obtain ⟨v3, hW3, hv3, hK3⟩ := hT
      have ho3 := hK3.owns ho (nodes_far ho hCB hgB HV.out)
      have hb3 : Below w.heap.size w w3 := Go.Proofs.Ytpapknmkiampgaa.Below.keep hb hb.size hK3 (by rintro i (e | e); omega; rw [HV.out] at e; injection e with e; omega)
      have hB3 : B ≤ w3.heap.size := Nat.le_trans hB hK3.size
      have hsl : SlR (w3.alloc (.cells #[.int .i64 a.2] 3)) 1 (.slice (some ⟨w3.heap.size, 0, none⟩) 1 1) 1 (ints [(a.2 : Int)]) :=
        ⟨rfl, by simp [maxLen], _, 1, rfl, by simp, .inr ⟨w3.heap.size, 0, rfl, fun j u hu => by rw [Nat.zero_add]; exact new_cell w3 _ rfl _ _ j u (by simpa [ints] using hu)⟩⟩
      go_wp2_with (at_builtin; refine wpList_append_sl rfl _ _ 22 3 rfl B (.int .i64 0) 1 8 Try.underlying22 info3 rfl (by decide) (by decide) (.slice oa done.length oc) _ _ rfl (ho3.alloc _) _ 1 (ints [(a.2 : Int)]) rfl hsl (ints_one _) (by omega) (by simp; omega) ?_; intro v1 w4 hown4 hg4 hat4; obtain ⟨g1, cap1, rfl⟩ := own_form (by omega) hown4)
      refine ⟨⟨done ++ [a.2], takeS t 0 a b, v3, ?_, ?_, ?_, ?_, ?_, ?_, ?_⟩, ?_⟩
      · exact hW3.keep (((Keep.refl (fun _ => False) w3).alloc _ |>.mono (by simp)).grown (S := fun k => (Value.slice oa done.length oc).ownBlock = some k) hg4 (fun k hk => .inl hk))
          (fun e => by have := (ho3.lt C e).1; omega) (fun g h1 h2 => by rw [hv3, HV.out] at h1; injection h1 with h1; have := (ho3.lt g h2).1; omega)
      · rw [hv3]; exact HV.out
      · rw [← HD.out, List.append_assoc]
        congr 1
        obtain ⟨m, hm⟩ : ∃ m, t.1.length = m + 1 := ⟨t.1.length - 1, by omega⟩
        rw [take_len, hm]
        simp only [Nat.add_sub_cancel, popAll, ha.out, List.cons_append, List.nil_append]
        rw [show t.1.length - 1 = m by omega] at hbb
        rw [hm, Nat.add_sub_cancel, hbb.out]
      · have e1 : (done ++ [a.2]).length = done.length + 1 := by simp
        rw [e1, natL_snoc]
        exact hown4
      · exact (hb3.alloc hb3.size _).grown hg4 (by simp; have := hb3.size; omega) (fun k hk => by have := (ho3.lt k hk).1; omega)
      · have := hg4.size
        simp at this
        omega
      · rw [take_len]
        simp
        omega
      · simp only [sliceLen]
        omega
    · go_wp2
      go_ret
      have h0 : t.1.length = 0 := by omega
      rw [h0] at hd
      simp only [popAll, List.append_nil] at hd
      refine ⟨_, rfl, ?_, hb⟩
      rw [← hd]
      obtain ⟨h1, h2⟩ := ho
      refine ⟨h1, ?_⟩
      rcases h2 with h2 | ⟨g, cap', cur, e, hbb, r⟩
      · exact .inl h2
      · exact .inr ⟨g, cap', cur, e, by omega, r⟩

set_option maxHeartbeats 2000000 in
set_option maxRecDepth 100000 in
theorem nodes_none (H : Nat) (v : Value) (s : HS) (w : World) (h : HW w H v s.1 s.2) (h0 : s.1 = []) :
    Calls Try.prog 32 #[.pointer (some ⟨H, 0, none⟩)] w (NodesOk s w) := by
  obtain ⟨a, cap, rfl⟩ := own_shape h.own
  have c0 := h.c0
  have hr := h.range
  have hl := atL_len s.2
  have h1 := atL_one s.2
  have hH := h.lt
  have hN : nodesOf s = [] := by simp [nodesOf, h0, popAll]
  rw [h0] at c0
  simp only [List.length_nil] at c0
  obtain ⟨cs, hcs⟩ : ∃ cs, Veil (atL s.2 = cs) := ⟨_, ⟨rfl⟩⟩
  rw [hcs.out] at hr hl h1
  have hu := Try.underlying64
  have hi : (Try.prog.info? 64).map (·.size) = some cs.length := by rw [size64, hl]
  have hz66 := fun w => zero66 w
  have hne := heap0_ne
  have hsz := heap0_size
  have HN := Lib.hid hN
  clear h h0 hN
  rcases a with _ | a
  · go_enter Try.func32, Try.ntmps32
    go_wp2_with fail
    go_region_held3 (fun w' => w'.cell? ⟨H, 0, none⟩ = some (.slice none 0 cap) ∧ w'.rangeAt H 1 cs) ((first | exact ⟨c0, hr⟩ | assumption | exact keep_S (by assumption) (World.grownBy_alloc _ _ none) (fun e => by cases e))) (fail)
    obtain ⟨W2, hw2⟩ : ∃ W2, W2 = ((w.alloc (.cells #[] 76)).alloc (.cells (heapOf (.slice (some ⟨w.heap.size, 0, none⟩) 0 0) cs) 74)).drew := ⟨_, rfl⟩
    have hw2' : ((w.alloc (Obj.cells #[] 76)).alloc (Obj.cells (List.foldl (fun cs x => cs.setIfInBounds (1 + x.2) x.1) (heap0.setIfInBounds 0 (Value.slice (some ⟨w.heap.size, 0, none⟩) 0 0)) cs.zipIdx) 74)).drew = W2 := hw2.symm
    have hb2 : Below w.heap.size w W2 := by rw [hw2]; exact (((Below.refl _ w).alloc (Nat.le_refl _) _).alloc (by simp) _).drew
    have c2 : W2.cell? ⟨w.heap.size + 1, 0, none⟩ = some (.slice (some ⟨w.heap.size, 0, none⟩) 0 0) := by
      rw [hw2]
      exact new_cell (w.alloc (.cells #[] 76)) (w.heap.size + 1) (by simp) _ _ 0 _ (heapOf_zero _ _)
    rw [hw2']
    clear hw2 hw2' c0 hr hz66 hne hsz hi hu h1 hl hcs
    generalize List.foldl (fun cs x => cs.setIfInBounds (1 + x.2) x.1) (heap0.setIfInBounds 0 (Value.slice (some ⟨w.heap.size, 0, none⟩) 0 0)) cs.zipIdx = X
    go_wp2_with fail
    go_loopw [4] (fun out wr => out = .slice none 0 0 ∧ wr = W2) (fun _ _ => 0)
    case atStart => exact ⟨rfl, rfl⟩
    case round =>
      obtain ⟨rfl, rfl⟩ := hrel
      go_wp2
      go_ret
      refine ⟨_, rfl, ?_, hb2⟩
      rw [HN.out]
      exact World.ownsRow_nil _ _ _ _
  · go_enter Try.func32, Try.ntmps32
    go_wp2_with fail
    go_region_held3 (fun w' => w'.cell? ⟨H, 0, none⟩ = some (.slice (some a) 0 cap) ∧ w'.rangeAt H 1 cs) ((first | exact ⟨c0, hr⟩ | assumption | exact keep_S (by assumption) (World.grownBy_alloc _ _ none) (fun e => by cases e))) (fail)
    obtain ⟨W2, hw2⟩ : ∃ W2, W2 = ((w.alloc (.cells #[] 76)).alloc (.cells (heapOf (.slice (some ⟨w.heap.size, 0, none⟩) 0 0) cs) 74)).drew := ⟨_, rfl⟩
    have hw2' : ((w.alloc (Obj.cells #[] 76)).alloc (Obj.cells (List.foldl (fun cs x => cs.setIfInBounds (1 + x.2) x.1) (heap0.setIfInBounds 0 (Value.slice (some ⟨w.heap.size, 0, none⟩) 0 0)) cs.zipIdx) 74)).drew = W2 := hw2.symm
    have hb2 : Below w.heap.size w W2 := by rw [hw2]; exact (((Below.refl _ w).alloc (Nat.le_refl _) _).alloc (by simp) _).drew
    have c2 : W2.cell? ⟨w.heap.size + 1, 0, none⟩ = some (.slice (some ⟨w.heap.size, 0, none⟩) 0 0) := by
      rw [hw2]
      exact new_cell (w.alloc (.cells #[] 76)) (w.heap.size + 1) (by simp) _ _ 0 _ (heapOf_zero _ _)
    rw [hw2']
    clear hw2 hw2' c0 hr hz66 hne hsz hi hu h1 hl hcs
    generalize List.foldl (fun cs x => cs.setIfInBounds (1 + x.2) x.1) (heap0.setIfInBounds 0 (Value.slice (some ⟨w.heap.size, 0, none⟩) 0 0)) cs.zipIdx = X
    go_wp2_with fail
    go_loopw [4] (fun out wr => out = .slice none 0 0 ∧ wr = W2) (fun _ _ => 0)
    case atStart => exact ⟨rfl, rfl⟩
    case round =>
      obtain ⟨rfl, rfl⟩ := hrel
      go_wp2
      go_ret
      refine ⟨_, rfl, ?_, hb2⟩
      rw [HN.out]
      exact World.ownsRow_nil _ _ _ _
end Go.Proofs.Ytpapknmkiampgaa.S
namespace Go.Proofs.Ytpapknmkiampgaa.S
open Go.RowKit

/-- The heap in block H, its list in v, holds the entries of L. -/
def HB (w : World) (H : Nat) (v : Value) (L : List En) : Prop := ∃ s, HW w H v s.1 s.2 ∧ Hs s L
theorem HB.lt {w : World} {H : Nat} {v : Value} {L : List En} (h : HB w H v L) : H < w.heap.size := by
  obtain ⟨s, h1, _⟩ := h
  exact h1.lt
theorem HB.own_lt {w : World} {H : Nat} {v : Value} {L : List En} (h : HB w H v L) : ∀ g, v.ownBlock = some g → g < w.heap.size := by
  obtain ⟨s, h1, _⟩ := h
  exact fun g hg => (h1.own.lt g hg).2
theorem HB.keep {w w' : World} {H : Nat} {v : Value} {L : List En} {S : Nat → Prop} (h : HB w H v L) (k : Keep S w w') (hH : ¬ S H) (hG : ∀ G, v.ownBlock = some G → ¬ S G) : HB w' H v L := by
  obtain ⟨s, h1, h2⟩ := h
  exact ⟨s, h1.keep k hH hG, h2⟩
theorem HB.below {w w' : World} {H : Nat} {v : Value} {L : List En} (h : HB w H v L) (b : Below w.heap.size w w') : HB w' H v L := by
  obtain ⟨s, h1, h2⟩ := h
  exact ⟨s, h1.below b, h2⟩
theorem HB.srt {w : World} {H : Nat} {v : Value} {L : List En} (h : HB w H v L) : Srt L := by
  obtain ⟨s, _, h2⟩ := h
  exact h2.srt
theorem HB.node {w : World} {H : Nat} {v : Value} {L : List En} (h : HB w H v L) : ∀ a ∈ L, a.2 < 128 := by
  obtain ⟨s, h1, h2⟩ := h
  exact fun a ha => (h1.node a (h2.perm.symm.subset ha)).1
theorem HB.inj {w : World} {H : Nat} {v : Value} {L : List En} (h : HB w H v L) {a b : En} (ha : a ∈ L) (hb : b ∈ L) (e : a.2 = b.2) : a = b := by
  obtain ⟨s, _, h2⟩ := h
  exact h2.node ha hb e
theorem HB.len {w : World} {H : Nat} {v : Value} {L : List En} (h : HB w H v L) : L.length ≤ 128 := by
  obtain ⟨s, h1, h2⟩ := h
  rw [← h2.length]
  exact h1.len

/-- What a step makes of it. -/
def HStep (H : Nat) (v : Value) (L : List En) (w w' : World) : Prop :=
  ∃ v', HB w' H v' L ∧ Keep (fun k => k = H ∨ v.ownBlock = some k) w w' ∧ (v'.ownBlock = v.ownBlock ∨ ∃ g, v'.ownBlock = some g ∧ w.heap.size ≤ g)

theorem Push_new (H : Nat) (v : Value) (L : List En) (n : Nat) (x k : Int) (w : World) (hx : x = n) (h : HB w H v L) (hn : n < 128) (hk : sm k) (hL : ∀ a ∈ L, a.2 ≠ n) :
    Calls Try.prog 16 #[.pointer (some ⟨H, 0, none⟩), .int .i64 x, .string (tx k)] w fun e w' => e = .returned (.int .i64 0) ∧ HStep H v (ins (k, n) L) w w' := by
  subst hx
  obtain ⟨s, h1, h2⟩ := h
  have hz : s.2 n = 0 := by
    by_cases hz : s.2 n = 0
    · exact hz
    · obtain ⟨a, ha, e⟩ := (h2.there n).1 hz
      exact absurd e (hL a ha)
  refine (push_new H v s n k w h1 hn hk hz (h2.room (fun e he => (h1.node e he).1) hn hz)).mono ?_
  rintro e w' ⟨he, v', h3, h4, h5⟩
  exact ⟨he, v', ⟨_, h3, h2.push hz⟩, h4, h5⟩
theorem Push_twice (H : Nat) (v : Value) (L : List En) (n : Nat) (x k : Int) (w : World) (hx : x = n) (h : HB w H v L) (hn : n < 128) (hL : ∃ a ∈ L, a.2 = n) :
    Calls Try.prog 16 #[.pointer (some ⟨H, 0, none⟩), .int .i64 x, .string (tx k)] w fun e w' => e = .returned (.int .i64 5) ∧ w = w' := by
  subst hx
  obtain ⟨s, h1, h2⟩ := h
  exact push_twice H v s n k w h1 hn ((h2.there n).2 hL)
theorem Drop_none (H : Nat) (v : Value) (L : List En) (n : Nat) (x : Int) (w : World) (hx : x = n) (h : HB w H v L) (hn : n < 128) (hL : ∀ a ∈ L, a.2 ≠ n) :
    Calls Try.prog 22 #[.pointer (some ⟨H, 0, none⟩), .int .i64 x] w fun e w' => e = .returned (.int .i64 8) ∧ w = w' := by
  subst hx
  obtain ⟨s, h1, h2⟩ := h
  have hz : s.2 n = 0 := by
    by_cases hz : s.2 n = 0
    · exact hz
    · obtain ⟨a, ha, e⟩ := (h2.there n).1 hz
      exact absurd e (hL a ha)
  exact drop_none H v s n w h1 hn hz
theorem Drop_some (H : Nat) (v : Value) (L : List En) (n : Nat) (x : Int) (w : World) (hx : x = n) (h : HB w H v L) (hn : n < 128) (hL : ∃ a ∈ L, a.2 = n) :
    Calls Try.prog 22 #[.pointer (some ⟨H, 0, none⟩), .int .i64 x] w fun e w' => e = .returned (.int .i64 0) ∧ HStep H v (L.filter fun x => x.2 != n) w w' := by
  subst hx
  obtain ⟨s, h1, h2⟩ := h
  obtain ⟨i, a, hi, ha, e, haL⟩ := h2.place ((h2.there n).2 hL)
  obtain ⟨b, hb⟩ := h2.last (by have := List.length_pos_of_mem haL; omega)
  refine (drop_some H v s n i a b w h1 hn hi ha hb).mono ?_
  rintro e' w' ⟨he, v', h3, h4, h5⟩
  have h6 := h2.drop ha hb
  rw [e] at h6
  exact ⟨he, v', ⟨_, h3, h6⟩, h5, .inl h4⟩
theorem Pop_none (H : Nat) (v : Value) (w : World) (h : HB w H v []) :
    Calls Try.prog 30 #[.pointer (some ⟨H, 0, none⟩)] w fun e w' => e = .returned (.tuple #[.int .i64 0, .string ⟨#[]⟩, .int .i64 8]) ∧ Below w.heap.size w w' := by
  obtain ⟨s, h1, h2⟩ := h
  refine (pop_none H v s w h1 (List.perm_nil.1 h2.perm)).mono ?_
  rintro e w' ⟨he, n, rfl⟩
  exact ⟨he, below_drewN (Below.refl _ _) n⟩
theorem Pop_some (H : Nat) (v : Value) (a : En) (L : List En) (w : World) (h : HB w H v (a :: L)) :
    Calls Try.prog 30 #[.pointer (some ⟨H, 0, none⟩)] w fun e w' => e = .returned (.tuple #[.int .i64 a.2, .string (tx a.1), .int .i64 0]) ∧ HStep H v L w w' := by
  obtain ⟨s, h1, h2⟩ := h
  obtain ⟨b, hb⟩ := h2.last (by simp)
  refine (pop_some H v s a b w h1 h2.head hb).mono ?_
  rintro e' w' ⟨he, v', h3, h4, h5⟩
  exact ⟨he, v', ⟨_, h3, h2.pop hb⟩, h5, .inl h4⟩
theorem Top_any (H : Nat) (v : Value) (L : List En) (w : World) (h : HB w H v L) :
    Calls Try.prog 29 #[.pointer (some ⟨H, 0, none⟩)] w fun e w' => e = .returned (topR L) ∧ Below w.heap.size w w' := by
  obtain ⟨s, h1, h2⟩ := h
  refine (top_any H v s w h1).mono ?_
  rintro e w' ⟨he, n, rfl⟩
  refine ⟨?_, below_drewN (Below.refl _ _) n⟩
  rw [he]
  cases L with
  | nil => rw [List.perm_nil.1 h2.perm]
  | cons a L =>
    have := h2.head
    cases hs : s.1 with
    | nil => rw [hs] at this; simp at this
    | cons c l => rw [hs] at this; simp at this; subst this; rfl
theorem Len_any (H : Nat) (v : Value) (L : List En) (w : World) (h : HB w H v L) : Calls Try.prog 34 #[.pointer (some ⟨H, 0, none⟩)] w fun e w' => e = .returned (.int .i64 L.length) ∧ w = w' := by
  obtain ⟨s, h1, h2⟩ := h
  rw [← h2.length]
  exact len_any H v s w h1
theorem New_any (w : World) : Calls Try.prog 14 #[] w fun e w' => e = .returned (.pointer (some ⟨w.heap.size, 0, none⟩)) ∧ HB w' w.heap.size (.slice none 0 0) [] ∧ Below w.heap.size w w' :=
  (new_any w).mono fun _ _ ⟨h1, h2, h3⟩ => ⟨h1, ⟨([], fun _ => 0), h2, Hs.new⟩, h3⟩
theorem Nodes_any (H : Nat) (v : Value) (L : List En) (w : World) (h : HB w H v L) : Calls Try.prog 32 #[.pointer (some ⟨H, 0, none⟩)] w (NodesR L w) := by
  obtain ⟨s, h1, h2⟩ := h
  have hn := h2.nodes
  have : Calls Try.prog 32 #[.pointer (some ⟨H, 0, none⟩)] w (NodesOk s w) := by
    by_cases h0 : 0 < s.1.length
    · exact nodes_some H v s w h1 h0
    · exact nodes_none H v s w h1 (List.eq_nil_of_length_eq_zero (by omega))
  refine this.mono ?_
  rintro e w' ⟨out, h3, h4, h5⟩
  rw [hn, List.length_map] at h4
  exact ⟨out, h3, h4, h5⟩
theorem nodes_nil (w : World) : Calls Try.prog 32 #[.pointer none] w fun e w' => e = .returned (.slice none 0 0) ∧ w = w' := by
  go_enter Try.func32, Try.ntmps32
  go_wp2
  go_ret
  exact ⟨rfl, rfl⟩
theorem lower_nil (n k : Int) (w : World) : Calls Try.prog 20 #[.pointer none, .int .i64 n, .string (tx k)] w fun e w' => e = .returned (.int .i64 2) ∧ w = w' := by
  go_enter Try.func20, Try.ntmps20
  go_wp2
  go_ret
  exact ⟨rfl, rfl⟩
theorem key_nil (n : Int) (w : World) : Calls Try.prog 25 #[.pointer none, .int .i64 n] w fun e w' => e = .returned (.tuple #[.string ⟨#[]⟩, .int .i64 2]) ∧ w = w' := by
  go_enter Try.func25, Try.ntmps25
  go_wp2
  go_ret2
  exact ⟨rfl, rfl⟩

/-- A step of a heap made behind w. -/
theorem HStep.below {H : Nat} {v : Value} {L : List En} {w w1 w2 : World} (b : Below w.heap.size w w1) (hH : w.heap.size ≤ H) (hv : ∀ g, v.ownBlock = some g → w.heap.size ≤ g) (h : HStep H v L w1 w2) :
    ∃ v', HB w2 H v' L ∧ Below w.heap.size w w2 ∧ ∀ g, v'.ownBlock = some g → w.heap.size ≤ g := by
  obtain ⟨v', h1, h2, h3⟩ := h
  refine ⟨v', h1, Go.Proofs.Ytpapknmkiampgaa.Below.keep b b.size h2 (by rintro i (e | e); omega; exact hv i e), fun g hg => ?_⟩
  rcases h3 with e | ⟨g', e, hg'⟩
  · rw [e] at hg; exact hv g hg
  · rw [e] at hg
    injection hg with hg
    have := b.size
    omega

end Go.Proofs.Ytpapknmkiampgaa.S
