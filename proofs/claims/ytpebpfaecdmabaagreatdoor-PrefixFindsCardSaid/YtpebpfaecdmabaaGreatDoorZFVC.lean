/- awake's graph: Tree, the walk. -/
import Derived.Test.YtpebpfaecdmabaaGreatDoorZF06
import Derived.Deep.LoopGhost
import Derived.Test.YtpebpfaecdmabaaGreatDoorZF07
namespace Go.Proofs.YtpebpfaecdmabaaGreatDoor
open Go.RowKit

def INF : Int := 1073741824
theorem sum01 (w : World) : Calls Tryz.prog 30 #[.int .i64 0, .int .i64 1] w fun e w' => e = .returned (.int .i64 1) ∧ w = w' := by
  refine (Ds.Sum_any 0 1 w).mono ?_
  rintro e w' ⟨rfl, h⟩
  rw [show Ds.sumI 0 1 = 1 by decide +kernel]
  exact ⟨rfl, h⟩
theorem with1 (w : World) : Calls Tryz.prog 31 #[.agg #[.int .u64 0, .int .u64 0], .int .i64 1] w fun e w' => e = .returned (.tuple #[.agg #[.int .u64 2, .int .u64 0], .int .i64 0]) ∧ Below w.heap.size w w' := by
  refine (Bs.With_any (0, 0) 1 w).mono ?_
  rintro e w' ⟨rfl, h⟩
  rw [show Bs.withR (0, 0) 1 = ((2, 0), 0) by decide +kernel]
  exact ⟨rfl, h⟩
theorem five (w : World) (a b c d e : Obj) : Below w.heap.size w (((((w.alloc a).alloc b).alloc c).alloc d).alloc e).drew ∧ (((((w.alloc a).alloc b).alloc c).alloc d).alloc e).drew.heap.size = w.heap.size + 5 ∧
    (((((w.alloc a).alloc b).alloc c).alloc d).alloc e).drew.heap[w.heap.size]? = some a ∧ (((((w.alloc a).alloc b).alloc c).alloc d).alloc e).drew.heap[w.heap.size + 1]? = some b ∧
    (((((w.alloc a).alloc b).alloc c).alloc d).alloc e).drew.heap[w.heap.size + 1 + 1]? = some c ∧ (((((w.alloc a).alloc b).alloc c).alloc d).alloc e).drew.heap[w.heap.size + 1 + 1 + 1]? = some d ∧ (((((w.alloc a).alloc b).alloc c).alloc d).alloc e).drew.heap[w.heap.size + 1 + 1 + 1 + 1]? = some e := by
  refine ⟨?_, ?_, heap5 w a b c d e⟩
  · exact ((((((Below.refl _ w).alloc (Nat.le_refl _) a).alloc (by simp) b).alloc (by simp; omega) c).alloc (by simp; omega) d).alloc (by simp; omega) e).drew
  · show (((((w.heap.push a).push b).push c).push d).push e).size = _
    simp
theorem push_root {w : World} {H : Nat} {v : Value} (h : HE w H v) : Calls Tryz.prog 68 #[.pointer (some ⟨H, 0, none⟩), .int .i64 1, .int .i64 0] w fun e w' =>
    e = .returned (.int .i64 0) ∧ ∃ v', H1 w' H v' 0 1 ∧ Keep (fun k => k = H ∨ v.ownBlock = some k) w w' ∧ (v'.ownBlock = v.ownBlock ∨ ∃ g, v'.ownBlock = some g ∧ w.heap.size ≤ g) := push1 h 1 0 (by decide)
theorem push_two {w : World} {H : Nat} {v : Value} (h : HE w H v) : Calls Tryz.prog 68 #[.pointer (some ⟨H, 0, none⟩), .int .i64 2, .int .i64 1] w fun e w' =>
    e = .returned (.int .i64 0) ∧ ∃ v', H1 w' H v' 1 2 ∧ Keep (fun k => k = H ∨ v.ownBlock = some k) w w' ∧ (v'.ownBlock = v.ownBlock ∨ ∃ g, v'.ownBlock = some g ∧ w.heap.size ≤ g) := push1 h 2 1 (by decide)
theorem pop_root {w : World} {H : Nat} {v : Value} (h : H1 w H v 0 1) : Calls Tryz.prog 69 #[.pointer (some ⟨H, 0, none⟩)] w fun e w' =>
    e = .returned (.tuple #[.int .i64 1, .int .i64 0, .int .i64 0]) ∧ ∃ v', HE w' H v' ∧ Keep (fun k => k = H ∨ v.ownBlock = some k) w w' ∧ v'.ownBlock = v.ownBlock := pop1 h
theorem pop_two {w : World} {H : Nat} {v : Value} (h : H1 w H v 1 2) : Calls Tryz.prog 69 #[.pointer (some ⟨H, 0, none⟩)] w fun e w' =>
    e = .returned (.tuple #[.int .i64 2, .int .i64 1, .int .i64 0]) ∧ ∃ v', HE w' H v' ∧ Keep (fun k => k = H ∨ v.ownBlock = some k) w w' ∧ v'.ownBlock = v.ownBlock := pop1 h
/-- The distances and parents of awake's tree. -/
def dsT : Nat → Int := fun j => if j = 2 then 1 else if j = 1 then 0 else INF
def psT : Nat → Bt := fun j => if j = 2 then (2, 0) else (0, 0)

theorem TS.setR {w wr : World} {B0 R T D Pp Qq : Nat} {ds : Nat → Int} {ps : Nat → Bt} (h : TS w wr B0 R T D Pp Qq ds ps) (i : Nat) (x : Value) : TS w (wr.setCell ⟨R, i, none⟩ x) B0 R T D Pp Qq ds ps := by
  obtain ⟨b1, b2, b3, b4, b5, b6, b7, b8, b9, b10⟩ := h.bd
  have k : Keep (fun i => i = R) wr (wr.setCell ⟨R, i, none⟩ x) := (Keep.refl _ wr).setCell ⟨R, i, none⟩ _ (.inl rfl)
  refine ⟨h.hb.setCell (show w.heap.size ≤ R by omega) _, ⟨b1, b2, b3, b4, b5, b6, b7, b8, b9, by rw [World.size_setCell]; exact b10⟩, h.ne, fun j hj => ?_,
    fun j => by rw [World.frozen?_setCell]; exact h.rf j, k.cell h.t0 (by show ¬ T = R; omega), k.cell h.t1 (by show ¬ T = R; omega), k.cell h.t2 (by show ¬ T = R; omega), k.cell h.t3 (by show ¬ T = R; omega), fun i hi => k.cell (h.d i hi) (by show ¬ D = R; omega), fun i hi => ⟨k.cell (h.p i hi).1 (by show ¬ Pp = R; omega), k.cell (h.p i hi).2 (by show ¬ Pp = R; omega)⟩, fun i hi => k.cell (h.q i hi) (by show ¬ Qq = R; omega), fun i => by rw [World.frozen?_setCell]; exact h.fd i, fun i => by rw [World.frozen?_setCell]; exact h.fp i⟩
  obtain ⟨v, e⟩ := h.r j hj
  by_cases hij : j = i
  · subst hij; exact ⟨x, World.cell?_setCell_same _ _ _ e⟩
  · exact ⟨v, (World.cell?_setCell_other _ _ _ _ (by intro e'; injection e' with e1 e2; omega)).trans e⟩
theorem set4_cells {W : World} {R : Nat} (x0 x1 x2 x3 : Value) (hr : ∀ j, j < 4 → ∃ v, W.cell? ⟨R, j, none⟩ = some v) :
    ((((W.setCell ⟨R, 0, none⟩ x0).setCell ⟨R, 1, none⟩ x1).setCell ⟨R, 2, none⟩ x2).setCell ⟨R, 3, none⟩ x3).cell? ⟨R, 0, none⟩ = some x0 ∧
    ((((W.setCell ⟨R, 0, none⟩ x0).setCell ⟨R, 1, none⟩ x1).setCell ⟨R, 2, none⟩ x2).setCell ⟨R, 3, none⟩ x3).cell? ⟨R, 1, none⟩ = some x1 ∧
    ((((W.setCell ⟨R, 0, none⟩ x0).setCell ⟨R, 1, none⟩ x1).setCell ⟨R, 2, none⟩ x2).setCell ⟨R, 3, none⟩ x3).cell? ⟨R, 2, none⟩ = some x2 ∧
    ((((W.setCell ⟨R, 0, none⟩ x0).setCell ⟨R, 1, none⟩ x1).setCell ⟨R, 2, none⟩ x2).setCell ⟨R, 3, none⟩ x3).cell? ⟨R, 3, none⟩ = some x3 := by
  have ot : ∀ (V : World) (i j : Nat) (x : Value), i ≠ j → (V.setCell ⟨R, i, none⟩ x).cell? ⟨R, j, none⟩ = V.cell? ⟨R, j, none⟩ := fun V i j x h => World.cell?_setCell_other _ _ _ _ (by intro e; injection e with _ e; exact h e)
  obtain ⟨v0, h0⟩ := hr 0 (by decide)
  obtain ⟨v1, h1⟩ := hr 1 (by decide)
  obtain ⟨v2, h2⟩ := hr 2 (by decide)
  obtain ⟨v3, h3⟩ := hr 3 (by decide)
  refine ⟨?_, ?_, ?_, ?_⟩
  · rw [ot _ 3 0 _ (by decide), ot _ 2 0 _ (by decide), ot _ 1 0 _ (by decide)]; exact World.cell?_setCell_same _ _ _ h0
  · rw [ot _ 3 1 _ (by decide), ot _ 2 1 _ (by decide)]; exact World.cell?_setCell_same _ _ _ ((ot _ 0 1 _ (by decide)).trans h1)
  · rw [ot _ 3 2 _ (by decide)]; exact World.cell?_setCell_same _ _ _ ((ot _ 1 2 _ (by decide)).trans ((ot _ 0 2 _ (by decide)).trans h2))
  · exact World.cell?_setCell_same _ _ _ ((ot _ 2 3 _ (by decide)).trans ((ot _ 1 3 _ (by decide)).trans ((ot _ 0 3 _ (by decide)).trans h3)))
theorem res43 (w : World) (tmps : Array Value) (R : Nat) (x0 x1 x2 x3 : Value) (hp : tmps.getD 4 undef = .pointer (some ⟨R, 0, none⟩)) (h0 : w.cell? ⟨R, 0, none⟩ = some x0) (h1 : w.cell? ⟨R, 1, none⟩ = some x1) (h2 : w.cell? ⟨R, 2, none⟩ = some x2) (h3 : w.cell? ⟨R, 3, none⟩ = some x3) :
    (results Tryz.f46 tmps).run Tryz.prog w = .ok (.agg #[x0, x1, x2, x3]) w := by
  rw [Array.getD_eq_getD_getElem?] at hp
  simp only [results, Tryz.results46]
  simp [go_sem, hp, h0, h1, h2, h3]
theorem treeEnd {w w9 w10 : World} {B0 R T D Pp Qq H : Nat} {v8 : Value} (hb9 : Below w9.heap.size w9 w10) (hS : TS w w9 B0 R T D Pp Qq dsT (fun _ => (0, 0))) (hH : H1 w9 H v8 1 2) (hv : ∀ g, v8.ownBlock = some g → B0 ≤ g) (hBH : B0 ≤ H) :
    H1 ((w10.setCell ⟨Pp, 4, none⟩ (.int .u64 2)).setCell ⟨Pp, 5, none⟩ (.int .u64 0)) H v8 1 2 ∧ TS w ((w10.setCell ⟨Pp, 4, none⟩ (.int .u64 2)).setCell ⟨Pp, 5, none⟩ (.int .u64 0)) B0 R T D Pp Qq dsT psT := by
  have hbd := hS.bd
  refine ⟨(hH.below hb9).keep (S := fun i => i = Pp) (((Keep.refl (fun i => i = Pp) w10).setCell ⟨Pp, 4, none⟩ _ (.inl rfl)).setCell ⟨Pp, 5, none⟩ _ (.inl rfl)) (by omega) (fun g hg => by have := hv g hg; omega), ?_⟩
  exact ((hS.below hb9).setP 2 (by decide) (2, 0)).same (fun _ _ => rfl) (fun j _ => rfl)

set_option maxHeartbeats 8000000 in
set_option maxRecDepth 100000 in
theorem Tree_awake {w : World} {V : Nat} {o1 i2 : Value} (h : VW w V o1 i2) (ho : SlR w 4 o1 1 link1) : Calls Tryz.prog 46 #[.pointer (some ⟨V, 0, none⟩), .int .i64 1] w fun e w' =>
    ∃ B0 R T D Pp Qq, e = .returned (.agg #[.int .i64 1, sl128 D, sl128 Pp, sl128 Qq]) ∧ TS w w' B0 R T D Pp Qq dsT psT := by
  obtain ⟨al, cl, rfl, _, hcl⟩ := ho.form
  obtain ⟨lb, lo, rfl, _, _, _, _⟩ := four_cells hcl
  clear hcl
  have hm1 := mk59
  have hm2 := mk60
  go_enter Tryz.func46, Tryz.ntmps46
  go_upto_region 1 with fail
  go_cut [5] from 14 (fun v5 wc => ∃ B0 T D Pp Qq, v5 = .pointer (some ⟨T, 0, none⟩) ∧ TS w wc B0 w.heap.size T D Pp Qq (fun _ => 0) (fun _ => (0, 0)))
  case first =>
    go_region
    all_goals
      go_wp2_with fail
      go_meet
    all_goals
      case rel =>
        refine ⟨_, _, ?_, ?_, ?_, rfl, TS.start (five w _ _ _ _ _).1 (five w _ _ _ _ _).2.1 (five w _ _ _ _ _).2.2.1 ?_ ?_ ?_ ?_ ?_ ?_⟩
        rotate_left 3
        · first | exact (five w _ _ _ _ _).2.2.2.1 | exact (five w _ _ _ _ _).2.2.2.2.1 | exact (five w _ _ _ _ _).2.2.2.2.2.1 | exact (five w _ _ _ _ _).2.2.2.2.2.2
        · first | exact (five w _ _ _ _ _).2.2.2.1 | exact (five w _ _ _ _ _).2.2.2.2.1 | exact (five w _ _ _ _ _).2.2.2.2.2.1 | exact (five w _ _ _ _ _).2.2.2.2.2.2
        · first | exact (five w _ _ _ _ _).2.2.2.1 | exact (five w _ _ _ _ _).2.2.2.2.1 | exact (five w _ _ _ _ _).2.2.2.2.2.1 | exact (five w _ _ _ _ _).2.2.2.2.2.2
        · first | exact (five w _ _ _ _ _).2.2.2.1 | exact (five w _ _ _ _ _).2.2.2.2.1 | exact (five w _ _ _ _ _).2.2.2.2.2.1 | exact (five w _ _ _ _ _).2.2.2.2.2.2
        · omega
        · omega
  case rest =>
    clear hm1 hm2
    obtain ⟨B0, T, D, Pp, Qq, rfl, hS⟩ := hcut
    obtain ⟨R, hR⟩ : ∃ R, R = w.heap.size := ⟨_, rfl⟩
    rw [← hR] at hS ⊢
    have HR := Lib.hid hR
    clear hR
    have t1 := hS.t1
    go_wp2_with fail
    clear t1
    go_loopw [6, 22] (fun _ x wr => ∃ i : Nat, x = .int .i64 i ∧ i ≤ 128 ∧ TS w wr B0 R T D Pp Qq (fun j => if j < i then INF else 0) (fun _ => (0, 0))) (fun _ x _ => 128 - (kO x).toNat)
    case atStart => exact ⟨0, rfl, by omega, hS.same (fun j _ => by simp) (fun _ _ => rfl)⟩
    case round =>
      clear hS
      obtain ⟨i, rfl, hi, hS⟩ := hrel
      by_cases hlt : i < 128
      · have t1 := hS.t1
        have d0 := hS.d i hlt
        have f0 := hS.fd i
        have hn1 : (i : Int) < 128 := by omega
        have hS2 := (hS.setD i hlt INF).same (ds' := fun j => if j < i + 1 then INF else 0) (ps' := fun _ => (0, 0)) (fun j _ => by
          by_cases e : j = i
          · simp [e]
          · by_cases e2 : j < i
            · simp [e, e2, show j < i + 1 by omega]
            · simp [e, e2, show ¬ j < i + 1 by omega]) (fun _ _ => rfl)
        go_wp2_with fail
        go_roundw
        case rel => exact ⟨i + 1, by go_num, by omega, hS2⟩
        case measure => simp [kO]; omega
      · have hi1 : i = 128 := by omega
        subst hi1
        have hS0 := hS.same (ds' := fun _ => INF) (ps' := fun _ => (0, 0)) (fun j hj => by simp [hj]) (fun _ _ => rfl)
        clear hS
        have hBH : B0 ≤ wr.heap.size := hS0.bd.2.2.2.2.2.2.2.2.2
        go_wp2_with (go_at_call 67; refine (new0 _).mono ?_; rintro e w3 ⟨rfl, hE, hb3⟩)
        have hS3 := hS0.below hb3
        clear hS0 hb3 hi hlt
        generalize wr.heap.size = H at *
        refine (push_root hE).mono ?_
        rintro e w4 ⟨rfl, v4, h4, k4, o4⟩
        have hS4 := hS3.keep k4 (fun i hi => by rcases hi with rfl | hi; exact hBH; simp [Value.ownBlock] at hi)
        have hv4 : ∀ g, v4.ownBlock = some g → B0 ≤ g := fun g hg => by
          rcases o4 with e | ⟨g2, e, h2⟩
          · rw [e] at hg; simp [Value.ownBlock] at hg
          · rw [e] at hg; injection hg with hg; have := hS3.bd.2.2.2.2.2.2.2.2.2; omega
        clear hE hS3 k4 o4
        have t1 := hS4.t1
        have d1 := hS4.d 1 (by decide)
        have f1 := hS4.fd 1
        go_wp2_with fail
        have hX : H1 (w4.setCell ⟨D, 1, none⟩ (.int .i64 0)) H v4 0 1 := h4.keep (S := fun i => i = D) ((Keep.refl _ w4).setCell ⟨D, 1, none⟩ _ (.inl rfl)) (fun e => by have := hS4.bd; omega) (fun g hg e => by have := hv4 g hg; have := hS4.bd; omega)
        have hS5 := (hS4.setD 1 (by decide) 0).same (ds' := fun j => if j = 1 then 0 else INF) (ps' := fun _ => (0, 0)) (fun _ _ => rfl) (fun _ _ => rfl)
        clear h4 hS4 t1 d1 f1
        generalize w4.setCell ⟨D, 1, none⟩ (.int .i64 0) = w5 at *
        go_loopg [] 3 (fun gk wr => ∃ v, (∀ g, v.ownBlock = some g → B0 ≤ g) ∧ ((gk = 3 ∧ H1 wr H v 0 1 ∧ TS w wr B0 R T D Pp Qq (fun j => if j = 1 then 0 else INF) (fun _ => (0, 0))) ∨ (gk = 2 ∧ H1 wr H v 1 2 ∧ TS w wr B0 R T D Pp Qq dsT psT) ∨ (gk = 1 ∧ HE wr H v ∧ TS w wr B0 R T D Pp Qq dsT psT)))
        case atStart => exact ⟨v4, hv4, .inl ⟨rfl, hX, hS5⟩⟩
        case round =>
          clear hX hS5 hv4
          obtain ⟨v, hv, ⟨rfl, hH, hS⟩ | ⟨rfl, hH, hS⟩ | ⟨rfl, hH, hS⟩⟩ := hrel
          · go_wp2_with (go_at_call 69; refine (pop_root hH).mono ?_; rintro e w6 ⟨rfl, v6, hE, k6, o6⟩; have hS6 := hS.keep k6 (fun i hi => by rcases hi with rfl | hi; exact hBH; exact hv i hi); have g1 := (h.below hS6.hb).out1)
            have hv6 : ∀ g, v6.ownBlock = some g → B0 ≤ g := fun g hg => hv g (o6 ▸ hg)
            clear hH hS k6 o6 hv g1
            go_loopw [65] (fun x wr => ∃ (i : Nat) (v : Value), x = .int .i64 i ∧ i ≤ 1 ∧ (∀ g, v.ownBlock = some g → B0 ≤ g) ∧ (i = 0 → HE wr H v ∧ TS w wr B0 R T D Pp Qq (fun j => if j = 1 then 0 else INF) (fun _ => (0, 0))) ∧ (i = 1 → H1 wr H v 1 2 ∧ TS w wr B0 R T D Pp Qq dsT psT)) (fun x _ => 1 - (kO x).toNat)
            case atStart => exact ⟨0, v6, rfl, by omega, hv6, fun _ => ⟨hE, hS6⟩, fun h => by omega⟩
            case round =>
              clear hE hS6 hv6
              obtain ⟨i, v, rfl, hi, hv, h0, h1⟩ := hrel
              by_cases hlt : i < 1
              · have hi0 : i = 0 := by omega
                subst hi0
                obtain ⟨hE, hS⟩ := h0 rfl
                clear h0 h1
                obtain ⟨_, _, e2, l0, l1, l2, l3⟩ := four_cells (ho.below hS.hb)
                injection e2 with e2
                injection e2 with e2 e3
                subst e2 e3
                have b0 := box_new wr #[.int .i64 1, .int .i64 2, .int .i64 1, .int .i64 0] 51 0 _ rfl
                have b1 := box_new wr #[.int .i64 1, .int .i64 2, .int .i64 1, .int .i64 0] 51 1 _ rfl
                have b2 := box_new wr #[.int .i64 1, .int .i64 2, .int .i64 1, .int .i64 0] 51 2 _ rfl
                have b3 := box_new wr #[.int .i64 1, .int .i64 2, .int .i64 1, .int .i64 0] 51 3 _ rfl
                have hA := (Below.refl _ wr).alloc (Nat.le_refl _) (.cells #[.int .i64 1, .int .i64 2, .int .i64 1, .int .i64 0] 51)
                have hS1 := hS.below hA
                have hE1 := hE.below hA
                have t1 := hS1.t1
                have d2 : (wr.alloc (.cells #[.int .i64 1, .int .i64 2, .int .i64 1, .int .i64 0] 51)).cell? ⟨D, 2, none⟩ = some (.int .i64 1073741824) := hS1.d 2 (by decide)
                have hB5 : B0 ≤ wr.heap.size := hS.bd.2.2.2.2.2.2.2.2.2
                have hv5 : ∀ g, v.ownBlock = some g → g ≠ wr.heap.size := fun g hg => by have := hE.own g hg; omega
                have hH5 : H ≠ wr.heap.size := by have := World.block_lt_of_cell? _ _ hE.ex; simp at this; omega
                go_wp2_with (go_at_call 30; refine (sum01 _).mono ?_; rintro e w7 ⟨rfl, rfl⟩)
                have hbx : BoxL (wr.alloc (.cells #[.int .i64 1, .int .i64 2, .int .i64 1, .int .i64 0] 51)) wr.heap.size := ⟨b0, b1, b2, b3⟩
                clear hS hE l0 l1 l2 l3 b0 b1 b2 b3 t1 d2 hA
                generalize wr.alloc (.cells #[.int .i64 1, .int .i64 2, .int .i64 1, .int .i64 0] 51) = W1 at *
                generalize wr.heap.size = B5 at *
                refine (push_two hE1).mono ?_
                rintro e w8 ⟨rfl, v8, h8, k8, o8⟩
                have hS8 := hS1.keep k8 (fun i hi => by rcases hi with rfl | hi; exact hBH; exact hv i hi)
                have hv8 : ∀ g, v8.ownBlock = some g → B0 ≤ g := fun g hg => by
                  rcases o8 with e | ⟨g2, e, h2⟩
                  · rw [e] at hg; exact hv g hg
                  · rw [e] at hg; injection hg with hg; have := hS1.bd.2.2.2.2.2.2.2.2.2; omega
                have hbx8 := hbx.keep k8 (fun e => by rcases e with e | e; exact hH5 e.symm; exact hv5 _ e rfl)
                clear hE1 hS1 hbx k8 o8 hv5 hv
                obtain ⟨b0, b1, b2, b3⟩ := hbx8
                have t1 := hS8.t1
                have t2 := hS8.t2
                have d2 : w8.cell? ⟨D, 2, none⟩ = some (.int .i64 1073741824) := hS8.d 2 (by decide)
                have f2 := hS8.fd 2
                have p2 : w8.cell? ⟨Pp, 4, none⟩ = some (.int .u64 0) := (hS8.p 2 (by decide)).1
                have p3 : w8.cell? ⟨Pp, 5, none⟩ = some (.int .u64 0) := (hS8.p 2 (by decide)).2
                have g4 := hS8.fp 4
                have g5 := hS8.fp 5
                obtain ⟨n1, n2, n3, n4, n5, n6⟩ := hS8.ne
                have nB : D ≠ B5 ∧ Pp ≠ B5 ∧ T ≠ B5 := by have := hS8.bd; omega
                obtain ⟨nb1, nb2, nb3⟩ := nB
                go_upto_region 24 with fail
                go_region
                have hS9 := (((hS8.setD 2 (by decide) 1).setP 2 (by decide) (0, 0)).frame ((Below.refl _ _).drew)).same (ds' := dsT) (ps' := fun _ => (0, 0)) (fun j _ => by unfold dsT; by_cases e : j = 2 <;> simp [e]) (fun j _ => by by_cases e : j = 2 <;> simp [e])
                have hK9 : Keep (fun i => i = D ∨ i = Pp) w8 (((w8.setCell ⟨D, 2, none⟩ (.int .i64 1)).setCell ⟨Pp, 2 * 2, none⟩ (.int .u64 (u (0 : UInt64)))).setCell ⟨Pp, 2 * 2 + 1, none⟩ (.int .u64 (u (0 : UInt64)))).drew := ((((Keep.refl _ w8).setCell ⟨D, 2, none⟩ _ (.inl (.inl rfl))).setCell ⟨Pp, 2 * 2, none⟩ _ (.inl (.inr rfl))).setCell ⟨Pp, 2 * 2 + 1, none⟩ _ (.inl (.inr rfl))).drewN 1
                change Exit.then _ _ _ _ (((w8.setCell ⟨D, 2, none⟩ (.int .i64 1)).setCell ⟨Pp, 2 * 2, none⟩ (.int .u64 (u (0 : UInt64)))).setCell ⟨Pp, 2 * 2 + 1, none⟩ (.int .u64 (u (0 : UInt64)))).drew
                have hbd := hS8.bd
                have h9 := h8.keep hK9 (by omega) (fun g hg => by have := hv8 g hg; omega)
                have hbx9 : BoxL _ B5 := (show BoxL w8 B5 from ⟨b0, b1, b2, b3⟩).keep hK9 (by omega)
                clear hS8 h8 hK9 b0 b1 b2 b3 t1 t2 d2 f2 p2 p3 g4 g5 hbd
                generalize (((w8.setCell ⟨D, 2, none⟩ (.int .i64 1)).setCell ⟨Pp, 2 * 2, none⟩ (.int .u64 (u (0 : UInt64)))).setCell ⟨Pp, 2 * 2 + 1, none⟩ (.int .u64 (u (0 : UInt64)))).drew = w9 at *
                go_upto_region 25 with fail
                have t2 := hS9.t2
                have p2 : w9.cell? ⟨Pp, 4, none⟩ = some (.int .u64 0) := (hS9.p 2 (by decide)).1
                have p3 : w9.cell? ⟨Pp, 5, none⟩ = some (.int .u64 0) := (hS9.p 2 (by decide)).2
                have g4 := hS9.fp 4
                have g5 := hS9.fp 5
                have b1 := hbx9.2.1
                have hltP : Pp < w9.heap.size := World.block_lt_of_cell? _ _ p2
                have hltT : T < w9.heap.size := World.block_lt_of_cell? _ _ t2
                have hlt5 : B5 < w9.heap.size := World.block_lt_of_cell? _ _ b1
                have x2 : ∀ m : ExtW w9, (exw m).cell? ⟨T, 2, none⟩ = some (sl128 Pp) := exw_cell t2
                have xb : ∀ m : ExtW w9, (exw m).cell? ⟨B5, 1, none⟩ = some (.int .i64 2) := exw_cell b1
                have xp : ∀ m : ExtW w9, (exw m).cell? ⟨Pp, 4, none⟩ = some (.int .u64 0) := exw_cell p2
                have xq : ∀ m : ExtW w9, (exw m).cell? ⟨Pp, 5, none⟩ = some (.int .u64 0) := exw_cell p3
                refine region_ext_float 15 (fun k => k == 14) (by kernel_rfl) (by kernel_rfl) (fun k o hk ho => by have hk : k = 14 := (by simpa using hk); subst hk; simp at ho; subst ho; exact ⟨_, _, rfl⟩) ?_
                simp only [List.take_succ_cons, List.take_zero, List.drop_succ_cons, List.drop_zero]
                repeat (go_big_quiet_step (first | (go_at_call 31; exact ext_call (with1 _))))
                refine wpQuiet_nil ?_
                rintro wz ⟨m, rfl⟩
                clear x2 xb xp xq
                have hE := treeEnd (exw_below m) hS9 h9 hv8 hBH
                have p2' := exw_cell p2 m
                have p3' := exw_cell p3 m
                have g4' := (hS9.below (exw_below m)).fp 4
                have g5' := (hS9.below (exw_below m)).fp 5
                clear hS9 h9 hbx9 t2 p2 p3 g4 g5 b1
                generalize exw m = w10 at *
                go_wp2_with fail
                refine OnlyN.normal ?_
                go_wp2_with fail
                go_roundw
                case rel => exact ⟨1, v8, rfl, by omega, hv8, fun h => by omega, fun _ => hE⟩
                case measure => simp [kO]
              · have hi1 : i = 1 := by omega
                subst hi1
                obtain ⟨hH, hS⟩ := h1 rfl
                clear h0 h1
                go_wp2_with fail
                go_roundg 2
                case rel => exact ⟨v, hv, .inr (.inl ⟨rfl, hH, hS⟩)⟩
                case measure => omega
          · go_wp2_with (go_at_call 69; refine (pop_two hH).mono ?_; rintro e w6 ⟨rfl, v6, hE, k6, o6⟩; have hS6 := hS.keep k6 (fun i hi => by rcases hi with rfl | hi; exact hBH; exact hv i hi); have g1 := (h.below hS6.hb).over 2 (by decide); have g2 := (h.below hS6.hb).out2)
            have hv6 : ∀ g, v6.ownBlock = some g → B0 ≤ g := fun g hg => hv g (o6 ▸ hg)
            clear hH hS k6 o6 hv g1 g2
            go_loopw [65] (fun x wr => x = .int .i64 0 ∧ wr = w6) (fun _ _ => 0)
            case atStart => exact ⟨rfl, rfl⟩
            case round =>
              obtain ⟨rfl, rfl⟩ := hrel
              go_wp2_with fail
              go_roundg 1
              case rel => exact ⟨v6, hv6, .inr (.inr ⟨rfl, hE, hS6⟩)⟩
              case measure => omega
          · go_wp2_with (go_at_call 69; refine (pop0 hH).mono ?_; rintro e w6 ⟨rfl, nn, rfl⟩; have hS6 := hS.frame (below_drewN (Below.refl _ _) nn); have q0 := hS6.t0; have q1 := hS6.t1; have q2 := hS6.t2; have q3 := hS6.t3; obtain ⟨r0, hr0⟩ := hS6.r 0 (by decide); obtain ⟨r1, hr1⟩ := hS6.r 1 (by decide); obtain ⟨r2, hr2⟩ := hS6.r 2 (by decide); obtain ⟨r3, hr3⟩ := hS6.r 3 (by decide); have rf0 := hS6.rf 0; have rf1 := hS6.rf 1; have rf2 := hS6.rf 2; have rf3 := hS6.rf 3)
            obtain ⟨z0, z1, z2, z3⟩ := set4_cells (.int .i64 1) (sl128 D) (sl128 Pp) (sl128 Qq) hS6.r
            have hS7 := (((hS6.setR 0 (.int .i64 1)).setR 1 (sl128 D)).setR 2 (sl128 Pp)).setR 3 (sl128 Qq)
            exact bodyPost_ret (res43 _ _ R _ _ _ _ rfl z0 z1 z2 z3) rfl ⟨_, _, _, _, _, _, rfl, hS7⟩
end Go.Proofs.YtpebpfaecdmabaaGreatDoor
