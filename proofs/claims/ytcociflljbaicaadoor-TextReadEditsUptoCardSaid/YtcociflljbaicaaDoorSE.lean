/- The reference's ReadEdit answers as the line's words say. -/
import Derived.Test.YtcociflljbaicaaDoorZE
import Derived.Test.YtcociflljbaicaaDoorRJ
namespace Go.Proofs.YtcociflljbaicaaDoor
open Go.RowKit Go.Lib

theorem cmp_t {l : List UInt8} {s : ByteArray} (h : l = s.data.toList) : ((bs l).toList == s.toList) = true := by
  rw [Lib.toList_data, Lib.toList_data, h]
  exact beq_self_eq_true _
theorem cmp_f {l : List UInt8} {s : ByteArray} (h : l ≠ s.data.toList) : ((bs l).toList == s.toList) = false := by
  rw [beq_eq_false_iff_ne, Lib.toList_data, Lib.toList_data]
  exact h
set_option maxHeartbeats 4000000 in
set_option maxRecDepth 100000 in
theorem refWord_zero (w : World) : Calls Tryd.prog 28 #[.int .i64 0] w fun e w' => e = .returned (.string ⟨#[]⟩) ∧ w = w' := by
  go_enter Tryd.func28, Tryd.ntmps28
  go_wp2_with fail
  go_ret
  exact ⟨rfl, rfl⟩
set_option maxHeartbeats 4000000 in
set_option maxRecDepth 100000 in
theorem refEdit_zero (a : Int) (w : World) :
    Calls Tryd.prog 29 #[.agg #[.int .i64 0, .int .i64 a, .int .i64 0, .int .i64 0, .int .i64 0, .complex .f64 0 0, .int .u32 0, .int .i64 0, .bool false]] w fun e' w' => e' = .returned (.tuple #[.string ⟨#[]⟩, .int .i64 2]) ∧ Below w.heap.size w w' := by
  go_enter Tryd.func29, Tryd.ntmps29
  go_wp2_with fail
  refine (refWord_zero _).mono ?_
  rintro e w1 ⟨rfl, rfl⟩
  go_wp2_with fail
  go_ret2
  exact ⟨rfl, (Below.refl _ w).alloc (Nat.le_refl _) _⟩
theorem info3 : (Tryd.prog.info? 3).map (fun i => (i.zero, i.size, i.bytes)) = some (some (.int .i64 0), 1, 8) := by kernel_rfl
theorem own_below {w w' : World} {base : Nat} {e : TypeId} {size : Nat} {v : Value} {n : Nat} {xs : List Value} (h : w.ownsRow base e size v n xs) (hb : Below w.heap.size w w') : w'.ownsRow base e size v n xs := (Keep.of_below (S := fun _ => False) hb).owns h (by simp)
theorem own_grown {w w1 w2 : World} {base B : Nat} {e : TypeId} {size : Nat} {v : Value} {n : Nat} {xs : List Value} (h : w1.ownsRow base e size v n xs) (hb : Below B w w1) (hg : w1.grownBy w2 v.ownBlock) (hB : B ≤ base) (hs : B ≤ w1.heap.size) : Below B w w2 :=
  hb.grown hg hs (fun k hk => Nat.le_trans hB (World.ownsRow.lt h k hk).1)
/-- The numbers of the words behind the first. -/
def NQs (ws : List (List UInt8)) (qs : List Int) : Prop := ∀ j q, qs[j]? = some q → NQ ws (j + 1) q
theorem NQs.add {ws : List (List UInt8)} {qs : List Int} {q : Int} {i : Nat} (h : NQs ws qs) (hi : qs.length + 1 = i) (hq : NQ ws i q) : NQs ws (qs ++ [q]) := by
  intro j x hj
  by_cases hl : j < qs.length
  · rw [List.getElem?_append_left hl] at hj
    exact h j x hj
  · rw [List.getElem?_append_right (by omega)] at hj
    by_cases h0 : j - qs.length = 0
    · rw [h0] at hj
      injection hj with hj
      rw [← hj, show j + 1 = i by omega]
      exact hq
    · rw [List.getElem?_eq_none (by simp; omega)] at hj
      cases hj
set_option maxHeartbeats 16000000 in
set_option maxRecDepth 100000 in
theorem refReadEdit_any (s : ByteArray) (ed : Ed) (er : Int) (hE : RE (cutA 32 [] s.data.toList) ed er) (w : World) :
    Calls Tryd.prog 11 #[.string s] w fun e' w' => e' = .returned (.tuple #[ed.val, .int .i64 er]) ∧ Below w.heap.size w w' := by
  have hcx := store_cc
  by_cases hs : 200 < s.size
  · obtain ⟨rfl, rfl⟩ := hE.unique (RE.too_long s hs)
    rw [Ed0_val]
    unfold zc
    go_enter Tryd.func11, Tryd.ntmps11
    go_wp2_with fail
    exact bodyPost_ret (res11 _ _ w.heap.size _ _ _ _ _ _ _ _ _ _ rfl rfl (box_new _ _ _ _ _ rfl) (box_new _ _ _ _ _ rfl) (box_new _ _ _ _ _ rfl) (box_new _ _ _ _ _ rfl) (box_new _ _ _ _ _ rfl) (box_new _ _ _ _ _ rfl) (box_new _ _ _ _ _ rfl) (box_new _ _ _ _ _ rfl) (box_new _ _ _ _ _ rfl)) rfl ⟨rfl, (Below.refl _ w).alloc (Nat.le_refl _) _⟩
  have hz : s.size ≤ 200 := by omega
  have hcc := cutA_ne 32 s.data.toList []
  have hjoin := cutA_join 32 s.data.toList []
  have hCut := refCut_any s (by omega)
  have hlen : (cutA 32 [] s.data.toList).length ≤ 1048577 := by have := (split_words s).2.2; omega
  simp only [List.nil_append] at hjoin
  generalize hcut : cutA 32 [] s.data.toList = ws at *
  obtain ⟨first, rest, rfl⟩ : ∃ first rest, ws = first :: rest := by
    cases ws with
    | nil => exact absurd rfl hcc
    | cons x r => exact ⟨x, r, rfl⟩
  have HCUT := Lib.hid hcut
  have HJOIN := Lib.hid hjoin
  clear hcut hjoin
  go_enter Tryd.func11, Tryd.ntmps11
  go_wp2_with fail
  refine (hCut _).mono ?_
  rintro e w1 ⟨v, rfl, hsl, hb1⟩
  obtain ⟨hl1, hl2, a, cw, rfl, hl3, hl4⟩ := hsl
  rcases hl4 with hl4 | ⟨bw, ow, rfl, hwd⟩
  · exact absurd hl4 (by simp [strs])
  have hq : QS w (w1.alloc (.cells zc 34)) w.heap.size w1.heap.size bw ow (first :: rest) v0 := by
    have hA := (Below.refl _ w).alloc (Nat.le_refl _) (.cells zc 34)
    have hb2 := (Below.refl _ w1).alloc (Nat.le_refl _) (.cells zc 34)
    have hs1 : (w.alloc (.cells zc 34)).heap.size = w.heap.size + 1 := by simp
    have hs2 := hb1.size
    have hs3 : (w1.alloc (.cells zc 34)).heap.size = w1.heap.size + 1 := by simp
    unfold zc at hA
    rw [show (w.alloc (.cells zc 34)) = w.alloc (.cells #[.int .i64 0, .int .i64 0, .int .i64 0, .int .i64 0, .int .i64 0, .complex .f64 0 0, .int .u32 0, .int .i64 0, .bool false] 34) from rfl] at hs1
    have h0 := hwd 0 (.string (bs first)) rfl
    refine ⟨(hA.trans (hb1.mono (by omega))).trans (hb2.mono (by omega)), Nat.le_refl _, by omega, by omega, World.block_lt_of_cell? _ _ h0, fun j hj => ⟨v0 j, ?_⟩, fun j => ?_, fun j hj => box_new w1 zc 34 j _ (zc_at j hj), fun j => free_new w1 zc 34 j, fun j l hj => ?_⟩
    · have c1 := box_new w zc 34 j _ (zc_at j hj)
      have c2 := (hb1.cell (World.block_lt_of_cell? _ _ c1)).trans c1
      exact (hb2.cell (World.block_lt_of_cell? _ _ c2)).trans c2
    · have c1 := free_new w zc 34 j
      have c2 := (hb1.frozen (p := ⟨w.heap.size, j, none⟩) (by show w.heap.size < _; omega)).trans c1
      exact (hb2.frozen (p := ⟨w.heap.size, j, none⟩) (by show w.heap.size < _; omega)).trans c2
    · have c1 := hwd j (.string (bs l)) (by
        simp only [strs, List.getElem?_map]
        rw [hj]
        rfl)
      exact (hb2.cell (World.block_lt_of_cell? _ _ c1)).trans c1
  unfold zc at hq
  clear hwd hl1 hl2 hl3 hCut hb1
  have hcap : True := trivial
  go_wp2_with fail
  generalize w1.alloc (.cells #[.int .i64 0, .int .i64 0, .int .i64 0, .int .i64 0, .int .i64 0, .complex .f64 0 0, .int .u32 0, .int .i64 0, .bool false] 34) = W1 at *
  generalize w1.heap.size = Eb at *
  generalize hP : w.heap.size = P at *
  have hst := hq.ext (v' := upd v0 0 (.int .i64 (kf first 1 : Nat))) (fun j _ => by
    by_cases h : j = 0
    · subst h; rfl
    · unfold upd; rw [if_neg h])
  clear hq
  go_loopw [6] (fun x wr => ∃ i : Nat, x = .int .i64 i ∧ 1 ≤ i ∧ i ≤ 11 ∧ QS w wr P Eb bw ow (first :: rest) (upd v0 0 (.int .i64 (kf first i : Nat)))) (fun x _ => 11 - (kOi x).toNat)
  case atStart => exact ⟨1, rfl, by omega, by omega, hst⟩
  case round =>
    clear hst
    obtain ⟨i, rfl, hi1, hi, hq⟩ := hrel
    by_cases hlt : i ≤ 10
    · have d := hq.wd 0 first rfl
      have e0 := hq.e 0 (by decide)
      have ef := hq.ef
      rw [Nat.add_zero] at d
      by_cases hw : W i = first
      · rw [← hw] at d
        have tt := bs_same (bs (W i))
        have hk : kf first (i + 1) = i := by rw [kf, if_pos ⟨by omega, hw⟩]
        go_wp2_with fail
        go_quiet ((go_at_call 28; exact quiet_same (refWord_any i (by omega) hlt _)))
        have hq2 := hq.below (below_drewN (Below.refl _ _) nq)
        have e0 := hq2.e 0 (by decide)
        have ef := hq2.ef
        go_wp2_with fail
        go_roundw
        case rel =>
          refine ⟨i + 1, by go_num, by omega, by omega, (hq2.set 0 (.int .i64 (i : Nat))).ext (fun j _ => ?_)⟩
          unfold upd
          rw [hk]
          split <;> rfl
        case measure => simp [kOi]; omega
      · have tt := bs_differ (fun e => hw e.symm : first ≠ W i)
        have hk : kf first (i + 1) = kf first i := by rw [kf, if_neg (fun h => hw h.2)]
        go_wp2_with fail
        go_quiet ((go_at_call 28; exact quiet_same (refWord_any i (by omega) hlt _)))
        have hq2 := hq.below (below_drewN (Below.refl _ _) nq)
        go_wp2_with fail
        go_roundw
        case rel => exact ⟨i + 1, by go_num, by omega, by omega, by rw [hk]; exact hq2⟩
        case measure => simp [kOi]; omega
    · have hi11 : i = 11 := by omega
      subst hi11
      clear hlt hi hi1
      have hk := kf_of first 11
      generalize kf first 11 = k at hq hk
      go_wp2_with fail
      generalize wr = W2 at *
      have hlen2 : (first :: rest).length = rest.length + 1 := rfl
      have hst : (W2.alloc (.cells #[] 3)).ownsRow W2.heap.size 3 1 (.slice (some ⟨W2.heap.size, 0, none⟩) 0 0) ([] : List Int).length (ints []) := by
        have := World.ownsRow_made (base := W2.heap.size) (e := 3) (size := 1) W2 #[] 0 (by simp) (by simp [maxLen]) rfl
        simpa [ints] using this
      go_loopw [7, 8] (fun x7 x8 w2 => ∃ (i : Nat) (qs : List Int), x8 = .int .i64 i ∧ 1 ≤ i ∧ i ≤ 5 ∧ qs.length + 1 = i ∧ w2.ownsRow W2.heap.size 3 1 x7 qs.length (ints qs) ∧ Below W2.heap.size W2 w2 ∧ NQs (first :: rest) qs) (fun _ x8 _ => 5 - (kOi x8).toNat)
      case atStart => exact ⟨1, [], rfl, by omega, by omega, rfl, hst, (Below.refl _ _).alloc (Nat.le_refl _) _, fun j q h => by simp at h⟩
      case round =>
        clear hst
        obtain ⟨i, qs, rfl, hi1, hi, hqi, hrow, hb, hnq⟩ := hrel
        by_cases hlt : i < 5
        · by_cases hin : i < (first :: rest).length
          · have hl := List.getElem?_eq_getElem hin
            generalize (first :: rest)[i] = l at hl
            obtain ⟨q, b, hN, hq6, hC⟩ := refNum_any l
            have d := (hq.below hb).wd i l hl
            have hin' : i < rest.length + 1 := hin
            go_wp2_with fail
            refine (hC _).mono ?_
            rintro e w3 ⟨rfl, hb3⟩
            have hB3 := hb.trans (hb3.mono hb.size)
            have hrow3 : (w3.alloc (.cells #[.int .i64 q] 3)).ownsRow W2.heap.size 3 1 u7 qs.length (ints qs) := own_below (own_below hrow hb3) ((Below.refl _ _).alloc (Nat.le_refl _) _)
            have hsl : SlR (w3.alloc (.cells #[.int .i64 q] 3)) 1 (.slice (some ⟨w3.heap.size, 0, none⟩) 1 1) 1 (ints [q]) :=
              SlR.of_owns (World.ownsRow_lit (base := 0) (e := 3) (size := 1) w3 #[.int .i64 q] 1 (Nat.zero_le _) (by simp [maxLen]) rfl)
            clear d
            go_wp2_with (at_builtin; refine wpList_append_sl rfl _ _ 61 3 rfl W2.heap.size (.int .i64 0) 1 8 Tryd.underlying61 info3 rfl (by decide) (by decide) u7 _ _ rfl hrow3 _ 1 (ints [q]) rfl hsl (ints_one _) (by omega) (by simp; have := hB3.size; omega) ?_; intro v1 w4 hown4 hg hat)
            go_roundw
            case rel =>
              refine ⟨_, _, _, _, _, _, _, _, _, _, _, _, _, _, _, _, _, _, _, _, _, _, _, ?_, rfl⟩
              refine ⟨i + 1, qs ++ [q], by go_num, by omega, by omega, by simp; omega, ?_, own_grown hrow3 (hB3.alloc hB3.size _) hg (Nat.le_refl _) (by simp; have := hB3.size; omega), hnq.add hqi ⟨hq6, fun m hm he => ?_⟩⟩
              · rw [List.length_append, show ints (qs ++ [q]) = ints qs ++ ints [q] by simp [ints]]
                exact hown4
              · rw [hl] at he
                injection he with he
                exact (hN.2 m hm.1 hm.2 he.symm).2
            case measure => simp [kOi]; omega
          · have hin' : ¬ i < rest.length + 1 := hin
            have hrow3 : (wr.alloc (.cells #[.int .i64 0] 3)).ownsRow W2.heap.size 3 1 u7 qs.length (ints qs) := own_below hrow ((Below.refl _ _).alloc (Nat.le_refl _) _)
            have hsl : SlR (wr.alloc (.cells #[.int .i64 0] 3)) 1 (.slice (some ⟨wr.heap.size, 0, none⟩) 1 1) 1 (ints [0]) :=
              SlR.of_owns (World.ownsRow_lit (base := 0) (e := 3) (size := 1) wr #[.int .i64 0] 1 (Nat.zero_le _) (by simp [maxLen]) rfl)
            go_wp2_with (at_builtin; refine wpList_append_sl rfl _ _ 61 3 rfl W2.heap.size (.int .i64 0) 1 8 Tryd.underlying61 info3 rfl (by decide) (by decide) u7 _ _ rfl hrow3 _ 1 (ints [0]) rfl hsl (ints_one _) (by omega) (by simp; have := hb.size; omega) ?_; intro v1 w4 hown4 hg hat)
            go_roundw
            case rel =>
              refine ⟨_, _, _, _, _, _, _, _, _, _, _, _, _, _, _, _, _, _, _, _, _, _, _, ?_, rfl⟩
              refine ⟨i + 1, qs ++ [0], by go_num, by omega, by omega, by simp; omega, ?_, own_grown hrow3 (hb.alloc hb.size _) hg (Nat.le_refl _) (by simp; have := hb.size; omega), hnq.add hqi ⟨zero_i64, fun m hm he => ?_⟩⟩
              · rw [List.length_append, show ints (qs ++ [0]) = ints qs ++ ints [0] by simp [ints]]
                exact hown4
              · rw [List.getElem?_eq_none (by omega)] at he
                cases he
            case measure => simp [kOi]; omega
        · have hi5 : i = 5 := by omega
          obtain ⟨q0, q1, q2, q3, rfl⟩ : ∃ q0 q1 q2 q3, qs = [q0, q1, q2, q3] := by
            match qs, (show qs.length = 4 by omega) with
            | [a, b, c, d], _ => exact ⟨a, b, c, d, rfl⟩
          have hq3 := hq.below hb
          have hlt2 := hq.lt
          have hHb : W2.heap.size ≤ wr.heap.size := hb.size
          have n0 := hnq 0 q0 rfl
          have n1 := hnq 1 q1 rfl
          have n2 := hnq 2 q2 rfl
          have n3 := hnq 3 q3 rfl
          rcases hrow.2 with ⟨_, h1⟩ | ⟨g, cp, cur, rfl, hg, hcur, h1, h2, h3, h4⟩
          · simp at h1
          have hcs := World.ownsRow.cells hrow (g := g) rfl
          have f0 : wr.cell? ⟨g, 0, none⟩ = some (.int .i64 q0) := by have := hcs 0 _ rfl; rw [Addr.add_at, Nat.zero_add] at this; exact this
          have f1 : wr.cell? ⟨g, 1, none⟩ = some (.int .i64 q1) := by have := hcs 1 _ rfl; rw [Addr.add_at, Nat.zero_add] at this; exact this
          have f2 : wr.cell? ⟨g, 2, none⟩ = some (.int .i64 q2) := by have := hcs 2 _ rfl; rw [Addr.add_at, Nat.zero_add] at this; exact this
          have f3 : wr.cell? ⟨g, 3, none⟩ = some (.int .i64 q3) := by have := hcs 3 _ rfl; rw [Addr.add_at, Nat.zero_add] at this; exact this
          have hgE : Eb ≠ g := by omega
          have hcap : 4 ≤ cp := h1
          subst hi5
          simp only [List.length_cons, List.length_nil] at hqi
          clear hcs h4 h3 h2 hcur hnq hrow hlt hb hq hi hi1 hg
          have e1 := hq3.e 1 (by decide)
          have ef := hq3.ef
          have psA := hq3.set 1 (.int .i64 q0)
          have keep : ∀ {j : Nat} {u : Value}, wr.cell? ⟨g, j, none⟩ = some u → (wr.setCell ⟨Eb, 1, none⟩ (.int .i64 q0)).cell? ⟨g, j, none⟩ = some u := fun e => (World.cell?_setCell_other _ _ _ _ (by intro e2; injection e2 with e2 _; exact hgE e2)).trans e
          have x1 := keep f1
          have x2 := keep f2
          have x3 := keep f3
          have a0 : (wr.setCell ⟨Eb, 1, none⟩ (.int .i64 q0)).cell? ⟨Eb, 0, none⟩ = some (.int .i64 (k : Nat)) := psA.e 0 (by decide)
          have af := psA.ef
          clear keep
          rcases hk with ⟨rfl, hk⟩ | ⟨hk0, hk1, hk2⟩
          · have hnot : ∀ e', ¬ GE (first :: rest) e' := fun e' hge => by
              obtain ⟨r, h1, h2, h3, _⟩ := hge.head
              injection h1 with h1 _
              exact hk _ h2 (by omega) h1.symm
            have psF := psA
            have c0 : _ = some (Value.int .i64 0) := psF.e 0 (by decide)
            have c1 : _ = some (Value.int .i64 q0) := psF.e 1 (by decide)
            have c2 : _ = some (Value.int .i64 0) := psF.e 2 (by decide)
            have c3 : _ = some (Value.int .i64 0) := psF.e 3 (by decide)
            have c4 : _ = some (Value.int .i64 0) := psF.e 4 (by decide)
            have c5 : _ = some (Value.complex .f64 0 0) := psF.e 5 (by decide)
            have c6 : _ = some (Value.int .u32 0) := psF.e 6 (by decide)
            have c7 : _ = some (Value.int .i64 0) := psF.e 7 (by decide)
            have c8 : _ = some (Value.bool false) := psF.e 8 (by decide)
            have hR := refEdit_zero q0
            go_wp2_with fail
            refine (hR _).mono ?_
            rintro e w7 ⟨rfl, hb7⟩
            have psG := psF.below hb7
            clear c0 c1 c2 c3 c4 c5 c6 c7 c8
            obtain ⟨_, p0⟩ := psG.p 0 (by decide)
            obtain ⟨_, p1⟩ := psG.p 1 (by decide)
            obtain ⟨_, p2⟩ := psG.p 2 (by decide)
            obtain ⟨_, p3⟩ := psG.p 3 (by decide)
            obtain ⟨_, p4⟩ := psG.p 4 (by decide)
            obtain ⟨_, p5⟩ := psG.p 5 (by decide)
            obtain ⟨_, p6⟩ := psG.p 6 (by decide)
            obtain ⟨_, p7⟩ := psG.p 7 (by decide)
            obtain ⟨_, p8⟩ := psG.p 8 (by decide)
            have pf := psG.pf
            obtain ⟨rfl, rfl⟩ := hE.unique (.inr ⟨rfl, rfl, hnot⟩)
            clear hE hnot
            go_wp2_with fail
            exact close11 psG rfl rfl Ed0_val
          · have hkk : k = 1 ∨ k = 2 ∨ k = 3 ∨ k = 4 ∨ k = 5 ∨ k = 6 ∨ k = 7 ∨ k = 8 ∨ k = 9 ∨ k = 10 := by omega
            clear hk0 hk1
            rcases hkk with rfl | rfl | rfl | rfl | rfl | rfl | rfl | rfl | rfl | rfl
            · have HK2 := Lib.hid hk2
              clear hk2
              have s5 := psA.e 5 (by decide)
              have b1 := back_fi q1
              have b2 := back_fi q2
              have psF := (psA.set 5 (.complex .f64 (fi q1) (fi q2))).below (Below.refl _ _).drew
              go_wp2_with fail
              go_region
              clear b1 b2
              by_cases hp : P20 q1 ∧ P20 q2
              · have c0 : _ = some (Value.int .i64 1) := psF.e 0 (by decide)
                have c1 : _ = some (Value.int .i64 q0) := psF.e 1 (by decide)
                have c2 : _ = some (Value.int .i64 0) := psF.e 2 (by decide)
                have c3 : _ = some (Value.int .i64 0) := psF.e 3 (by decide)
                have c4 : _ = some (Value.int .i64 0) := psF.e 4 (by decide)
                have c5 : _ = some (Value.complex .f64 (fi q1) (fi q2)) := psF.e 5 (by decide)
                have c6 : _ = some (Value.int .u32 0) := psF.e 6 (by decide)
                have c7 : _ = some (Value.int .i64 0) := psF.e 7 (by decide)
                have c8 : _ = some (Value.bool false) := psF.e 8 (by decide)
                obtain ⟨WF, hWF⟩ := psF.name
                rw [hWF] at psF c0 c1 c2 c3 c4 c5 c6 c7 c8  ⊢
                have hR := refEdit_spot1 q0 q1 q2 n0.1 hp.1 hp.2
                simp only [Ed.val, Ed.cells, fi_zero, Int.cast_ofNat_Int] at hR
                go_wp2_with fail
                refine (hR _).mono ?_
                rintro e w7 ⟨rfl, hb7⟩
                have psG := psF.below hb7
                clear c0 c1 c2 c3 c4 c5 c6 c7 c8
                have c0 : w7.cell? ⟨Eb, 0, none⟩ = some (Value.int .i64 1) := psG.e 0 (by decide)
                have c1 : w7.cell? ⟨Eb, 1, none⟩ = some (Value.int .i64 q0) := psG.e 1 (by decide)
                have c2 : w7.cell? ⟨Eb, 2, none⟩ = some (Value.int .i64 0) := psG.e 2 (by decide)
                have c3 : w7.cell? ⟨Eb, 3, none⟩ = some (Value.int .i64 0) := psG.e 3 (by decide)
                have c4 : w7.cell? ⟨Eb, 4, none⟩ = some (Value.int .i64 0) := psG.e 4 (by decide)
                have c5 : w7.cell? ⟨Eb, 5, none⟩ = some (Value.complex .f64 (fi q1) (fi q2)) := psG.e 5 (by decide)
                have c6 : w7.cell? ⟨Eb, 6, none⟩ = some (Value.int .u32 0) := psG.e 6 (by decide)
                have c7 : w7.cell? ⟨Eb, 7, none⟩ = some (Value.int .i64 0) := psG.e 7 (by decide)
                have c8 : w7.cell? ⟨Eb, 8, none⟩ = some (Value.bool false) := psG.e 8 (by decide)
                obtain ⟨_, p0⟩ := psG.p 0 (by decide)
                obtain ⟨_, p1⟩ := psG.p 1 (by decide)
                obtain ⟨_, p2⟩ := psG.p 2 (by decide)
                obtain ⟨_, p3⟩ := psG.p 3 (by decide)
                obtain ⟨_, p4⟩ := psG.p 4 (by decide)
                obtain ⟨_, p5⟩ := psG.p 5 (by decide)
                obtain ⟨_, p6⟩ := psG.p 6 (by decide)
                obtain ⟨_, p7⟩ := psG.p 7 (by decide)
                obtain ⟨_, p8⟩ := psG.p 8 (by decide)
                have pf := psG.pf
                by_cases hts : joinA 32 [W 1, itoa q0, itoa q1, itoa q2] = s.data.toList
                · have tt := cmp_t hts
                  have hge : GE (first :: rest) ⟨1, q0, 0, 0, 0, q1, q2, 0, 0, false⟩ := by
                    have hG : GE [W 1, itoa q0, itoa q1, itoa q2] ⟨1, q0, 0, 0, 0, q1, q2, 0, 0, false⟩ := GE.spot 1 q0 q1 q2 (.inl rfl) n0.1 hp.1 hp.2
                    rw [← HCUT.out, ← hts, hG.cut_join]
                    exact hG
                  obtain ⟨rfl, rfl⟩ := hE.unique (.inl ⟨rfl, hge⟩)
                  clear hE hge hts
                  go_wp2_with fail
                  exact close11 psG rfl rfl (by first | (simp only [Ed.val, Ed.cells, fi_zero]; done) | (simp only [Ed.val, Ed.cells, fi_zero]; rfl))
                · have tt := cmp_f hts
                  have hnot : ∀ e', ¬ GE (first :: rest) e' := by
                    intro e' hge
                    have hj := HJOIN.out
                    rw [← HK2.out] at hge hj
                    obtain ⟨a, x, y, hI, hr⟩ := hge.inv_spot1
                    have z0 : q0 = a := n0.2 a hI.1 (by rw [hr]; rfl)
                    have z1 : q1 = x := n1.2 x hI.2.1.i64 (by rw [hr]; rfl)
                    have z2 : q2 = y := n2.2 y hI.2.2.i64 (by rw [hr]; rfl)
                    rw [hr] at hj
                    rw [z0, z1, z2] at hts
                    exact hts hj
                  obtain ⟨rfl, rfl⟩ := hE.unique (.inr ⟨rfl, rfl, hnot⟩)
                  clear hE hnot
                  go_wp2_with fail
                  exact close11 psG rfl rfl Ed0_val
              · have c0 : _ = some (Value.int .i64 1) := psF.e 0 (by decide)
                have c1 : _ = some (Value.int .i64 q0) := psF.e 1 (by decide)
                have c2 : _ = some (Value.int .i64 0) := psF.e 2 (by decide)
                have c3 : _ = some (Value.int .i64 0) := psF.e 3 (by decide)
                have c4 : _ = some (Value.int .i64 0) := psF.e 4 (by decide)
                have c5 : _ = some (Value.complex .f64 (fi q1) (fi q2)) := psF.e 5 (by decide)
                have c6 : _ = some (Value.int .u32 0) := psF.e 6 (by decide)
                have c7 : _ = some (Value.int .i64 0) := psF.e 7 (by decide)
                have c8 : _ = some (Value.bool false) := psF.e 8 (by decide)
                obtain ⟨WF, hWF⟩ := psF.name
                rw [hWF] at psF c0 c1 c2 c3 c4 c5 c6 c7 c8  ⊢
                have hR := refEdit_spotbad1 q0 q1 q2 n0.1 n1.1 n2.1 (by cases h : (p20 q1 && p20 q2) with | false => rfl | true => exact absurd (by simpa [p20_iff] using h) hp)
                simp only [Ed.val, Ed.cells, fi_zero, Int.cast_ofNat_Int] at hR
                go_wp2_with fail
                refine (hR _).mono ?_
                rintro e w7 ⟨rfl, hb7⟩
                have psG := psF.below hb7
                clear c0 c1 c2 c3 c4 c5 c6 c7 c8
                obtain ⟨_, p0⟩ := psG.p 0 (by decide)
                obtain ⟨_, p1⟩ := psG.p 1 (by decide)
                obtain ⟨_, p2⟩ := psG.p 2 (by decide)
                obtain ⟨_, p3⟩ := psG.p 3 (by decide)
                obtain ⟨_, p4⟩ := psG.p 4 (by decide)
                obtain ⟨_, p5⟩ := psG.p 5 (by decide)
                obtain ⟨_, p6⟩ := psG.p 6 (by decide)
                obtain ⟨_, p7⟩ := psG.p 7 (by decide)
                obtain ⟨_, p8⟩ := psG.p 8 (by decide)
                have pf := psG.pf
                have hnot : ∀ e', ¬ GE (first :: rest) e' := by
                  intro e' hge
                  rw [← HK2.out] at hge
                  obtain ⟨a, x, y, hI, hr⟩ := hge.inv_spot1
                  have z0 : q0 = a := n0.2 a hI.1 (by rw [hr]; rfl)
                  have z1 : q1 = x := n1.2 x hI.2.1.i64 (by rw [hr]; rfl)
                  have z2 : q2 = y := n2.2 y hI.2.2.i64 (by rw [hr]; rfl)
                  exact hp ⟨z1 ▸ hI.2.1, z2 ▸ hI.2.2⟩
                obtain ⟨rfl, rfl⟩ := hE.unique (.inr ⟨rfl, rfl, hnot⟩)
                clear hE hnot
                go_wp2_with fail
                exact close11 psG rfl rfl Ed0_val
            · have HK2 := Lib.hid hk2
              clear hk2
              have psF := psA
              have c0 : _ = some (Value.int .i64 2) := psF.e 0 (by decide)
              have c1 : _ = some (Value.int .i64 q0) := psF.e 1 (by decide)
              have c2 : _ = some (Value.int .i64 0) := psF.e 2 (by decide)
              have c3 : _ = some (Value.int .i64 0) := psF.e 3 (by decide)
              have c4 : _ = some (Value.int .i64 0) := psF.e 4 (by decide)
              have c5 : _ = some (Value.complex .f64 0 0) := psF.e 5 (by decide)
              have c6 : _ = some (Value.int .u32 0) := psF.e 6 (by decide)
              have c7 : _ = some (Value.int .i64 0) := psF.e 7 (by decide)
              have c8 : _ = some (Value.bool false) := psF.e 8 (by decide)
              have hR := refEdit_drop q0 n0.1
              simp only [Ed.val, Ed.cells, fi_zero, Int.cast_ofNat_Int] at hR
              go_wp2_with fail
              refine (hR _).mono ?_
              rintro e w7 ⟨rfl, hb7⟩
              have psG := psF.below hb7
              clear c0 c1 c2 c3 c4 c5 c6 c7 c8
              have c0 : w7.cell? ⟨Eb, 0, none⟩ = some (Value.int .i64 2) := psG.e 0 (by decide)
              have c1 : w7.cell? ⟨Eb, 1, none⟩ = some (Value.int .i64 q0) := psG.e 1 (by decide)
              have c2 : w7.cell? ⟨Eb, 2, none⟩ = some (Value.int .i64 0) := psG.e 2 (by decide)
              have c3 : w7.cell? ⟨Eb, 3, none⟩ = some (Value.int .i64 0) := psG.e 3 (by decide)
              have c4 : w7.cell? ⟨Eb, 4, none⟩ = some (Value.int .i64 0) := psG.e 4 (by decide)
              have c5 : w7.cell? ⟨Eb, 5, none⟩ = some (Value.complex .f64 0 0) := psG.e 5 (by decide)
              have c6 : w7.cell? ⟨Eb, 6, none⟩ = some (Value.int .u32 0) := psG.e 6 (by decide)
              have c7 : w7.cell? ⟨Eb, 7, none⟩ = some (Value.int .i64 0) := psG.e 7 (by decide)
              have c8 : w7.cell? ⟨Eb, 8, none⟩ = some (Value.bool false) := psG.e 8 (by decide)
              obtain ⟨_, p0⟩ := psG.p 0 (by decide)
              obtain ⟨_, p1⟩ := psG.p 1 (by decide)
              obtain ⟨_, p2⟩ := psG.p 2 (by decide)
              obtain ⟨_, p3⟩ := psG.p 3 (by decide)
              obtain ⟨_, p4⟩ := psG.p 4 (by decide)
              obtain ⟨_, p5⟩ := psG.p 5 (by decide)
              obtain ⟨_, p6⟩ := psG.p 6 (by decide)
              obtain ⟨_, p7⟩ := psG.p 7 (by decide)
              obtain ⟨_, p8⟩ := psG.p 8 (by decide)
              have pf := psG.pf
              by_cases hts : joinA 32 [W 2, itoa q0] = s.data.toList
              · have tt := cmp_t hts
                have hge : GE (first :: rest) ⟨2, q0, 0, 0, 0, 0, 0, 0, 0, false⟩ := by
                  have hG : GE [W 2, itoa q0] ⟨2, q0, 0, 0, 0, 0, 0, 0, 0, false⟩ := GE.drop q0 n0.1
                  rw [← HCUT.out, ← hts, hG.cut_join]
                  exact hG
                obtain ⟨rfl, rfl⟩ := hE.unique (.inl ⟨rfl, hge⟩)
                clear hE hge hts
                go_wp2_with fail
                exact close11 psG rfl rfl (by first | (simp only [Ed.val, Ed.cells, fi_zero]; done) | (simp only [Ed.val, Ed.cells, fi_zero]; rfl))
              · have tt := cmp_f hts
                have hnot : ∀ e', ¬ GE (first :: rest) e' := by
                  intro e' hge
                  have hj := HJOIN.out
                  rw [← HK2.out] at hge hj
                  obtain ⟨a, hI, hr⟩ := hge.inv_drop
                  have z0 : q0 = a := n0.2 a hI (by rw [hr]; rfl)
                  rw [hr] at hj
                  rw [z0] at hts
                  exact hts hj
                obtain ⟨rfl, rfl⟩ := hE.unique (.inr ⟨rfl, rfl, hnot⟩)
                clear hE hnot
                go_wp2_with fail
                exact close11 psG rfl rfl Ed0_val
            · have HK2 := Lib.hid hk2
              clear hk2
              by_cases hl2 : 1 < rest.length
              · obtain ⟨l, hl⟩ : ∃ l, (first :: rest)[2]? = some l := ⟨_, List.getElem?_eq_getElem (by simp; omega)⟩
                have dw := psA.wd 2 l hl
                have hdl : decide ((rest.length : Int) + 1 > 2) = true := by simp; omega
                by_cases hon : l = onL
                · subst hon
                  have t1 : ((bs onL).toList == [111, 110]) = true := bs_lit onL
                  have s8 := psA.e 8 (by decide)
                  have psF := psA.set 8 (.bool true)
                  have c0 : _ = some (Value.int .i64 3) := psF.e 0 (by decide)
                  have c1 : _ = some (Value.int .i64 q0) := psF.e 1 (by decide)
                  have c2 : _ = some (Value.int .i64 0) := psF.e 2 (by decide)
                  have c3 : _ = some (Value.int .i64 0) := psF.e 3 (by decide)
                  have c4 : _ = some (Value.int .i64 0) := psF.e 4 (by decide)
                  have c5 : _ = some (Value.complex .f64 0 0) := psF.e 5 (by decide)
                  have c6 : _ = some (Value.int .u32 0) := psF.e 6 (by decide)
                  have c7 : _ = some (Value.int .i64 0) := psF.e 7 (by decide)
                  have c8 : _ = some (Value.bool true) := psF.e 8 (by decide)
                  have hR := refEdit_over q0 true n0.1
                  simp only [Ed.val, Ed.cells, fi_zero, Int.cast_ofNat_Int] at hR
                  go_wp2_with fail
                  refine (hR _).mono ?_
                  rintro e w7 ⟨rfl, hb7⟩
                  have psG := psF.below hb7
                  clear c0 c1 c2 c3 c4 c5 c6 c7 c8
                  have c0 : w7.cell? ⟨Eb, 0, none⟩ = some (Value.int .i64 3) := psG.e 0 (by decide)
                  have c1 : w7.cell? ⟨Eb, 1, none⟩ = some (Value.int .i64 q0) := psG.e 1 (by decide)
                  have c2 : w7.cell? ⟨Eb, 2, none⟩ = some (Value.int .i64 0) := psG.e 2 (by decide)
                  have c3 : w7.cell? ⟨Eb, 3, none⟩ = some (Value.int .i64 0) := psG.e 3 (by decide)
                  have c4 : w7.cell? ⟨Eb, 4, none⟩ = some (Value.int .i64 0) := psG.e 4 (by decide)
                  have c5 : w7.cell? ⟨Eb, 5, none⟩ = some (Value.complex .f64 0 0) := psG.e 5 (by decide)
                  have c6 : w7.cell? ⟨Eb, 6, none⟩ = some (Value.int .u32 0) := psG.e 6 (by decide)
                  have c7 : w7.cell? ⟨Eb, 7, none⟩ = some (Value.int .i64 0) := psG.e 7 (by decide)
                  have c8 : w7.cell? ⟨Eb, 8, none⟩ = some (Value.bool true) := psG.e 8 (by decide)
                  obtain ⟨_, p0⟩ := psG.p 0 (by decide)
                  obtain ⟨_, p1⟩ := psG.p 1 (by decide)
                  obtain ⟨_, p2⟩ := psG.p 2 (by decide)
                  obtain ⟨_, p3⟩ := psG.p 3 (by decide)
                  obtain ⟨_, p4⟩ := psG.p 4 (by decide)
                  obtain ⟨_, p5⟩ := psG.p 5 (by decide)
                  obtain ⟨_, p6⟩ := psG.p 6 (by decide)
                  obtain ⟨_, p7⟩ := psG.p 7 (by decide)
                  obtain ⟨_, p8⟩ := psG.p 8 (by decide)
                  have pf := psG.pf
                  by_cases hts : joinA 32 [W 3, itoa q0, flL true] = s.data.toList
                  · have tt := cmp_t hts
                    have hge : GE (first :: rest) ⟨3, q0, 0, 0, 0, 0, 0, 0, 0, true⟩ := by
                      have hG : GE [W 3, itoa q0, flL true] ⟨3, q0, 0, 0, 0, 0, 0, 0, 0, true⟩ := GE.over q0 true n0.1
                      rw [← HCUT.out, ← hts, hG.cut_join]
                      exact hG
                    obtain ⟨rfl, rfl⟩ := hE.unique (.inl ⟨rfl, hge⟩)
                    clear hE hge hts
                    go_wp2_with fail
                    exact close11 psG rfl rfl (by first | (simp only [Ed.val, Ed.cells, fi_zero]; done) | (simp only [Ed.val, Ed.cells, fi_zero]; rfl))
                  · have tt := cmp_f hts
                    have hnot : ∀ e', ¬ GE (first :: rest) e' := by
                      intro e' hge
                      have hj := HJOIN.out
                      rw [← HK2.out] at hge hj
                      obtain ⟨a, f, hI, hr⟩ := hge.inv_over
                      have z0 : q0 = a := n0.2 a hI (by rw [hr]; rfl)
                      have z1 : onL = flL f := by
                        rw [hr] at hl
                        injection hl with hl
                        exact hl.symm
                      rw [hr] at hj
                      rw [z0] at hts
                      cases f
                      · exact absurd z1 (by decide)
                      · exact hts hj
                    obtain ⟨rfl, rfl⟩ := hE.unique (.inr ⟨rfl, rfl, hnot⟩)
                    clear hE hnot
                    go_wp2_with fail
                    exact close11 psG rfl rfl Ed0_val
                · have t1 : ((bs l).toList == [111, 110]) = false := bs_nlit hon
                  have s8 := psA.e 8 (by decide)
                  have psF := psA.set 8 (.bool false)
                  have c0 : _ = some (Value.int .i64 3) := psF.e 0 (by decide)
                  have c1 : _ = some (Value.int .i64 q0) := psF.e 1 (by decide)
                  have c2 : _ = some (Value.int .i64 0) := psF.e 2 (by decide)
                  have c3 : _ = some (Value.int .i64 0) := psF.e 3 (by decide)
                  have c4 : _ = some (Value.int .i64 0) := psF.e 4 (by decide)
                  have c5 : _ = some (Value.complex .f64 0 0) := psF.e 5 (by decide)
                  have c6 : _ = some (Value.int .u32 0) := psF.e 6 (by decide)
                  have c7 : _ = some (Value.int .i64 0) := psF.e 7 (by decide)
                  have c8 : _ = some (Value.bool false) := psF.e 8 (by decide)
                  have hR := refEdit_over q0 false n0.1
                  simp only [Ed.val, Ed.cells, fi_zero, Int.cast_ofNat_Int] at hR
                  go_wp2_with fail
                  refine (hR _).mono ?_
                  rintro e w7 ⟨rfl, hb7⟩
                  have psG := psF.below hb7
                  clear c0 c1 c2 c3 c4 c5 c6 c7 c8
                  have c0 : w7.cell? ⟨Eb, 0, none⟩ = some (Value.int .i64 3) := psG.e 0 (by decide)
                  have c1 : w7.cell? ⟨Eb, 1, none⟩ = some (Value.int .i64 q0) := psG.e 1 (by decide)
                  have c2 : w7.cell? ⟨Eb, 2, none⟩ = some (Value.int .i64 0) := psG.e 2 (by decide)
                  have c3 : w7.cell? ⟨Eb, 3, none⟩ = some (Value.int .i64 0) := psG.e 3 (by decide)
                  have c4 : w7.cell? ⟨Eb, 4, none⟩ = some (Value.int .i64 0) := psG.e 4 (by decide)
                  have c5 : w7.cell? ⟨Eb, 5, none⟩ = some (Value.complex .f64 0 0) := psG.e 5 (by decide)
                  have c6 : w7.cell? ⟨Eb, 6, none⟩ = some (Value.int .u32 0) := psG.e 6 (by decide)
                  have c7 : w7.cell? ⟨Eb, 7, none⟩ = some (Value.int .i64 0) := psG.e 7 (by decide)
                  have c8 : w7.cell? ⟨Eb, 8, none⟩ = some (Value.bool false) := psG.e 8 (by decide)
                  obtain ⟨_, p0⟩ := psG.p 0 (by decide)
                  obtain ⟨_, p1⟩ := psG.p 1 (by decide)
                  obtain ⟨_, p2⟩ := psG.p 2 (by decide)
                  obtain ⟨_, p3⟩ := psG.p 3 (by decide)
                  obtain ⟨_, p4⟩ := psG.p 4 (by decide)
                  obtain ⟨_, p5⟩ := psG.p 5 (by decide)
                  obtain ⟨_, p6⟩ := psG.p 6 (by decide)
                  obtain ⟨_, p7⟩ := psG.p 7 (by decide)
                  obtain ⟨_, p8⟩ := psG.p 8 (by decide)
                  have pf := psG.pf
                  by_cases hts : joinA 32 [W 3, itoa q0, flL false] = s.data.toList
                  · have tt := cmp_t hts
                    have hge : GE (first :: rest) ⟨3, q0, 0, 0, 0, 0, 0, 0, 0, false⟩ := by
                      have hG : GE [W 3, itoa q0, flL false] ⟨3, q0, 0, 0, 0, 0, 0, 0, 0, false⟩ := GE.over q0 false n0.1
                      rw [← HCUT.out, ← hts, hG.cut_join]
                      exact hG
                    obtain ⟨rfl, rfl⟩ := hE.unique (.inl ⟨rfl, hge⟩)
                    clear hE hge hts
                    go_wp2_with fail
                    exact close11 psG rfl rfl (by first | (simp only [Ed.val, Ed.cells, fi_zero]; done) | (simp only [Ed.val, Ed.cells, fi_zero]; rfl))
                  · have tt := cmp_f hts
                    have hnot : ∀ e', ¬ GE (first :: rest) e' := by
                      intro e' hge
                      have hj := HJOIN.out
                      rw [← HK2.out] at hge hj
                      obtain ⟨a, f, hI, hr⟩ := hge.inv_over
                      have z0 : q0 = a := n0.2 a hI (by rw [hr]; rfl)
                      have z1 : f = true → False := fun hf => by
                        rw [hr, hf] at hl
                        injection hl with hl
                        exact hon hl.symm
                      rw [hr] at hj
                      rw [z0] at hts
                      cases f
                      · exact hts hj
                      · exact z1 rfl
                    obtain ⟨rfl, rfl⟩ := hE.unique (.inr ⟨rfl, rfl, hnot⟩)
                    clear hE hnot
                    go_wp2_with fail
                    exact close11 psG rfl rfl Ed0_val
              · have hdl : decide ((rest.length : Int) + 1 > 2) = false := by simp; omega
                have s8 := psA.e 8 (by decide)
                have psF := psA.set 8 (.bool false)
                have c0 : _ = some (Value.int .i64 3) := psF.e 0 (by decide)
                have c1 : _ = some (Value.int .i64 q0) := psF.e 1 (by decide)
                have c2 : _ = some (Value.int .i64 0) := psF.e 2 (by decide)
                have c3 : _ = some (Value.int .i64 0) := psF.e 3 (by decide)
                have c4 : _ = some (Value.int .i64 0) := psF.e 4 (by decide)
                have c5 : _ = some (Value.complex .f64 0 0) := psF.e 5 (by decide)
                have c6 : _ = some (Value.int .u32 0) := psF.e 6 (by decide)
                have c7 : _ = some (Value.int .i64 0) := psF.e 7 (by decide)
                have c8 : _ = some (Value.bool false) := psF.e 8 (by decide)
                have hR := refEdit_over q0 false n0.1
                simp only [Ed.val, Ed.cells, fi_zero, Int.cast_ofNat_Int] at hR
                go_wp2_with fail
                refine (hR _).mono ?_
                rintro e w7 ⟨rfl, hb7⟩
                have psG := psF.below hb7
                clear c0 c1 c2 c3 c4 c5 c6 c7 c8
                have c0 : w7.cell? ⟨Eb, 0, none⟩ = some (Value.int .i64 3) := psG.e 0 (by decide)
                have c1 : w7.cell? ⟨Eb, 1, none⟩ = some (Value.int .i64 q0) := psG.e 1 (by decide)
                have c2 : w7.cell? ⟨Eb, 2, none⟩ = some (Value.int .i64 0) := psG.e 2 (by decide)
                have c3 : w7.cell? ⟨Eb, 3, none⟩ = some (Value.int .i64 0) := psG.e 3 (by decide)
                have c4 : w7.cell? ⟨Eb, 4, none⟩ = some (Value.int .i64 0) := psG.e 4 (by decide)
                have c5 : w7.cell? ⟨Eb, 5, none⟩ = some (Value.complex .f64 0 0) := psG.e 5 (by decide)
                have c6 : w7.cell? ⟨Eb, 6, none⟩ = some (Value.int .u32 0) := psG.e 6 (by decide)
                have c7 : w7.cell? ⟨Eb, 7, none⟩ = some (Value.int .i64 0) := psG.e 7 (by decide)
                have c8 : w7.cell? ⟨Eb, 8, none⟩ = some (Value.bool false) := psG.e 8 (by decide)
                obtain ⟨_, p0⟩ := psG.p 0 (by decide)
                obtain ⟨_, p1⟩ := psG.p 1 (by decide)
                obtain ⟨_, p2⟩ := psG.p 2 (by decide)
                obtain ⟨_, p3⟩ := psG.p 3 (by decide)
                obtain ⟨_, p4⟩ := psG.p 4 (by decide)
                obtain ⟨_, p5⟩ := psG.p 5 (by decide)
                obtain ⟨_, p6⟩ := psG.p 6 (by decide)
                obtain ⟨_, p7⟩ := psG.p 7 (by decide)
                obtain ⟨_, p8⟩ := psG.p 8 (by decide)
                have pf := psG.pf
                by_cases hts : joinA 32 [W 3, itoa q0, flL false] = s.data.toList
                · have tt := cmp_t hts
                  have hge : GE (first :: rest) ⟨3, q0, 0, 0, 0, 0, 0, 0, 0, false⟩ := by
                    have hG : GE [W 3, itoa q0, flL false] ⟨3, q0, 0, 0, 0, 0, 0, 0, 0, false⟩ := GE.over q0 false n0.1
                    rw [← HCUT.out, ← hts, hG.cut_join]
                    exact hG
                  obtain ⟨rfl, rfl⟩ := hE.unique (.inl ⟨rfl, hge⟩)
                  clear hE hge hts
                  go_wp2_with fail
                  exact close11 psG rfl rfl (by first | (simp only [Ed.val, Ed.cells, fi_zero]; done) | (simp only [Ed.val, Ed.cells, fi_zero]; rfl))
                · have tt := cmp_f hts
                  have hnot : ∀ e', ¬ GE (first :: rest) e' := by
                    intro e' hge
                    have hj := HJOIN.out
                    rw [← HK2.out] at hge hj
                    obtain ⟨a, f, hI, hr⟩ := hge.inv_over
                    have z0 : q0 = a := n0.2 a hI (by rw [hr]; rfl)
                    have z1 : f = true → False := fun hf => by
                      rw [hr] at hl2
                      exact hl2 (by simp)
                    rw [hr] at hj
                    rw [z0] at hts
                    cases f
                    · exact hts hj
                    · exact z1 rfl
                  obtain ⟨rfl, rfl⟩ := hE.unique (.inr ⟨rfl, rfl, hnot⟩)
                  clear hE hnot
                  go_wp2_with fail
                  exact close11 psG rfl rfl Ed0_val
            · have HK2 := Lib.hid hk2
              clear hk2
              have s2 := psA.e 2 (by decide)
              have s3 := psA.e 3 (by decide)
              have s4 := psA.e 4 (by decide)
              have psF := (((psA.set 2 (.int .i64 q1)).set 3 (.int .i64 q2)).set 4 (.int .i64 q3)).below (Below.refl _ _).drew
              go_wp2_with fail
              go_region
              have c0 : _ = some (Value.int .i64 4) := psF.e 0 (by decide)
              have c1 : _ = some (Value.int .i64 q0) := psF.e 1 (by decide)
              have c2 : _ = some (Value.int .i64 q1) := psF.e 2 (by decide)
              have c3 : _ = some (Value.int .i64 q2) := psF.e 3 (by decide)
              have c4 : _ = some (Value.int .i64 q3) := psF.e 4 (by decide)
              have c5 : _ = some (Value.complex .f64 0 0) := psF.e 5 (by decide)
              have c6 : _ = some (Value.int .u32 0) := psF.e 6 (by decide)
              have c7 : _ = some (Value.int .i64 0) := psF.e 7 (by decide)
              have c8 : _ = some (Value.bool false) := psF.e 8 (by decide)
              obtain ⟨WF, hWF⟩ := psF.name
              rw [hWF] at psF c0 c1 c2 c3 c4 c5 c6 c7 c8  ⊢
              have hR := refEdit_link q0 q1 q2 q3 n0.1 n1.1 n2.1 n3.1
              simp only [Ed.val, Ed.cells, fi_zero, Int.cast_ofNat_Int] at hR
              go_wp2_with fail
              refine (hR _).mono ?_
              rintro e w7 ⟨rfl, hb7⟩
              have psG := psF.below hb7
              clear c0 c1 c2 c3 c4 c5 c6 c7 c8
              have c0 : w7.cell? ⟨Eb, 0, none⟩ = some (Value.int .i64 4) := psG.e 0 (by decide)
              have c1 : w7.cell? ⟨Eb, 1, none⟩ = some (Value.int .i64 q0) := psG.e 1 (by decide)
              have c2 : w7.cell? ⟨Eb, 2, none⟩ = some (Value.int .i64 q1) := psG.e 2 (by decide)
              have c3 : w7.cell? ⟨Eb, 3, none⟩ = some (Value.int .i64 q2) := psG.e 3 (by decide)
              have c4 : w7.cell? ⟨Eb, 4, none⟩ = some (Value.int .i64 q3) := psG.e 4 (by decide)
              have c5 : w7.cell? ⟨Eb, 5, none⟩ = some (Value.complex .f64 0 0) := psG.e 5 (by decide)
              have c6 : w7.cell? ⟨Eb, 6, none⟩ = some (Value.int .u32 0) := psG.e 6 (by decide)
              have c7 : w7.cell? ⟨Eb, 7, none⟩ = some (Value.int .i64 0) := psG.e 7 (by decide)
              have c8 : w7.cell? ⟨Eb, 8, none⟩ = some (Value.bool false) := psG.e 8 (by decide)
              obtain ⟨_, p0⟩ := psG.p 0 (by decide)
              obtain ⟨_, p1⟩ := psG.p 1 (by decide)
              obtain ⟨_, p2⟩ := psG.p 2 (by decide)
              obtain ⟨_, p3⟩ := psG.p 3 (by decide)
              obtain ⟨_, p4⟩ := psG.p 4 (by decide)
              obtain ⟨_, p5⟩ := psG.p 5 (by decide)
              obtain ⟨_, p6⟩ := psG.p 6 (by decide)
              obtain ⟨_, p7⟩ := psG.p 7 (by decide)
              obtain ⟨_, p8⟩ := psG.p 8 (by decide)
              have pf := psG.pf
              by_cases hts : joinA 32 [W 4, itoa q0, itoa q1, itoa q2, itoa q3] = s.data.toList
              · have tt := cmp_t hts
                have hge : GE (first :: rest) ⟨4, q0, q1, q2, q3, 0, 0, 0, 0, false⟩ := by
                  have hG : GE [W 4, itoa q0, itoa q1, itoa q2, itoa q3] ⟨4, q0, q1, q2, q3, 0, 0, 0, 0, false⟩ := GE.link q0 q1 q2 q3 n0.1 n1.1 n2.1 n3.1
                  rw [← HCUT.out, ← hts, hG.cut_join]
                  exact hG
                obtain ⟨rfl, rfl⟩ := hE.unique (.inl ⟨rfl, hge⟩)
                clear hE hge hts
                go_wp2_with fail
                exact close11 psG rfl rfl (by first | (simp only [Ed.val, Ed.cells, fi_zero]; done) | (simp only [Ed.val, Ed.cells, fi_zero]; rfl))
              · have tt := cmp_f hts
                have hnot : ∀ e', ¬ GE (first :: rest) e' := by
                  intro e' hge
                  have hj := HJOIN.out
                  rw [← HK2.out] at hge hj
                  obtain ⟨a, b, c, d, hI, hr⟩ := hge.inv_link
                  have z0 : q0 = a := n0.2 a hI.1 (by rw [hr]; rfl)
                  have z1 : q1 = b := n1.2 b hI.2.1 (by rw [hr]; rfl)
                  have z2 : q2 = c := n2.2 c hI.2.2.1 (by rw [hr]; rfl)
                  have z3 : q3 = d := n3.2 d hI.2.2.2 (by rw [hr]; rfl)
                  rw [hr] at hj
                  rw [z0, z1, z2, z3] at hts
                  exact hts hj
                obtain ⟨rfl, rfl⟩ := hE.unique (.inr ⟨rfl, rfl, hnot⟩)
                clear hE hnot
                go_wp2_with fail
                exact close11 psG rfl rfl Ed0_val
            · have HK2 := Lib.hid hk2
              clear hk2
              have s2 := psA.e 2 (by decide)
              have psF := (psA.set 2 (.int .i64 q1))
              have c0 : _ = some (Value.int .i64 5) := psF.e 0 (by decide)
              have c1 : _ = some (Value.int .i64 q0) := psF.e 1 (by decide)
              have c2 : _ = some (Value.int .i64 q1) := psF.e 2 (by decide)
              have c3 : _ = some (Value.int .i64 0) := psF.e 3 (by decide)
              have c4 : _ = some (Value.int .i64 0) := psF.e 4 (by decide)
              have c5 : _ = some (Value.complex .f64 0 0) := psF.e 5 (by decide)
              have c6 : _ = some (Value.int .u32 0) := psF.e 6 (by decide)
              have c7 : _ = some (Value.int .i64 0) := psF.e 7 (by decide)
              have c8 : _ = some (Value.bool false) := psF.e 8 (by decide)
              have hR := refEdit_cut q0 q1 n0.1 n1.1
              simp only [Ed.val, Ed.cells, fi_zero, Int.cast_ofNat_Int] at hR
              go_wp2_with fail
              refine (hR _).mono ?_
              rintro e w7 ⟨rfl, hb7⟩
              have psG := psF.below hb7
              clear c0 c1 c2 c3 c4 c5 c6 c7 c8
              have c0 : w7.cell? ⟨Eb, 0, none⟩ = some (Value.int .i64 5) := psG.e 0 (by decide)
              have c1 : w7.cell? ⟨Eb, 1, none⟩ = some (Value.int .i64 q0) := psG.e 1 (by decide)
              have c2 : w7.cell? ⟨Eb, 2, none⟩ = some (Value.int .i64 q1) := psG.e 2 (by decide)
              have c3 : w7.cell? ⟨Eb, 3, none⟩ = some (Value.int .i64 0) := psG.e 3 (by decide)
              have c4 : w7.cell? ⟨Eb, 4, none⟩ = some (Value.int .i64 0) := psG.e 4 (by decide)
              have c5 : w7.cell? ⟨Eb, 5, none⟩ = some (Value.complex .f64 0 0) := psG.e 5 (by decide)
              have c6 : w7.cell? ⟨Eb, 6, none⟩ = some (Value.int .u32 0) := psG.e 6 (by decide)
              have c7 : w7.cell? ⟨Eb, 7, none⟩ = some (Value.int .i64 0) := psG.e 7 (by decide)
              have c8 : w7.cell? ⟨Eb, 8, none⟩ = some (Value.bool false) := psG.e 8 (by decide)
              obtain ⟨_, p0⟩ := psG.p 0 (by decide)
              obtain ⟨_, p1⟩ := psG.p 1 (by decide)
              obtain ⟨_, p2⟩ := psG.p 2 (by decide)
              obtain ⟨_, p3⟩ := psG.p 3 (by decide)
              obtain ⟨_, p4⟩ := psG.p 4 (by decide)
              obtain ⟨_, p5⟩ := psG.p 5 (by decide)
              obtain ⟨_, p6⟩ := psG.p 6 (by decide)
              obtain ⟨_, p7⟩ := psG.p 7 (by decide)
              obtain ⟨_, p8⟩ := psG.p 8 (by decide)
              have pf := psG.pf
              by_cases hts : joinA 32 [W 5, itoa q0, itoa q1] = s.data.toList
              · have tt := cmp_t hts
                have hge : GE (first :: rest) ⟨5, q0, q1, 0, 0, 0, 0, 0, 0, false⟩ := by
                  have hG : GE [W 5, itoa q0, itoa q1] ⟨5, q0, q1, 0, 0, 0, 0, 0, 0, false⟩ := GE.cut q0 q1 n0.1 n1.1
                  rw [← HCUT.out, ← hts, hG.cut_join]
                  exact hG
                obtain ⟨rfl, rfl⟩ := hE.unique (.inl ⟨rfl, hge⟩)
                clear hE hge hts
                go_wp2_with fail
                exact close11 psG rfl rfl (by first | (simp only [Ed.val, Ed.cells, fi_zero]; done) | (simp only [Ed.val, Ed.cells, fi_zero]; rfl))
              · have tt := cmp_f hts
                have hnot : ∀ e', ¬ GE (first :: rest) e' := by
                  intro e' hge
                  have hj := HJOIN.out
                  rw [← HK2.out] at hge hj
                  obtain ⟨a, b, hI, hr⟩ := hge.inv_cut
                  have z0 : q0 = a := n0.2 a hI.1 (by rw [hr]; rfl)
                  have z1 : q1 = b := n1.2 b hI.2 (by rw [hr]; rfl)
                  rw [hr] at hj
                  rw [z0, z1] at hts
                  exact hts hj
                obtain ⟨rfl, rfl⟩ := hE.unique (.inr ⟨rfl, rfl, hnot⟩)
                clear hE hnot
                go_wp2_with fail
                exact close11 psG rfl rfl Ed0_val
            · have HK2 := Lib.hid hk2
              clear hk2
              have s2 := psA.e 2 (by decide)
              have s3 := psA.e 3 (by decide)
              have psF := ((psA.set 2 (.int .i64 q1)).set 3 (.int .i64 q2)).below (Below.refl _ _).drew
              go_wp2_with fail
              go_region
              have c0 : _ = some (Value.int .i64 6) := psF.e 0 (by decide)
              have c1 : _ = some (Value.int .i64 q0) := psF.e 1 (by decide)
              have c2 : _ = some (Value.int .i64 q1) := psF.e 2 (by decide)
              have c3 : _ = some (Value.int .i64 q2) := psF.e 3 (by decide)
              have c4 : _ = some (Value.int .i64 0) := psF.e 4 (by decide)
              have c5 : _ = some (Value.complex .f64 0 0) := psF.e 5 (by decide)
              have c6 : _ = some (Value.int .u32 0) := psF.e 6 (by decide)
              have c7 : _ = some (Value.int .i64 0) := psF.e 7 (by decide)
              have c8 : _ = some (Value.bool false) := psF.e 8 (by decide)
              obtain ⟨WF, hWF⟩ := psF.name
              rw [hWF] at psF c0 c1 c2 c3 c4 c5 c6 c7 c8  ⊢
              have hR := refEdit_cost q0 q1 q2 n0.1 n1.1 n2.1
              simp only [Ed.val, Ed.cells, fi_zero, Int.cast_ofNat_Int] at hR
              go_wp2_with fail
              refine (hR _).mono ?_
              rintro e w7 ⟨rfl, hb7⟩
              have psG := psF.below hb7
              clear c0 c1 c2 c3 c4 c5 c6 c7 c8
              have c0 : w7.cell? ⟨Eb, 0, none⟩ = some (Value.int .i64 6) := psG.e 0 (by decide)
              have c1 : w7.cell? ⟨Eb, 1, none⟩ = some (Value.int .i64 q0) := psG.e 1 (by decide)
              have c2 : w7.cell? ⟨Eb, 2, none⟩ = some (Value.int .i64 q1) := psG.e 2 (by decide)
              have c3 : w7.cell? ⟨Eb, 3, none⟩ = some (Value.int .i64 q2) := psG.e 3 (by decide)
              have c4 : w7.cell? ⟨Eb, 4, none⟩ = some (Value.int .i64 0) := psG.e 4 (by decide)
              have c5 : w7.cell? ⟨Eb, 5, none⟩ = some (Value.complex .f64 0 0) := psG.e 5 (by decide)
              have c6 : w7.cell? ⟨Eb, 6, none⟩ = some (Value.int .u32 0) := psG.e 6 (by decide)
              have c7 : w7.cell? ⟨Eb, 7, none⟩ = some (Value.int .i64 0) := psG.e 7 (by decide)
              have c8 : w7.cell? ⟨Eb, 8, none⟩ = some (Value.bool false) := psG.e 8 (by decide)
              obtain ⟨_, p0⟩ := psG.p 0 (by decide)
              obtain ⟨_, p1⟩ := psG.p 1 (by decide)
              obtain ⟨_, p2⟩ := psG.p 2 (by decide)
              obtain ⟨_, p3⟩ := psG.p 3 (by decide)
              obtain ⟨_, p4⟩ := psG.p 4 (by decide)
              obtain ⟨_, p5⟩ := psG.p 5 (by decide)
              obtain ⟨_, p6⟩ := psG.p 6 (by decide)
              obtain ⟨_, p7⟩ := psG.p 7 (by decide)
              obtain ⟨_, p8⟩ := psG.p 8 (by decide)
              have pf := psG.pf
              by_cases hts : joinA 32 [W 6, itoa q0, itoa q1, itoa q2] = s.data.toList
              · have tt := cmp_t hts
                have hge : GE (first :: rest) ⟨6, q0, q1, q2, 0, 0, 0, 0, 0, false⟩ := by
                  have hG : GE [W 6, itoa q0, itoa q1, itoa q2] ⟨6, q0, q1, q2, 0, 0, 0, 0, 0, false⟩ := GE.cost q0 q1 q2 n0.1 n1.1 n2.1
                  rw [← HCUT.out, ← hts, hG.cut_join]
                  exact hG
                obtain ⟨rfl, rfl⟩ := hE.unique (.inl ⟨rfl, hge⟩)
                clear hE hge hts
                go_wp2_with fail
                exact close11 psG rfl rfl (by first | (simp only [Ed.val, Ed.cells, fi_zero]; done) | (simp only [Ed.val, Ed.cells, fi_zero]; rfl))
              · have tt := cmp_f hts
                have hnot : ∀ e', ¬ GE (first :: rest) e' := by
                  intro e' hge
                  have hj := HJOIN.out
                  rw [← HK2.out] at hge hj
                  obtain ⟨a, b, c, hI, hr⟩ := hge.inv_cost
                  have z0 : q0 = a := n0.2 a hI.1 (by rw [hr]; rfl)
                  have z1 : q1 = b := n1.2 b hI.2.1 (by rw [hr]; rfl)
                  have z2 : q2 = c := n2.2 c hI.2.2 (by rw [hr]; rfl)
                  rw [hr] at hj
                  rw [z0, z1, z2] at hts
                  exact hts hj
                obtain ⟨rfl, rfl⟩ := hE.unique (.inr ⟨rfl, rfl, hnot⟩)
                clear hE hnot
                go_wp2_with fail
                exact close11 psG rfl rfl Ed0_val
            · have HK2 := Lib.hid hk2
              clear hk2
              have s2 := psA.e 2 (by decide)
              have s4 := psA.e 4 (by decide)
              have psF := ((psA.set 2 (.int .i64 q1)).set 4 (.int .i64 q2)).below (Below.refl _ _).drew
              go_wp2_with fail
              go_region
              have c0 : _ = some (Value.int .i64 7) := psF.e 0 (by decide)
              have c1 : _ = some (Value.int .i64 q0) := psF.e 1 (by decide)
              have c2 : _ = some (Value.int .i64 q1) := psF.e 2 (by decide)
              have c3 : _ = some (Value.int .i64 0) := psF.e 3 (by decide)
              have c4 : _ = some (Value.int .i64 q2) := psF.e 4 (by decide)
              have c5 : _ = some (Value.complex .f64 0 0) := psF.e 5 (by decide)
              have c6 : _ = some (Value.int .u32 0) := psF.e 6 (by decide)
              have c7 : _ = some (Value.int .i64 0) := psF.e 7 (by decide)
              have c8 : _ = some (Value.bool false) := psF.e 8 (by decide)
              obtain ⟨WF, hWF⟩ := psF.name
              rw [hWF] at psF c0 c1 c2 c3 c4 c5 c6 c7 c8  ⊢
              have hR := refEdit_delay q0 q1 q2 n0.1 n1.1 n2.1
              simp only [Ed.val, Ed.cells, fi_zero, Int.cast_ofNat_Int] at hR
              go_wp2_with fail
              refine (hR _).mono ?_
              rintro e w7 ⟨rfl, hb7⟩
              have psG := psF.below hb7
              clear c0 c1 c2 c3 c4 c5 c6 c7 c8
              have c0 : w7.cell? ⟨Eb, 0, none⟩ = some (Value.int .i64 7) := psG.e 0 (by decide)
              have c1 : w7.cell? ⟨Eb, 1, none⟩ = some (Value.int .i64 q0) := psG.e 1 (by decide)
              have c2 : w7.cell? ⟨Eb, 2, none⟩ = some (Value.int .i64 q1) := psG.e 2 (by decide)
              have c3 : w7.cell? ⟨Eb, 3, none⟩ = some (Value.int .i64 0) := psG.e 3 (by decide)
              have c4 : w7.cell? ⟨Eb, 4, none⟩ = some (Value.int .i64 q2) := psG.e 4 (by decide)
              have c5 : w7.cell? ⟨Eb, 5, none⟩ = some (Value.complex .f64 0 0) := psG.e 5 (by decide)
              have c6 : w7.cell? ⟨Eb, 6, none⟩ = some (Value.int .u32 0) := psG.e 6 (by decide)
              have c7 : w7.cell? ⟨Eb, 7, none⟩ = some (Value.int .i64 0) := psG.e 7 (by decide)
              have c8 : w7.cell? ⟨Eb, 8, none⟩ = some (Value.bool false) := psG.e 8 (by decide)
              obtain ⟨_, p0⟩ := psG.p 0 (by decide)
              obtain ⟨_, p1⟩ := psG.p 1 (by decide)
              obtain ⟨_, p2⟩ := psG.p 2 (by decide)
              obtain ⟨_, p3⟩ := psG.p 3 (by decide)
              obtain ⟨_, p4⟩ := psG.p 4 (by decide)
              obtain ⟨_, p5⟩ := psG.p 5 (by decide)
              obtain ⟨_, p6⟩ := psG.p 6 (by decide)
              obtain ⟨_, p7⟩ := psG.p 7 (by decide)
              obtain ⟨_, p8⟩ := psG.p 8 (by decide)
              have pf := psG.pf
              by_cases hts : joinA 32 [W 7, itoa q0, itoa q1, itoa q2] = s.data.toList
              · have tt := cmp_t hts
                have hge : GE (first :: rest) ⟨7, q0, q1, 0, q2, 0, 0, 0, 0, false⟩ := by
                  have hG : GE [W 7, itoa q0, itoa q1, itoa q2] ⟨7, q0, q1, 0, q2, 0, 0, 0, 0, false⟩ := GE.delay q0 q1 q2 n0.1 n1.1 n2.1
                  rw [← HCUT.out, ← hts, hG.cut_join]
                  exact hG
                obtain ⟨rfl, rfl⟩ := hE.unique (.inl ⟨rfl, hge⟩)
                clear hE hge hts
                go_wp2_with fail
                exact close11 psG rfl rfl (by first | (simp only [Ed.val, Ed.cells, fi_zero]; done) | (simp only [Ed.val, Ed.cells, fi_zero]; rfl))
              · have tt := cmp_f hts
                have hnot : ∀ e', ¬ GE (first :: rest) e' := by
                  intro e' hge
                  have hj := HJOIN.out
                  rw [← HK2.out] at hge hj
                  obtain ⟨a, b, c, hI, hr⟩ := hge.inv_delay
                  have z0 : q0 = a := n0.2 a hI.1 (by rw [hr]; rfl)
                  have z1 : q1 = b := n1.2 b hI.2.1 (by rw [hr]; rfl)
                  have z2 : q2 = c := n2.2 c hI.2.2 (by rw [hr]; rfl)
                  rw [hr] at hj
                  rw [z0, z1, z2] at hts
                  exact hts hj
                obtain ⟨rfl, rfl⟩ := hE.unique (.inr ⟨rfl, rfl, hnot⟩)
                clear hE hnot
                go_wp2_with fail
                exact close11 psG rfl rfl Ed0_val
            · have HK2 := Lib.hid hk2
              clear hk2
              have s5 := psA.e 5 (by decide)
              have b1 := back_fi q1
              have b2 := back_fi q2
              have psF := (psA.set 5 (.complex .f64 (fi q1) (fi q2))).below (Below.refl _ _).drew
              go_wp2_with fail
              go_region
              clear b1 b2
              by_cases hp : P20 q1 ∧ P20 q2
              · have c0 : _ = some (Value.int .i64 8) := psF.e 0 (by decide)
                have c1 : _ = some (Value.int .i64 q0) := psF.e 1 (by decide)
                have c2 : _ = some (Value.int .i64 0) := psF.e 2 (by decide)
                have c3 : _ = some (Value.int .i64 0) := psF.e 3 (by decide)
                have c4 : _ = some (Value.int .i64 0) := psF.e 4 (by decide)
                have c5 : _ = some (Value.complex .f64 (fi q1) (fi q2)) := psF.e 5 (by decide)
                have c6 : _ = some (Value.int .u32 0) := psF.e 6 (by decide)
                have c7 : _ = some (Value.int .i64 0) := psF.e 7 (by decide)
                have c8 : _ = some (Value.bool false) := psF.e 8 (by decide)
                obtain ⟨WF, hWF⟩ := psF.name
                rw [hWF] at psF c0 c1 c2 c3 c4 c5 c6 c7 c8  ⊢
                have hR := refEdit_spot8 q0 q1 q2 n0.1 hp.1 hp.2
                simp only [Ed.val, Ed.cells, fi_zero, Int.cast_ofNat_Int] at hR
                go_wp2_with fail
                refine (hR _).mono ?_
                rintro e w7 ⟨rfl, hb7⟩
                have psG := psF.below hb7
                clear c0 c1 c2 c3 c4 c5 c6 c7 c8
                have c0 : w7.cell? ⟨Eb, 0, none⟩ = some (Value.int .i64 8) := psG.e 0 (by decide)
                have c1 : w7.cell? ⟨Eb, 1, none⟩ = some (Value.int .i64 q0) := psG.e 1 (by decide)
                have c2 : w7.cell? ⟨Eb, 2, none⟩ = some (Value.int .i64 0) := psG.e 2 (by decide)
                have c3 : w7.cell? ⟨Eb, 3, none⟩ = some (Value.int .i64 0) := psG.e 3 (by decide)
                have c4 : w7.cell? ⟨Eb, 4, none⟩ = some (Value.int .i64 0) := psG.e 4 (by decide)
                have c5 : w7.cell? ⟨Eb, 5, none⟩ = some (Value.complex .f64 (fi q1) (fi q2)) := psG.e 5 (by decide)
                have c6 : w7.cell? ⟨Eb, 6, none⟩ = some (Value.int .u32 0) := psG.e 6 (by decide)
                have c7 : w7.cell? ⟨Eb, 7, none⟩ = some (Value.int .i64 0) := psG.e 7 (by decide)
                have c8 : w7.cell? ⟨Eb, 8, none⟩ = some (Value.bool false) := psG.e 8 (by decide)
                obtain ⟨_, p0⟩ := psG.p 0 (by decide)
                obtain ⟨_, p1⟩ := psG.p 1 (by decide)
                obtain ⟨_, p2⟩ := psG.p 2 (by decide)
                obtain ⟨_, p3⟩ := psG.p 3 (by decide)
                obtain ⟨_, p4⟩ := psG.p 4 (by decide)
                obtain ⟨_, p5⟩ := psG.p 5 (by decide)
                obtain ⟨_, p6⟩ := psG.p 6 (by decide)
                obtain ⟨_, p7⟩ := psG.p 7 (by decide)
                obtain ⟨_, p8⟩ := psG.p 8 (by decide)
                have pf := psG.pf
                by_cases hts : joinA 32 [W 8, itoa q0, itoa q1, itoa q2] = s.data.toList
                · have tt := cmp_t hts
                  have hge : GE (first :: rest) ⟨8, q0, 0, 0, 0, q1, q2, 0, 0, false⟩ := by
                    have hG : GE [W 8, itoa q0, itoa q1, itoa q2] ⟨8, q0, 0, 0, 0, q1, q2, 0, 0, false⟩ := GE.spot 8 q0 q1 q2 (.inr rfl) n0.1 hp.1 hp.2
                    rw [← HCUT.out, ← hts, hG.cut_join]
                    exact hG
                  obtain ⟨rfl, rfl⟩ := hE.unique (.inl ⟨rfl, hge⟩)
                  clear hE hge hts
                  go_wp2_with fail
                  exact close11 psG rfl rfl (by first | (simp only [Ed.val, Ed.cells, fi_zero]; done) | (simp only [Ed.val, Ed.cells, fi_zero]; rfl))
                · have tt := cmp_f hts
                  have hnot : ∀ e', ¬ GE (first :: rest) e' := by
                    intro e' hge
                    have hj := HJOIN.out
                    rw [← HK2.out] at hge hj
                    obtain ⟨a, x, y, hI, hr⟩ := hge.inv_spot8
                    have z0 : q0 = a := n0.2 a hI.1 (by rw [hr]; rfl)
                    have z1 : q1 = x := n1.2 x hI.2.1.i64 (by rw [hr]; rfl)
                    have z2 : q2 = y := n2.2 y hI.2.2.i64 (by rw [hr]; rfl)
                    rw [hr] at hj
                    rw [z0, z1, z2] at hts
                    exact hts hj
                  obtain ⟨rfl, rfl⟩ := hE.unique (.inr ⟨rfl, rfl, hnot⟩)
                  clear hE hnot
                  go_wp2_with fail
                  exact close11 psG rfl rfl Ed0_val
              · have c0 : _ = some (Value.int .i64 8) := psF.e 0 (by decide)
                have c1 : _ = some (Value.int .i64 q0) := psF.e 1 (by decide)
                have c2 : _ = some (Value.int .i64 0) := psF.e 2 (by decide)
                have c3 : _ = some (Value.int .i64 0) := psF.e 3 (by decide)
                have c4 : _ = some (Value.int .i64 0) := psF.e 4 (by decide)
                have c5 : _ = some (Value.complex .f64 (fi q1) (fi q2)) := psF.e 5 (by decide)
                have c6 : _ = some (Value.int .u32 0) := psF.e 6 (by decide)
                have c7 : _ = some (Value.int .i64 0) := psF.e 7 (by decide)
                have c8 : _ = some (Value.bool false) := psF.e 8 (by decide)
                obtain ⟨WF, hWF⟩ := psF.name
                rw [hWF] at psF c0 c1 c2 c3 c4 c5 c6 c7 c8  ⊢
                have hR := refEdit_spotbad8 q0 q1 q2 n0.1 n1.1 n2.1 (by cases h : (p20 q1 && p20 q2) with | false => rfl | true => exact absurd (by simpa [p20_iff] using h) hp)
                simp only [Ed.val, Ed.cells, fi_zero, Int.cast_ofNat_Int] at hR
                go_wp2_with fail
                refine (hR _).mono ?_
                rintro e w7 ⟨rfl, hb7⟩
                have psG := psF.below hb7
                clear c0 c1 c2 c3 c4 c5 c6 c7 c8
                obtain ⟨_, p0⟩ := psG.p 0 (by decide)
                obtain ⟨_, p1⟩ := psG.p 1 (by decide)
                obtain ⟨_, p2⟩ := psG.p 2 (by decide)
                obtain ⟨_, p3⟩ := psG.p 3 (by decide)
                obtain ⟨_, p4⟩ := psG.p 4 (by decide)
                obtain ⟨_, p5⟩ := psG.p 5 (by decide)
                obtain ⟨_, p6⟩ := psG.p 6 (by decide)
                obtain ⟨_, p7⟩ := psG.p 7 (by decide)
                obtain ⟨_, p8⟩ := psG.p 8 (by decide)
                have pf := psG.pf
                have hnot : ∀ e', ¬ GE (first :: rest) e' := by
                  intro e' hge
                  rw [← HK2.out] at hge
                  obtain ⟨a, x, y, hI, hr⟩ := hge.inv_spot8
                  have z0 : q0 = a := n0.2 a hI.1 (by rw [hr]; rfl)
                  have z1 : q1 = x := n1.2 x hI.2.1.i64 (by rw [hr]; rfl)
                  have z2 : q2 = y := n2.2 y hI.2.2.i64 (by rw [hr]; rfl)
                  exact hp ⟨z1 ▸ hI.2.1, z2 ▸ hI.2.2⟩
                obtain ⟨rfl, rfl⟩ := hE.unique (.inr ⟨rfl, rfl, hnot⟩)
                clear hE hnot
                go_wp2_with fail
                exact close11 psG rfl rfl Ed0_val
            · have HK2 := Lib.hid hk2
              clear hk2
              by_cases hl2 : 1 < rest.length
              · obtain ⟨l, hl⟩ : ∃ l, (first :: rest)[2]? = some l := ⟨_, List.getElem?_eq_getElem (by simp; omega)⟩
                have dw := psA.wd 2 l hl
                have hdl : decide ((rest.length : Int) + 1 > 2) = true := by simp; omega
                obtain ⟨pa, pn, er2, hRP⟩ := RP.total l
                have hpg : pa < 4294967296 ∧ snd pa pn = true := by
                  rcases hRP with ⟨_, g2, g3, _⟩ | ⟨g1, g2, _⟩
                  · exact ⟨g3, g2⟩
                  · rw [g1, g2]; exact ⟨by decide, by decide⟩
                obtain ⟨hpa, hsn⟩ := hpg
                have hPX : ∀ a' n', a' < 4294967296 → snd a' n' = true → (first :: rest)[2]? = some (pfxL a' n') → pa = a' ∧ pn = n' := fun a' n' h1 h2 h3 => by
                  rw [hl] at h3
                  injection h3 with h3
                  have := RP.unique hRP (.inl ⟨rfl, h2, h1, h3⟩ : RP l a' n' 0)
                  exact ⟨this.1, this.2.1⟩
                have hRd := refRead_any (bs l) pa pn er2 hRP
                clear hRP
                unfold pv at hRd
                go_wp2_with fail
                refine (hRd _).mono ?_
                rintro e w6 ⟨rfl, hb6⟩
                have psB := psA.below hb6
                have s6 := psB.e 6 (by decide)
                have s7 := psB.e 7 (by decide)
                have s3 := psB.e 3 (by decide)
                have sf := psB.ef
                have y2 := (hb6.cell (World.block_lt_of_cell? _ _ x2)).trans x2
                have psC := (psB.set 6 (.int .u32 pa)).set 7 (.int .i64 pn)
                have s0 : ((w6.setCell ⟨Eb, 6, none⟩ (.int .u32 pa)).setCell ⟨Eb, 7, none⟩ (.int .i64 pn)).cell? ⟨Eb, 0, none⟩ = some (.int .i64 9) := psC.e 0 (by decide)
                have yy : ((w6.setCell ⟨Eb, 6, none⟩ (.int .u32 pa)).setCell ⟨Eb, 7, none⟩ (.int .i64 pn)).cell? ⟨g, 2, none⟩ = some (.int .i64 q2) := (World.cell?_setCell_other _ _ _ _ (by intro e2; injection e2 with e2 _; exact hgE e2)).trans ((World.cell?_setCell_other _ _ _ _ (by intro e2; injection e2 with e2 _; exact hgE e2)).trans y2)
                have z3' := psC.e 3 (by decide)
                have zf := psC.ef
                have psF := psC.set 3 (.int .i64 q2)
                have c0 : _ = some (Value.int .i64 9) := psF.e 0 (by decide)
                have c1 : _ = some (Value.int .i64 q0) := psF.e 1 (by decide)
                have c2 : _ = some (Value.int .i64 0) := psF.e 2 (by decide)
                have c3 : _ = some (Value.int .i64 q2) := psF.e 3 (by decide)
                have c4 : _ = some (Value.int .i64 0) := psF.e 4 (by decide)
                have c5 : _ = some (Value.complex .f64 0 0) := psF.e 5 (by decide)
                have c6 : _ = some (Value.int .u32 pa) := psF.e 6 (by decide)
                have c7 : _ = some (Value.int .i64 pn) := psF.e 7 (by decide)
                have c8 : _ = some (Value.bool false) := psF.e 8 (by decide)
                have hR := refEdit_pin q0 q2 pa pn n0.1 n2.1 hpa hsn
                simp only [Ed.val, Ed.cells, fi_zero, Int.cast_ofNat_Int] at hR
                go_wp2_with fail
                refine (hR _).mono ?_
                rintro e w7 ⟨rfl, hb7⟩
                have psG := psF.below hb7
                clear c0 c1 c2 c3 c4 c5 c6 c7 c8
                have c0 : w7.cell? ⟨Eb, 0, none⟩ = some (Value.int .i64 9) := psG.e 0 (by decide)
                have c1 : w7.cell? ⟨Eb, 1, none⟩ = some (Value.int .i64 q0) := psG.e 1 (by decide)
                have c2 : w7.cell? ⟨Eb, 2, none⟩ = some (Value.int .i64 0) := psG.e 2 (by decide)
                have c3 : w7.cell? ⟨Eb, 3, none⟩ = some (Value.int .i64 q2) := psG.e 3 (by decide)
                have c4 : w7.cell? ⟨Eb, 4, none⟩ = some (Value.int .i64 0) := psG.e 4 (by decide)
                have c5 : w7.cell? ⟨Eb, 5, none⟩ = some (Value.complex .f64 0 0) := psG.e 5 (by decide)
                have c6 : w7.cell? ⟨Eb, 6, none⟩ = some (Value.int .u32 pa) := psG.e 6 (by decide)
                have c7 : w7.cell? ⟨Eb, 7, none⟩ = some (Value.int .i64 pn) := psG.e 7 (by decide)
                have c8 : w7.cell? ⟨Eb, 8, none⟩ = some (Value.bool false) := psG.e 8 (by decide)
                obtain ⟨_, p0⟩ := psG.p 0 (by decide)
                obtain ⟨_, p1⟩ := psG.p 1 (by decide)
                obtain ⟨_, p2⟩ := psG.p 2 (by decide)
                obtain ⟨_, p3⟩ := psG.p 3 (by decide)
                obtain ⟨_, p4⟩ := psG.p 4 (by decide)
                obtain ⟨_, p5⟩ := psG.p 5 (by decide)
                obtain ⟨_, p6⟩ := psG.p 6 (by decide)
                obtain ⟨_, p7⟩ := psG.p 7 (by decide)
                obtain ⟨_, p8⟩ := psG.p 8 (by decide)
                have pf := psG.pf
                by_cases hts : joinA 32 [W 9, itoa q0, pfxL pa pn, itoa q2] = s.data.toList
                · have tt := cmp_t hts
                  have hge : GE (first :: rest) ⟨9, q0, 0, q2, 0, 0, 0, pa, pn, false⟩ := by
                    have hG : GE [W 9, itoa q0, pfxL pa pn, itoa q2] ⟨9, q0, 0, q2, 0, 0, 0, pa, pn, false⟩ := GE.pin q0 q2 pa pn n0.1 n2.1 hpa hsn
                    rw [← HCUT.out, ← hts, hG.cut_join]
                    exact hG
                  obtain ⟨rfl, rfl⟩ := hE.unique (.inl ⟨rfl, hge⟩)
                  clear hE hge hts
                  go_wp2_with fail
                  exact close11 psG rfl rfl (by first | (simp only [Ed.val, Ed.cells, fi_zero]; done) | (simp only [Ed.val, Ed.cells, fi_zero]; rfl))
                · have tt := cmp_f hts
                  have hnot : ∀ e', ¬ GE (first :: rest) e' := by
                    intro e' hge
                    have hj := HJOIN.out
                    rw [← HK2.out] at hge hj
                    obtain ⟨a, c, pa', pn', hI, hr⟩ := hge.inv_pin
                    have z0 : q0 = a := n0.2 a hI.1 (by rw [hr]; rfl)
                    have z2 : q2 = c := n2.2 c hI.2.1 (by rw [hr]; rfl)
                    obtain ⟨z3, z4⟩ := hPX pa' pn' hI.2.2.1 hI.2.2.2 (by rw [hr]; rfl)
                    rw [hr] at hj
                    rw [z0, z2, z3, z4] at hts
                    exact hts hj
                  obtain ⟨rfl, rfl⟩ := hE.unique (.inr ⟨rfl, rfl, hnot⟩)
                  clear hE hnot
                  go_wp2_with fail
                  exact close11 psG rfl rfl Ed0_val
              · have hdl : decide ((rest.length : Int) + 1 > 2) = false := by simp; omega
                obtain ⟨pa, hpa0⟩ : ∃ pa : Nat, pa = 0 := ⟨0, rfl⟩
                obtain ⟨pn, hpn0⟩ : ∃ pn : Int, pn = 0 := ⟨0, rfl⟩
                have hpa : pa < 4294967296 := by omega
                have hsn : snd pa pn = true := by rw [hpa0, hpn0]; decide
                have hPX : ∀ a' n', a' < 4294967296 → snd a' n' = true → (first :: rest)[2]? = some (pfxL a' n') → pa = a' ∧ pn = n' := fun a' n' h1 h2 h3 => by
                  rw [List.getElem?_eq_none (by simp; omega)] at h3
                  cases h3
                have s3 := psA.e 3 (by decide)
                have psF0 := psA.set 3 (.int .i64 q2)
                have psF := psF0.ext (v' := upd (upd (upd (upd (upd v0 0 (.int .i64 (9 : Nat))) 1 (.int .i64 q0)) 3 (.int .i64 q2)) 6 (.int .u32 pa)) 7 (.int .i64 pn)) (fun j _ => by
                  unfold upd
                  by_cases h7 : j = 7
                  · subst h7; rw [hpn0]; rfl
                  · rw [if_neg h7]
                    by_cases h6 : j = 6
                    · subst h6; rw [hpa0]; rfl
                    · rw [if_neg h6])
                clear hpa0 hpn0
                have c0 : _ = some (Value.int .i64 9) := psF.e 0 (by decide)
                have c1 : _ = some (Value.int .i64 q0) := psF.e 1 (by decide)
                have c2 : _ = some (Value.int .i64 0) := psF.e 2 (by decide)
                have c3 : _ = some (Value.int .i64 q2) := psF.e 3 (by decide)
                have c4 : _ = some (Value.int .i64 0) := psF.e 4 (by decide)
                have c5 : _ = some (Value.complex .f64 0 0) := psF.e 5 (by decide)
                have c6 : _ = some (Value.int .u32 pa) := psF.e 6 (by decide)
                have c7 : _ = some (Value.int .i64 pn) := psF.e 7 (by decide)
                have c8 : _ = some (Value.bool false) := psF.e 8 (by decide)
                have hR := refEdit_pin q0 q2 pa pn n0.1 n2.1 hpa hsn
                simp only [Ed.val, Ed.cells, fi_zero, Int.cast_ofNat_Int] at hR
                go_wp2_with fail
                refine (hR _).mono ?_
                rintro e w7 ⟨rfl, hb7⟩
                have psG := psF.below hb7
                clear c0 c1 c2 c3 c4 c5 c6 c7 c8
                have c0 : w7.cell? ⟨Eb, 0, none⟩ = some (Value.int .i64 9) := psG.e 0 (by decide)
                have c1 : w7.cell? ⟨Eb, 1, none⟩ = some (Value.int .i64 q0) := psG.e 1 (by decide)
                have c2 : w7.cell? ⟨Eb, 2, none⟩ = some (Value.int .i64 0) := psG.e 2 (by decide)
                have c3 : w7.cell? ⟨Eb, 3, none⟩ = some (Value.int .i64 q2) := psG.e 3 (by decide)
                have c4 : w7.cell? ⟨Eb, 4, none⟩ = some (Value.int .i64 0) := psG.e 4 (by decide)
                have c5 : w7.cell? ⟨Eb, 5, none⟩ = some (Value.complex .f64 0 0) := psG.e 5 (by decide)
                have c6 : w7.cell? ⟨Eb, 6, none⟩ = some (Value.int .u32 pa) := psG.e 6 (by decide)
                have c7 : w7.cell? ⟨Eb, 7, none⟩ = some (Value.int .i64 pn) := psG.e 7 (by decide)
                have c8 : w7.cell? ⟨Eb, 8, none⟩ = some (Value.bool false) := psG.e 8 (by decide)
                obtain ⟨_, p0⟩ := psG.p 0 (by decide)
                obtain ⟨_, p1⟩ := psG.p 1 (by decide)
                obtain ⟨_, p2⟩ := psG.p 2 (by decide)
                obtain ⟨_, p3⟩ := psG.p 3 (by decide)
                obtain ⟨_, p4⟩ := psG.p 4 (by decide)
                obtain ⟨_, p5⟩ := psG.p 5 (by decide)
                obtain ⟨_, p6⟩ := psG.p 6 (by decide)
                obtain ⟨_, p7⟩ := psG.p 7 (by decide)
                obtain ⟨_, p8⟩ := psG.p 8 (by decide)
                have pf := psG.pf
                by_cases hts : joinA 32 [W 9, itoa q0, pfxL pa pn, itoa q2] = s.data.toList
                · have tt := cmp_t hts
                  have hge : GE (first :: rest) ⟨9, q0, 0, q2, 0, 0, 0, pa, pn, false⟩ := by
                    have hG : GE [W 9, itoa q0, pfxL pa pn, itoa q2] ⟨9, q0, 0, q2, 0, 0, 0, pa, pn, false⟩ := GE.pin q0 q2 pa pn n0.1 n2.1 hpa hsn
                    rw [← HCUT.out, ← hts, hG.cut_join]
                    exact hG
                  obtain ⟨rfl, rfl⟩ := hE.unique (.inl ⟨rfl, hge⟩)
                  clear hE hge hts
                  go_wp2_with fail
                  exact close11 psG rfl rfl (by first | (simp only [Ed.val, Ed.cells, fi_zero]; done) | (simp only [Ed.val, Ed.cells, fi_zero]; rfl))
                · have tt := cmp_f hts
                  have hnot : ∀ e', ¬ GE (first :: rest) e' := by
                    intro e' hge
                    have hj := HJOIN.out
                    rw [← HK2.out] at hge hj
                    obtain ⟨a, c, pa', pn', hI, hr⟩ := hge.inv_pin
                    have z0 : q0 = a := n0.2 a hI.1 (by rw [hr]; rfl)
                    have z2 : q2 = c := n2.2 c hI.2.1 (by rw [hr]; rfl)
                    obtain ⟨z3, z4⟩ := hPX pa' pn' hI.2.2.1 hI.2.2.2 (by rw [hr]; rfl)
                    rw [hr] at hj
                    rw [z0, z2, z3, z4] at hts
                    exact hts hj
                  obtain ⟨rfl, rfl⟩ := hE.unique (.inr ⟨rfl, rfl, hnot⟩)
                  clear hE hnot
                  go_wp2_with fail
                  exact close11 psG rfl rfl Ed0_val
            · have HK2 := Lib.hid hk2
              clear hk2
              by_cases hl2 : 1 < rest.length
              · obtain ⟨l, hl⟩ : ∃ l, (first :: rest)[2]? = some l := ⟨_, List.getElem?_eq_getElem (by simp; omega)⟩
                have dw := psA.wd 2 l hl
                have hdl : decide ((rest.length : Int) + 1 > 2) = true := by simp; omega
                obtain ⟨pa, pn, er2, hRP⟩ := RP.total l
                have hpg : pa < 4294967296 ∧ snd pa pn = true := by
                  rcases hRP with ⟨_, g2, g3, _⟩ | ⟨g1, g2, _⟩
                  · exact ⟨g3, g2⟩
                  · rw [g1, g2]; exact ⟨by decide, by decide⟩
                obtain ⟨hpa, hsn⟩ := hpg
                have hPX : ∀ a' n', a' < 4294967296 → snd a' n' = true → (first :: rest)[2]? = some (pfxL a' n') → pa = a' ∧ pn = n' := fun a' n' h1 h2 h3 => by
                  rw [hl] at h3
                  injection h3 with h3
                  have := RP.unique hRP (.inl ⟨rfl, h2, h1, h3⟩ : RP l a' n' 0)
                  exact ⟨this.1, this.2.1⟩
                have hRd := refRead_any (bs l) pa pn er2 hRP
                clear hRP
                unfold pv at hRd
                go_wp2_with fail
                refine (hRd _).mono ?_
                rintro e w6 ⟨rfl, hb6⟩
                have psB := psA.below hb6
                have s6 := psB.e 6 (by decide)
                have s7 := psB.e 7 (by decide)
                have s3 := psB.e 3 (by decide)
                have sf := psB.ef
                have y2 := (hb6.cell (World.block_lt_of_cell? _ _ x2)).trans x2
                have psC := (psB.set 6 (.int .u32 pa)).set 7 (.int .i64 pn)
                have s0 : ((w6.setCell ⟨Eb, 6, none⟩ (.int .u32 pa)).setCell ⟨Eb, 7, none⟩ (.int .i64 pn)).cell? ⟨Eb, 0, none⟩ = some (.int .i64 10) := psC.e 0 (by decide)
                have psF := psC
                have c0 : _ = some (Value.int .i64 10) := psF.e 0 (by decide)
                have c1 : _ = some (Value.int .i64 q0) := psF.e 1 (by decide)
                have c2 : _ = some (Value.int .i64 0) := psF.e 2 (by decide)
                have c3 : _ = some (Value.int .i64 0) := psF.e 3 (by decide)
                have c4 : _ = some (Value.int .i64 0) := psF.e 4 (by decide)
                have c5 : _ = some (Value.complex .f64 0 0) := psF.e 5 (by decide)
                have c6 : _ = some (Value.int .u32 pa) := psF.e 6 (by decide)
                have c7 : _ = some (Value.int .i64 pn) := psF.e 7 (by decide)
                have c8 : _ = some (Value.bool false) := psF.e 8 (by decide)
                have hR := refEdit_unpin q0 pa pn n0.1 hpa hsn
                simp only [Ed.val, Ed.cells, fi_zero, Int.cast_ofNat_Int] at hR
                go_wp2_with fail
                refine (hR _).mono ?_
                rintro e w7 ⟨rfl, hb7⟩
                have psG := psF.below hb7
                clear c0 c1 c2 c3 c4 c5 c6 c7 c8
                have c0 : w7.cell? ⟨Eb, 0, none⟩ = some (Value.int .i64 10) := psG.e 0 (by decide)
                have c1 : w7.cell? ⟨Eb, 1, none⟩ = some (Value.int .i64 q0) := psG.e 1 (by decide)
                have c2 : w7.cell? ⟨Eb, 2, none⟩ = some (Value.int .i64 0) := psG.e 2 (by decide)
                have c3 : w7.cell? ⟨Eb, 3, none⟩ = some (Value.int .i64 0) := psG.e 3 (by decide)
                have c4 : w7.cell? ⟨Eb, 4, none⟩ = some (Value.int .i64 0) := psG.e 4 (by decide)
                have c5 : w7.cell? ⟨Eb, 5, none⟩ = some (Value.complex .f64 0 0) := psG.e 5 (by decide)
                have c6 : w7.cell? ⟨Eb, 6, none⟩ = some (Value.int .u32 pa) := psG.e 6 (by decide)
                have c7 : w7.cell? ⟨Eb, 7, none⟩ = some (Value.int .i64 pn) := psG.e 7 (by decide)
                have c8 : w7.cell? ⟨Eb, 8, none⟩ = some (Value.bool false) := psG.e 8 (by decide)
                obtain ⟨_, p0⟩ := psG.p 0 (by decide)
                obtain ⟨_, p1⟩ := psG.p 1 (by decide)
                obtain ⟨_, p2⟩ := psG.p 2 (by decide)
                obtain ⟨_, p3⟩ := psG.p 3 (by decide)
                obtain ⟨_, p4⟩ := psG.p 4 (by decide)
                obtain ⟨_, p5⟩ := psG.p 5 (by decide)
                obtain ⟨_, p6⟩ := psG.p 6 (by decide)
                obtain ⟨_, p7⟩ := psG.p 7 (by decide)
                obtain ⟨_, p8⟩ := psG.p 8 (by decide)
                have pf := psG.pf
                by_cases hts : joinA 32 [W 10, itoa q0, pfxL pa pn] = s.data.toList
                · have tt := cmp_t hts
                  have hge : GE (first :: rest) ⟨10, q0, 0, 0, 0, 0, 0, pa, pn, false⟩ := by
                    have hG : GE [W 10, itoa q0, pfxL pa pn] ⟨10, q0, 0, 0, 0, 0, 0, pa, pn, false⟩ := GE.unpin q0 pa pn n0.1 hpa hsn
                    rw [← HCUT.out, ← hts, hG.cut_join]
                    exact hG
                  obtain ⟨rfl, rfl⟩ := hE.unique (.inl ⟨rfl, hge⟩)
                  clear hE hge hts
                  go_wp2_with fail
                  exact close11 psG rfl rfl (by first | (simp only [Ed.val, Ed.cells, fi_zero]; done) | (simp only [Ed.val, Ed.cells, fi_zero]; rfl))
                · have tt := cmp_f hts
                  have hnot : ∀ e', ¬ GE (first :: rest) e' := by
                    intro e' hge
                    have hj := HJOIN.out
                    rw [← HK2.out] at hge hj
                    obtain ⟨a, pa', pn', hI, hr⟩ := hge.inv_unpin
                    have z0 : q0 = a := n0.2 a hI.1 (by rw [hr]; rfl)
                    obtain ⟨z3, z4⟩ := hPX pa' pn' hI.2.1 hI.2.2 (by rw [hr]; rfl)
                    rw [hr] at hj
                    rw [z0, z3, z4] at hts
                    exact hts hj
                  obtain ⟨rfl, rfl⟩ := hE.unique (.inr ⟨rfl, rfl, hnot⟩)
                  clear hE hnot
                  go_wp2_with fail
                  exact close11 psG rfl rfl Ed0_val
              · have hdl : decide ((rest.length : Int) + 1 > 2) = false := by simp; omega
                obtain ⟨pa, hpa0⟩ : ∃ pa : Nat, pa = 0 := ⟨0, rfl⟩
                obtain ⟨pn, hpn0⟩ : ∃ pn : Int, pn = 0 := ⟨0, rfl⟩
                have hpa : pa < 4294967296 := by omega
                have hsn : snd pa pn = true := by rw [hpa0, hpn0]; decide
                have hPX : ∀ a' n', a' < 4294967296 → snd a' n' = true → (first :: rest)[2]? = some (pfxL a' n') → pa = a' ∧ pn = n' := fun a' n' h1 h2 h3 => by
                  rw [List.getElem?_eq_none (by simp; omega)] at h3
                  cases h3
                have psF0 := psA
                have psF := psF0.ext (v' := upd (upd (upd (upd v0 0 (.int .i64 (10 : Nat))) 1 (.int .i64 q0)) 6 (.int .u32 pa)) 7 (.int .i64 pn)) (fun j _ => by
                  unfold upd
                  by_cases h7 : j = 7
                  · subst h7; rw [hpn0]; rfl
                  · rw [if_neg h7]
                    by_cases h6 : j = 6
                    · subst h6; rw [hpa0]; rfl
                    · rw [if_neg h6])
                clear hpa0 hpn0
                have c0 : _ = some (Value.int .i64 10) := psF.e 0 (by decide)
                have c1 : _ = some (Value.int .i64 q0) := psF.e 1 (by decide)
                have c2 : _ = some (Value.int .i64 0) := psF.e 2 (by decide)
                have c3 : _ = some (Value.int .i64 0) := psF.e 3 (by decide)
                have c4 : _ = some (Value.int .i64 0) := psF.e 4 (by decide)
                have c5 : _ = some (Value.complex .f64 0 0) := psF.e 5 (by decide)
                have c6 : _ = some (Value.int .u32 pa) := psF.e 6 (by decide)
                have c7 : _ = some (Value.int .i64 pn) := psF.e 7 (by decide)
                have c8 : _ = some (Value.bool false) := psF.e 8 (by decide)
                have hR := refEdit_unpin q0 pa pn n0.1 hpa hsn
                simp only [Ed.val, Ed.cells, fi_zero, Int.cast_ofNat_Int] at hR
                go_wp2_with fail
                refine (hR _).mono ?_
                rintro e w7 ⟨rfl, hb7⟩
                have psG := psF.below hb7
                clear c0 c1 c2 c3 c4 c5 c6 c7 c8
                have c0 : w7.cell? ⟨Eb, 0, none⟩ = some (Value.int .i64 10) := psG.e 0 (by decide)
                have c1 : w7.cell? ⟨Eb, 1, none⟩ = some (Value.int .i64 q0) := psG.e 1 (by decide)
                have c2 : w7.cell? ⟨Eb, 2, none⟩ = some (Value.int .i64 0) := psG.e 2 (by decide)
                have c3 : w7.cell? ⟨Eb, 3, none⟩ = some (Value.int .i64 0) := psG.e 3 (by decide)
                have c4 : w7.cell? ⟨Eb, 4, none⟩ = some (Value.int .i64 0) := psG.e 4 (by decide)
                have c5 : w7.cell? ⟨Eb, 5, none⟩ = some (Value.complex .f64 0 0) := psG.e 5 (by decide)
                have c6 : w7.cell? ⟨Eb, 6, none⟩ = some (Value.int .u32 pa) := psG.e 6 (by decide)
                have c7 : w7.cell? ⟨Eb, 7, none⟩ = some (Value.int .i64 pn) := psG.e 7 (by decide)
                have c8 : w7.cell? ⟨Eb, 8, none⟩ = some (Value.bool false) := psG.e 8 (by decide)
                obtain ⟨_, p0⟩ := psG.p 0 (by decide)
                obtain ⟨_, p1⟩ := psG.p 1 (by decide)
                obtain ⟨_, p2⟩ := psG.p 2 (by decide)
                obtain ⟨_, p3⟩ := psG.p 3 (by decide)
                obtain ⟨_, p4⟩ := psG.p 4 (by decide)
                obtain ⟨_, p5⟩ := psG.p 5 (by decide)
                obtain ⟨_, p6⟩ := psG.p 6 (by decide)
                obtain ⟨_, p7⟩ := psG.p 7 (by decide)
                obtain ⟨_, p8⟩ := psG.p 8 (by decide)
                have pf := psG.pf
                by_cases hts : joinA 32 [W 10, itoa q0, pfxL pa pn] = s.data.toList
                · have tt := cmp_t hts
                  have hge : GE (first :: rest) ⟨10, q0, 0, 0, 0, 0, 0, pa, pn, false⟩ := by
                    have hG : GE [W 10, itoa q0, pfxL pa pn] ⟨10, q0, 0, 0, 0, 0, 0, pa, pn, false⟩ := GE.unpin q0 pa pn n0.1 hpa hsn
                    rw [← HCUT.out, ← hts, hG.cut_join]
                    exact hG
                  obtain ⟨rfl, rfl⟩ := hE.unique (.inl ⟨rfl, hge⟩)
                  clear hE hge hts
                  go_wp2_with fail
                  exact close11 psG rfl rfl (by first | (simp only [Ed.val, Ed.cells, fi_zero]; done) | (simp only [Ed.val, Ed.cells, fi_zero]; rfl))
                · have tt := cmp_f hts
                  have hnot : ∀ e', ¬ GE (first :: rest) e' := by
                    intro e' hge
                    have hj := HJOIN.out
                    rw [← HK2.out] at hge hj
                    obtain ⟨a, pa', pn', hI, hr⟩ := hge.inv_unpin
                    have z0 : q0 = a := n0.2 a hI.1 (by rw [hr]; rfl)
                    obtain ⟨z3, z4⟩ := hPX pa' pn' hI.2.1 hI.2.2 (by rw [hr]; rfl)
                    rw [hr] at hj
                    rw [z0, z3, z4] at hts
                    exact hts hj
                  obtain ⟨rfl, rfl⟩ := hE.unique (.inr ⟨rfl, rfl, hnot⟩)
                  clear hE hnot
                  go_wp2_with fail
                  exact close11 psG rfl rfl Ed0_val
end Go.Proofs.YtcociflljbaicaaDoor
