/- The law InternUnions: the walk. -/
import Derived.Test.YtbbiakpieakfoaaC
namespace Go.Proofs.Ytbbiakpieakfoaa
open Go.RowKit

theorem eq_bt (a b : Bt) (w : World) : (Op.equalIn 10000 24 (bv a) (bv b)).run Try.prog w = .ok (a == b) w := by
  obtain ⟨i, hi⟩ := Option.isSome_iff_exists.1 has22
  exact run_equalIn_bt Try.underlying24 Try.underlying22 hi cells22 a b 9998 w

theorem eq_bt4 (x1 x2 y1 y2 : UInt64) (w : World) : (Op.equalIn 10000 24 (.agg #[.int .u64 (u x1), .int .u64 (u x2)]) (.agg #[.int .u64 (u y1), .int .u64 (u y2)])).run Try.prog w = .ok ((x1, x2) == (y1, y2)) w :=
  eq_bt (x1, x2) (y1, y2) w

/-- The three boxes that hold the law's arguments. -/
structure Boxes (w : World) (k : Nat) (a b c : Bt) : Prop where
  a0 : w.cell? ⟨k, 0, none⟩ = some (.int .u64 (u a.1))
  a1 : w.cell? ⟨k, 1, none⟩ = some (.int .u64 (u a.2))
  b0 : w.cell? ⟨k + 1, 0, none⟩ = some (.int .u64 (u b.1))
  b1 : w.cell? ⟨k + 1, 1, none⟩ = some (.int .u64 (u b.2))
  c0 : w.cell? ⟨k + 1 + 1, 0, none⟩ = some (.int .u64 (u c.1))
  c1 : w.cell? ⟨k + 1 + 1, 1, none⟩ = some (.int .u64 (u c.2))
theorem Boxes.below {w w' : World} {k B : Nat} {a b c : Bt} (h : Boxes w k a b c) (hb : Below B w w') (hk : k + 1 + 1 < B) : Boxes w' k a b c :=
  ⟨(hb.cell (p := ⟨k, 0, none⟩) (show k < B by omega)).trans h.a0, (hb.cell (p := ⟨k, 1, none⟩) (show k < B by omega)).trans h.a1, (hb.cell (p := ⟨k + 1, 0, none⟩) (show k + 1 < B by omega)).trans h.b0,
    (hb.cell (p := ⟨k + 1, 1, none⟩) (show k + 1 < B by omega)).trans h.b1, (hb.cell (p := ⟨k + 1 + 1, 0, none⟩) (show k + 1 + 1 < B by omega)).trans h.c0, (hb.cell (p := ⟨k + 1 + 1, 1, none⟩) (show k + 1 + 1 < B by omega)).trans h.c1⟩

theorem orB_rules (a b c : Bt) : orB (orB b c) a = orB (orB a b) c ∧ orB a a = a ∧ orB (0, 0) b = b := by
  refine ⟨?_, ?_, ?_⟩
  · unfold orB; simp only [Prod.mk.injEq]
    exact ⟨by rw [UInt64.or_comm (b.1 ||| c.1), UInt64.or_assoc], by rw [UInt64.or_comm (b.2 ||| c.2), UInt64.or_assoc]⟩
  · unfold orB; simp
  · unfold orB; simp

theorem nodup_at {L : List Bt} (h : L.Nodup) {i j : Nat} {s : Bt} (hi : L[i]? = some s) (hj : L[j]? = some s) : i = j := by
  obtain ⟨a1, a2⟩ := List.getElem?_eq_some_iff.1 hi
  obtain ⟨b1, b2⟩ := List.getElem?_eq_some_iff.1 hj
  exact (List.getElem_inj h).1 (by rw [a2, b2])

set_option maxHeartbeats 4000000 in
set_option maxRecDepth 100000 in
theorem InternUnions_walk (a b c : Bt) (w : World) :
    Calls Try.prog 3 #[bv a, bv b, bv c] w fun e w' => e = .returned (.bool true) ∧ Below w.heap.size w w' := by
  obtain ⟨k, hk⟩ : ∃ k, k = w.heap.size := ⟨_, rfl⟩
  go_enter Try.func3, Try.ntmps3
  go_wp2_with fail
  obtain ⟨W0, hW0⟩ : ∃ W0, W0 = ((w.alloc (.cells #[.int .u64 (u a.1), .int .u64 (u a.2)] 24)).alloc (.cells #[.int .u64 (u b.1), .int .u64 (u b.2)] 24)).alloc (.cells #[.int .u64 (u c.1), .int .u64 (u c.2)] 24) := ⟨_, rfl⟩
  have hS : W0.heap.size = w.heap.size + 1 + 1 + 1 := by rw [hW0]; simp
  have hX : Boxes W0 w.heap.size a b c := by
    rw [hW0]
    constructor <;> go_simp
  have hBW : Below w.heap.size w W0 := by rw [hW0]; exact (((Below.refl _ _).alloc (Nat.le_refl _) _).alloc (by simp) _).alloc (by simp; omega) _
  rw [← hW0]
  have HW := Lib.hid hBW
  have HS := Lib.hid hS
  clear hW0 hBW hS
  obtain ⟨B, hB⟩ : ∃ B, B = w.heap.size + 1 + 1 + 1 := ⟨_, rfl⟩
  have hkB : w.heap.size + 1 + 1 < B := by omega
  have HBk := Lib.hid hB
  clear hB hk
  clear k
  refine (New_any W0).mono ?_
  rintro e w1 ⟨T, M, g, rfl, hb1, h1, gT, gM, gg⟩
  have hT : B ≤ T := by rw [HBk.out, ← HS.out]; exact gT
  have hM : B ≤ M := by rw [HBk.out, ← HS.out]; exact gM
  have G1 : TabG w1 T M B [(0, 0)] := ⟨⟨g, by rw [HBk.out, ← HS.out]; exact gg, h1⟩, by simp⟩
  have HB1 : Hid (Below B W0 w1) := hb1.mono (by rw [HBk.out, ← HS.out]; exact Nat.le_refl _)
  clear hb1 h1 gT gM gg
  go_wp2_with fail
  refine (awake_true w1).mono ?_
  rintro e w2 ⟨rfl, hb2⟩
  have hs1 : B ≤ w1.heap.size := by have := HB1.out.size; rw [HS.out, ← HBk.out] at this; exact this
  have G2 : TabG w2 T M B [(0, 0)] := by
    obtain ⟨⟨g, h1, h2⟩, h3⟩ := G1
    exact ⟨⟨g, h1, h2.below hb2⟩, h3⟩
  have HB2 : Hid (Below B W0 w2) := HB1.out.trans (hb2.mono hs1)
  have X2 := hX.below HB2.out hkB
  have hs2 : B ≤ w2.heap.size := by have := HB2.out.size; rw [HS.out, ← HBk.out] at this; exact this
  have L0 : [((0, 0) : Bt)][0]? = some (0, 0) := rfl
  have N2 : ([((0, 0) : Bt)]).length = 1 := rfl
  have P2 := Lib.hid N2
  have F2 := Lib.hid L0
  clear hb2 G1 HB1 hs1 L0 N2
  obtain ⟨q0, q1, q2, q3, q4, q5⟩ := X2
  go_wp2_with fail

  refine (ID_good a T M B [((0, 0) : Bt)] w2 G2 (by have := P2.out; omega) hs2 hT hM).mono ?_
  rintro e w3 ⟨x, L3, rfl, G3, hb3, E3⟩
  have HB3 : Hid (Below B W0 w3) := HB2.out.trans hb3
  have hs3 : B ≤ w3.heap.size := by have := hb3.size; omega
  have P3 : Hid (L3.length ≤ 2) := by have h1 := E3.out.1.2; have h2 := P2.out; exact (show L3.length ≤ 2 by omega)
  have f3_0 : Hid (L3[0]? = some (0, 0)) := E3.out.1.1 _ _ F2.out
  have f3_x : Hid (L3[x]? = some a) := E3.out.2
  have X3 := hX.below HB3.out hkB
  clear q0 q1 q2 q3 q4 q5 hb3 E3 F2 P2 G2 HB2 hs2
  obtain ⟨q0, q1, q2, q3, q4, q5⟩ := X3
  go_wp2_with fail
  refine (ID_good b T M B L3 w3 G3 (by have := P3.out; omega) hs3 hT hM).mono ?_
  rintro e w4 ⟨y, L4, rfl, G4, hb4, E4⟩
  have HB4 : Hid (Below B W0 w4) := HB3.out.trans hb4
  have hs4 : B ≤ w4.heap.size := by have := hb4.size; omega
  have P4 : Hid (L4.length ≤ 3) := by have h1 := E4.out.1.2; have h2 := P3.out; exact (show L4.length ≤ 3 by omega)
  have f4_0 : Hid (L4[0]? = some (0, 0)) := E4.out.1.1 _ _ f3_0.out
  have f4_x : Hid (L4[x]? = some a) := E4.out.1.1 _ _ f3_x.out
  have f4_y : Hid (L4[y]? = some b) := E4.out.2
  have X4 := hX.below HB4.out hkB
  clear q0 q1 q2 q3 q4 q5 hb4 E4 f3_0 f3_x P3 G3 HB3 hs3
  obtain ⟨q0, q1, q2, q3, q4, q5⟩ := X4
  go_wp2_with fail
  refine (ID_good c T M B L4 w4 G4 (by have := P4.out; omega) hs4 hT hM).mono ?_
  rintro e w5 ⟨z, L5, rfl, G5, hb5, E5⟩
  have HB5 : Hid (Below B W0 w5) := HB4.out.trans hb5
  have hs5 : B ≤ w5.heap.size := by have := hb5.size; omega
  have P5 : Hid (L5.length ≤ 4) := by have h1 := E5.out.1.2; have h2 := P4.out; exact (show L5.length ≤ 4 by omega)
  have f5_0 : Hid (L5[0]? = some (0, 0)) := E5.out.1.1 _ _ f4_0.out
  have f5_x : Hid (L5[x]? = some a) := E5.out.1.1 _ _ f4_x.out
  have f5_y : Hid (L5[y]? = some b) := E5.out.1.1 _ _ f4_y.out
  have f5_z : Hid (L5[z]? = some c) := E5.out.2
  have X5 := hX.below HB5.out hkB
  clear q0 q1 q2 q3 q4 q5 hb5 E5 f4_0 f4_x f4_y P4 G4 HB4 hs4
  obtain ⟨q0, q1, q2, q3, q4, q5⟩ := X5
  go_wp2_with fail
  refine (Union_good a b T M B x y L5 w5 G5 (by have := P5.out; omega) hs5 hT hM f5_x.out f5_y.out).mono ?_
  rintro e w6 ⟨xy, L6, rfl, G6, hb6, E6⟩
  have HB6 : Hid (Below B W0 w6) := HB5.out.trans hb6
  have hs6 : B ≤ w6.heap.size := by have := hb6.size; omega
  have P6 : Hid (L6.length ≤ 5) := by have h1 := E6.out.1.2; have h2 := P5.out; exact (show L6.length ≤ 5 by omega)
  have f6_0 : Hid (L6[0]? = some (0, 0)) := E6.out.1.1 _ _ f5_0.out
  have f6_x : Hid (L6[x]? = some a) := E6.out.1.1 _ _ f5_x.out
  have f6_y : Hid (L6[y]? = some b) := E6.out.1.1 _ _ f5_y.out
  have f6_z : Hid (L6[z]? = some c) := E6.out.1.1 _ _ f5_z.out
  have f6_xy : Hid (L6[xy]? = some (orB a b)) := E6.out.2
  have X6 := hX.below HB6.out hkB
  clear q0 q1 q2 q3 q4 q5 hb6 E6 f5_0 f5_x f5_y f5_z P5 G5 HB5 hs5
  obtain ⟨q0, q1, q2, q3, q4, q5⟩ := X6
  go_wp2_with fail
  refine (Union_good (orB a b) c T M B xy z L6 w6 G6 (by have := P6.out; omega) hs6 hT hM f6_xy.out f6_z.out).mono ?_
  rintro e w7 ⟨l, L7, rfl, G7, hb7, E7⟩
  have HB7 : Hid (Below B W0 w7) := HB6.out.trans hb7
  have hs7 : B ≤ w7.heap.size := by have := hb7.size; omega
  have P7 : Hid (L7.length ≤ 6) := by have h1 := E7.out.1.2; have h2 := P6.out; exact (show L7.length ≤ 6 by omega)
  have f7_0 : Hid (L7[0]? = some (0, 0)) := E7.out.1.1 _ _ f6_0.out
  have f7_x : Hid (L7[x]? = some a) := E7.out.1.1 _ _ f6_x.out
  have f7_y : Hid (L7[y]? = some b) := E7.out.1.1 _ _ f6_y.out
  have f7_z : Hid (L7[z]? = some c) := E7.out.1.1 _ _ f6_z.out
  have f7_xy : Hid (L7[xy]? = some (orB a b)) := E7.out.1.1 _ _ f6_xy.out
  have f7_l : Hid (L7[l]? = some (orB (orB a b) c)) := E7.out.2
  have X7 := hX.below HB7.out hkB
  clear q0 q1 q2 q3 q4 q5 hb7 E7 f6_0 f6_x f6_xy f6_y f6_z P6 G6 HB6 hs6
  obtain ⟨q0, q1, q2, q3, q4, q5⟩ := X7
  go_wp2_with fail
  refine (Union_good b c T M B y z L7 w7 G7 (by have := P7.out; omega) hs7 hT hM f7_y.out f7_z.out).mono ?_
  rintro e w8 ⟨yz, L8, rfl, G8, hb8, E8⟩
  have HB8 : Hid (Below B W0 w8) := HB7.out.trans hb8
  have hs8 : B ≤ w8.heap.size := by have := hb8.size; omega
  have P8 : Hid (L8.length ≤ 7) := by have h1 := E8.out.1.2; have h2 := P7.out; exact (show L8.length ≤ 7 by omega)
  have f8_0 : Hid (L8[0]? = some (0, 0)) := E8.out.1.1 _ _ f7_0.out
  have f8_x : Hid (L8[x]? = some a) := E8.out.1.1 _ _ f7_x.out
  have f8_y : Hid (L8[y]? = some b) := E8.out.1.1 _ _ f7_y.out
  have f8_z : Hid (L8[z]? = some c) := E8.out.1.1 _ _ f7_z.out
  have f8_xy : Hid (L8[xy]? = some (orB a b)) := E8.out.1.1 _ _ f7_xy.out
  have f8_l : Hid (L8[l]? = some (orB (orB a b) c)) := E8.out.1.1 _ _ f7_l.out
  have f8_yz : Hid (L8[yz]? = some (orB b c)) := E8.out.2
  have X8 := hX.below HB8.out hkB
  clear q0 q1 q2 q3 q4 q5 hb8 E8 f7_0 f7_l f7_x f7_xy f7_y f7_z P7 G7 HB7 hs7
  obtain ⟨q0, q1, q2, q3, q4, q5⟩ := X8
  go_wp2_with fail
  refine (Union_good (orB b c) a T M B yz x L8 w8 G8 (by have := P8.out; omega) hs8 hT hM f8_yz.out f8_x.out).mono ?_
  rintro e w9 ⟨m, L9, rfl, G9, hb9, E9⟩
  have HB9 : Hid (Below B W0 w9) := HB8.out.trans hb9
  have hs9 : B ≤ w9.heap.size := by have := hb9.size; omega
  have P9 : Hid (L9.length ≤ 8) := by have h1 := E9.out.1.2; have h2 := P8.out; exact (show L9.length ≤ 8 by omega)
  have f9_0 : Hid (L9[0]? = some (0, 0)) := E9.out.1.1 _ _ f8_0.out
  have f9_x : Hid (L9[x]? = some a) := E9.out.1.1 _ _ f8_x.out
  have f9_y : Hid (L9[y]? = some b) := E9.out.1.1 _ _ f8_y.out
  have f9_z : Hid (L9[z]? = some c) := E9.out.1.1 _ _ f8_z.out
  have f9_xy : Hid (L9[xy]? = some (orB a b)) := E9.out.1.1 _ _ f8_xy.out
  have f9_l : Hid (L9[l]? = some (orB (orB a b) c)) := E9.out.1.1 _ _ f8_l.out
  have f9_yz : Hid (L9[yz]? = some (orB b c)) := E9.out.1.1 _ _ f8_yz.out
  have f9_m : Hid (L9[m]? = some (orB (orB b c) a)) := E9.out.2
  have X9 := hX.below HB9.out hkB
  clear q0 q1 q2 q3 q4 q5 hb9 E9 f8_0 f8_l f8_x f8_xy f8_y f8_yz f8_z P8 G8 HB8 hs8
  obtain ⟨q0, q1, q2, q3, q4, q5⟩ := X9
  go_wp2_with fail
  refine (Union_good a a T M B x x L9 w9 G9 (by have := P9.out; omega) hs9 hT hM f9_x.out f9_x.out).mono ?_
  rintro e w10 ⟨n, L10, rfl, G10, hb10, E10⟩
  have HB10 : Hid (Below B W0 w10) := HB9.out.trans hb10
  have hs10 : B ≤ w10.heap.size := by have := hb10.size; omega
  have P10 : Hid (L10.length ≤ 9) := by have h1 := E10.out.1.2; have h2 := P9.out; exact (show L10.length ≤ 9 by omega)
  have f10_0 : Hid (L10[0]? = some (0, 0)) := E10.out.1.1 _ _ f9_0.out
  have f10_x : Hid (L10[x]? = some a) := E10.out.1.1 _ _ f9_x.out
  have f10_y : Hid (L10[y]? = some b) := E10.out.1.1 _ _ f9_y.out
  have f10_z : Hid (L10[z]? = some c) := E10.out.1.1 _ _ f9_z.out
  have f10_xy : Hid (L10[xy]? = some (orB a b)) := E10.out.1.1 _ _ f9_xy.out
  have f10_l : Hid (L10[l]? = some (orB (orB a b) c)) := E10.out.1.1 _ _ f9_l.out
  have f10_yz : Hid (L10[yz]? = some (orB b c)) := E10.out.1.1 _ _ f9_yz.out
  have f10_m : Hid (L10[m]? = some (orB (orB b c) a)) := E10.out.1.1 _ _ f9_m.out
  have f10_n : Hid (L10[n]? = some (orB a a)) := E10.out.2
  have X10 := hX.below HB10.out hkB
  clear q0 q1 q2 q3 q4 q5 hb10 E10 f9_0 f9_l f9_m f9_x f9_xy f9_y f9_yz f9_z P9 G9 HB9 hs9
  obtain ⟨q0, q1, q2, q3, q4, q5⟩ := X10
  go_wp2_with fail
  refine (Union_good (0, 0) b T M B 0 y L10 w10 G10 (by have := P10.out; omega) hs10 hT hM f10_0.out f10_y.out).mono ?_
  rintro e w11 ⟨o, L11, rfl, G11, hb11, E11⟩
  have HB11 : Hid (Below B W0 w11) := HB10.out.trans hb11
  have hs11 : B ≤ w11.heap.size := by have := hb11.size; omega
  have P11 : Hid (L11.length ≤ 10) := by have h1 := E11.out.1.2; have h2 := P10.out; exact (show L11.length ≤ 10 by omega)
  have f11_0 : Hid (L11[0]? = some (0, 0)) := E11.out.1.1 _ _ f10_0.out
  have f11_x : Hid (L11[x]? = some a) := E11.out.1.1 _ _ f10_x.out
  have f11_y : Hid (L11[y]? = some b) := E11.out.1.1 _ _ f10_y.out
  have f11_z : Hid (L11[z]? = some c) := E11.out.1.1 _ _ f10_z.out
  have f11_xy : Hid (L11[xy]? = some (orB a b)) := E11.out.1.1 _ _ f10_xy.out
  have f11_l : Hid (L11[l]? = some (orB (orB a b) c)) := E11.out.1.1 _ _ f10_l.out
  have f11_yz : Hid (L11[yz]? = some (orB b c)) := E11.out.1.1 _ _ f10_yz.out
  have f11_m : Hid (L11[m]? = some (orB (orB b c) a)) := E11.out.1.1 _ _ f10_m.out
  have f11_n : Hid (L11[n]? = some (orB a a)) := E11.out.1.1 _ _ f10_n.out
  have f11_o : Hid (L11[o]? = some (orB (0, 0) b)) := E11.out.2
  have X11 := hX.below HB11.out hkB
  clear q0 q1 q2 q3 q4 q5 hb11 E11 f10_0 f10_l f10_m f10_n f10_x f10_xy f10_y f10_yz f10_z P10 G10 HB10 hs10
  obtain ⟨q0, q1, q2, q3, q4, q5⟩ := X11
  go_wp2_with fail
  have R := orB_rules a b c
  have el : l = m := nodup_at G11.nodup f11_l.out (by rw [← R.1]; exact f11_m.out)
  have en : n = x := nodup_at G11.nodup f11_n.out (by rw [R.2.1]; exact f11_x.out)
  have eo : o = y := nodup_at G11.nodup f11_o.out (by rw [R.2.2]; exact f11_y.out)
  clear R
  subst el en eo
  obtain ⟨⟨g, hg, ht⟩, hd⟩ := G11
  obtain ⟨hl1, hl2⟩ := List.getElem?_eq_some_iff.1 f11_l.out
  refine (Set_in T M g l L11 w11 ht hl1).mono ?_
  rw [hl2]
  rintro e w12 ⟨rfl, hb⟩
  have HBn : Hid (Below B W0 w12) := HB11.out.trans (hb.mono hs11)
  have Xn := hX.below HBn.out hkB
  clear q0 q1 q2 q3 q4 q5
  have hbx := hb.size
  obtain ⟨q0, q1, q2, q3, q4, q5⟩ := Xn
  have z0 := fun o => (World.cell?_alloc_past (w := w12) o _ _ (World.block_lt_of_cell? _ _ q0)).trans q0
  have z1 := fun o => (World.cell?_alloc_past (w := w12) o _ _ (World.block_lt_of_cell? _ _ q1)).trans q1
  have z2 := fun o => (World.cell?_alloc_past (w := w12) o _ _ (World.block_lt_of_cell? _ _ q2)).trans q2
  have z3 := fun o => (World.cell?_alloc_past (w := w12) o _ _ (World.block_lt_of_cell? _ _ q3)).trans q3
  have z4 := fun o => (World.cell?_alloc_past (w := w12) o _ _ (World.block_lt_of_cell? _ _ q4)).trans q4
  have z5 := fun o => (World.cell?_alloc_past (w := w12) o _ _ (World.block_lt_of_cell? _ _ q5)).trans q5
  have e1 := u_or
  have e2 := eq_bt4
  have e3 : (orB (orB a b) c).1 = a.1 ||| b.1 ||| c.1 := rfl
  have e4 : (orB (orB a b) c).2 = a.2 ||| b.2 ||| c.2 := rfl
  have hbb : (bv (orB (orB a b) c)) = .agg #[.int .u64 (u (a.1 ||| b.1 ||| c.1)), .int .u64 (u (a.2 ||| b.2 ||| c.2))] := rfl
  clear hl2 hbb hb hd ht q0 q1 q2 q3 q4 q5
  go_wp2
  go_ret
  refine ⟨ret_bool (by simp), HW.out.trans ?_⟩
  exact (HBn.out.mono (by rw [HBk.out]; omega)).alloc (by have := HW.out.size; have := HBn.out.size; omega) _
end Go.Proofs.Ytbbiakpieakfoaa
