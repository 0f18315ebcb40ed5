/- The law InternPlays: a case of its round. -/
import Derived.Test.YtbbiakpieakfoaaX0
namespace Go.Proofs.Ytbbiakpieakfoaa
open Go.RowKit

set_option maxHeartbeats 40000000 in
set_option maxRecDepth 1000000 in
theorem play_6 (os : List OpD) (w wr : World) (B3 B4 : Nat) (a : Option Addr) (cap : Nat) (c1 c18 c19 c20 c21 c22 c23 c24 c25 c206 c207 c208 c209 c210 c211 c212 c213 c214 c215 c216 c217 c218 c219 c220 c221 c222 c223 u2 u6 u7 u8 u9 u10 u11 u12 u13 u14 u15 u16 u17 u26 u27 u28 u29 u30 u31 u32 u33 u34 u35 u36 u37 u38 u39 u40 u41 u42 u43 u44 u45 u46 u47 u48 u49 u50 u51 u52 u53 u54 u55 u56 u57 u58 u59 u60 u61 u62 u63 u64 u65 u66 u67 u68 u69 u70 u71 u72 u73 u74 u75 u76 u77 u78 u79 u80 u81 u82 u83 u84 u85 u86 u87 u88 u89 u90 u91 u92 u93 u94 u95 u96 u97 u98 u99 u100 u101 u102 u103 u104 u105 u106 u107 u108 u109 u110 u111 u112 u113 u114 u115 u116 u117 u118 u119 u120 u121 u122 u123 u124 u125 u126 u127 u128 u129 u130 u131 u132 u133 u134 u135 u136 u137 u138 u139 u140 u141 u142 u143 u144 u145 u146 u147 u148 u149 u150 u151 u152 u153 u154 u155 u156 u157 u158 u159 u160 u161 u162 u163 u164 u165 u166 u167 u168 u169 u170 u171 u172 u173 u174 u175 u176 u177 u178 u179 u180 u181 u182 u183 u184 u185 u186 u187 u188 u189 u190 u191 u192 u193 u194 u195 u196 u197 u198 u199 u200 u201 u202 u203 u204 u205 : Value) (Q0 : Exit → Act → World → Prop) (hm : os.length ≤ 9223372036854775807)
    (hc : SlR w 6 (.slice a os.length cap) os.length (os.flatMap oc)) (i : Nat) (T M g G : Nat → Nat) (L : Nat → List Bt) (v : Nat → Value) (hS : St w wr B3 B4 T M g G L L v) (hlt : i < os.length) (o : OpD) (ho : os[i] = o) (h1 : ¬ o.kind = 1) (h3 : ¬ o.kind = 3) (h4 : ¬ o.kind = 4) (h2 : ¬ o.kind = 2) (h5 : ¬ o.kind = 5) (hK : Veil (o.kind = 6)) :
    Code.wp Try.prog body (Exit.then (fun a' w'' => WI os.length w B3 B4 a cap c1 c18 c19 c20 c21 c22 c23 c24 c25 c206 c207 c208 c209 c210 c211 c212 c213 c214 c215 c216 c217 c218 c219 c220 c221 c222 c223 a' w'' ∧ Wmu os.length a' w'' < Wmu os.length ⟨#[.slice a os.length cap, c1, u2, .pointer (some ⟨B3, 0, none⟩), .pointer (some ⟨B4, 0, none⟩), .int .i64 i, u6, u7, u8, u9, u10, u11, u12, u13, u14, u15, u16, u17, c18, c19, c20, c21, c22, c23, c24, c25, u26, u27, u28, u29, u30, u31, u32, u33, u34, u35, u36, u37, u38, u39, u40, u41, u42, u43, u44, u45, u46, u47, u48, u49, u50, u51, u52, u53, u54, u55, u56, u57, u58, u59, u60, u61, u62, u63, u64, u65, u66, u67, u68, u69, u70, u71, u72, u73, u74, u75, u76, u77, u78, u79, u80, u81, u82, u83, u84, u85, u86, u87, u88, u89, u90, u91, u92, u93, u94, u95, u96, u97, u98, u99, u100, u101, u102, u103, u104, u105, u106, u107, u108, u109, u110, u111, u112, u113, u114, u115, u116, u117, u118, u119, u120, u121, u122, u123, u124, u125, u126, u127, u128, u129, u130, u131, u132, u133, u134, u135, u136, u137, u138, u139, u140, u141, u142, u143, u144, u145, u146, u147, u148, u149, u150, u151, u152, u153, u154, u155, u156, u157, u158, u159, u160, u161, u162, u163, u164, u165, u166, u167, u168, u169, u170, u171, u172, u173, u174, u175, u176, u177, u178, u179, u180, u181, u182, u183, u184, u185, u186, u187, u188, u189, u190, u191, u192, u193, u194, u195, u196, u197, u198, u199, u200, u201, u202, u203, u204, u205, c206, c207, c208, c209, c210, c211, c212, c213, c214, c215, c216, c217, c218, c219, c220, c221, c222, c223], []⟩ wr) (NoPanic Q0)) ⟨#[.slice a os.length cap, c1, u2, .pointer (some ⟨B3, 0, none⟩), .pointer (some ⟨B4, 0, none⟩), .int .i64 i, u6, u7, u8, u9, u10, u11, u12, u13, u14, u15, u16, u17, c18, c19, c20, c21, c22, c23, c24, c25, u26, u27, u28, u29, u30, u31, u32, u33, u34, u35, u36, u37, u38, u39, u40, u41, u42, u43, u44, u45, u46, u47, u48, u49, u50, u51, u52, u53, u54, u55, u56, u57, u58, u59, u60, u61, u62, u63, u64, u65, u66, u67, u68, u69, u70, u71, u72, u73, u74, u75, u76, u77, u78, u79, u80, u81, u82, u83, u84, u85, u86, u87, u88, u89, u90, u91, u92, u93, u94, u95, u96, u97, u98, u99, u100, u101, u102, u103, u104, u105, u106, u107, u108, u109, u110, u111, u112, u113, u114, u115, u116, u117, u118, u119, u120, u121, u122, u123, u124, u125, u126, u127, u128, u129, u130, u131, u132, u133, u134, u135, u136, u137, u138, u139, u140, u141, u142, u143, u144, u145, u146, u147, u148, u149, u150, u151, u152, u153, u154, u155, u156, u157, u158, u159, u160, u161, u162, u163, u164, u165, u166, u167, u168, u169, u170, u171, u172, u173, u174, u175, u176, u177, u178, u179, u180, u181, u182, u183, u184, u185, u186, u187, u188, u189, u190, u191, u192, u193, u194, u195, u196, u197, u198, u199, u200, u201, u202, u203, u204, u205, c206, c207, c208, c209, c210, c211, c212, c213, c214, c215, c216, c217, c218, c219, c220, c221, c222, c223], []⟩ wr := by
  conv => arg 2; whnf
  obtain ⟨b, off, rfl, hcell⟩ := op_at (hc.below hS.b) i hlt
  have e0 := hcell 0 (by omega)
  have e1 := hcell 1 (by omega)
  have e2 := hcell 2 (by omega)
  have e3 := hcell 3 (by omega)
  have e4 := hcell 4 (by omega)
  have e5 := hcell 5 (by omega)
  clear hcell
  rw [ho] at e0 e1 e2 e3 e4 e5
  simp only [oc, Nat.add_zero] at e0 e1 e2 e3 e4 e5
  clear ho
  go_wp2_with fail
  obtain ⟨W1, hW1⟩ : ∃ W1, W1 = wr.alloc (.cells #[.int .i64 o.kind, .int .i64 o.on, .int .u64 (u o.s.1), .int .u64 (u o.s.2), .int .i64 o.a, .int .i64 o.b] 45) := ⟨_, rfl⟩
  obtain ⟨B6, hB6⟩ : ∃ B6, B6 = wr.heap.size := ⟨_, rfl⟩
  have hO : OpB W1 B6 o := by rw [hW1, hB6]; exact OpB.new wr o
  have hS1 : St w W1 B3 B4 T M g G L L v := by rw [hW1]; exact hS.alloc _
  have lB6 : w.heap.size ≤ B6 := by rw [hB6]; exact hS.b.size
  have aB6 : Veil (B6 ≠ B3 ∧ B6 ≠ B4 ∧ ∀ k, k < 2 → B6 ≠ T k ∧ B6 ≠ M k ∧ B6 ≠ g k) := ⟨by rw [hB6]; exact hS.fresh⟩
  rw [← hW1, ← hB6]
  clear hS e0 e1 e2 e3 e4 e5
  clear hW1 hB6
  obtain ⟨k, hk, hkk⟩ : ∃ k : Nat, k < 2 ∧ o.on % 2 = (k : Int) := ⟨(o.on % 2).toNat, by omega, by omega⟩
  refine (rest_any o.on 2 W1 (by omega) (by omega)).mono ?_
  rintro e W1' ⟨rfl, rfl⟩
  rw [hkk]
  clear hkk
  have hk0 : (0 : Int) ≤ (k : Int) := Int.natCast_nonneg _
  have hk1 : (k : Int) < 2 := by omega
  have h6 := hK.out
  obtain ⟨p0, p1, p2, p3, p4, p5⟩ := id hO
  rw [h6] at p0
  have hm0 : 0 ≤ o.a % 1100 := Int.emod_nonneg _ (by decide)
  have hm1 : o.a % 1100 < 1100 := Int.emod_lt_of_pos _ (by decide)
  obtain ⟨N, hN⟩ : ∃ N : Nat, o.a % 1100 = (N : Int) := ⟨(o.a % 1100).toNat, by omega⟩
  have hN1 : N < 1100 := by omega
  have cN := fun W => rest_any o.a 1100 W (by omega) (by omega)
  rw [hN] at cN
  clear hm0 hm1
  go_wp2_with fail
  go_loopw [8, 9, 10, 11, 16] (fun ta tb te tf tj wr => ∃ (j aa ee : Nat) (T M g G : Nat → Nat) (L : Nat → List Bt) (v : Nat → Value), j ≤ N ∧ ta = .int .i64 aa ∧ tb = .int .i64 aa ∧ te = .int .i64 ee ∧ tf = .int .i64 ee ∧ tj = .int .i64 j ∧ St w wr B3 B4 T M g G L L v ∧ OpB wr B6 o ∧ Veil (B6 ≠ B3 ∧ B6 ≠ B4 ∧ ∀ k, k < 2 → B6 ≠ T k ∧ B6 ≠ M k ∧ B6 ≠ g k)) (fun _ _ _ _ tj _ => N - (intOf tj).toNat)
  case atStart => exact ⟨0, 0, 0, T, M, g, G, L, v, Nat.zero_le _, rfl, rfl, rfl, rfl, rfl, hS1, hO, aB6⟩
  case round =>
    clear p0 p1 p2 p3 p4 p5 hS1 hO aB6
    obtain ⟨j, aa, ee, T, M, g, G, L, v, hj, rfl, rfl, rfl, rfl, rfl, hS1, hO, aB6⟩ := hrel
    obtain ⟨p0, p1, p2, p3, p4, p5⟩ := id hO
    by_cases hjn : j < N
    · obtain ⟨y, hy⟩ : ∃ y : UInt64, IntKind.u64.wrap (u o.s.1 + (j : Int)) = u y := sum_word _ _
      go_wp2_with (go_at_call 14; refine (cN _).mono ?_; rintro e w' ⟨rfl, rfl⟩)
      obtain ⟨s, hs1, hs2⟩ : ∃ s : Bt, u y = u s.1 ∧ u o.s.2 = u s.2 := ⟨(y, o.s.2), rfl, rfl⟩
      obtain ⟨W2, hW2⟩ : ∃ W2, W2 = wr.alloc (.cells #[.int .u64 (u y), .int .u64 (u o.s.2)] 24) := ⟨_, rfl⟩
      obtain ⟨B7, hB7⟩ : ∃ B7, B7 = wr.heap.size := ⟨_, rfl⟩
      have hA : Port.Arr W2 B7 s := by rw [hW2, hB7, hs1, hs2]; exact Port.Arr.new wr s
      have hS2 : St w W2 B3 B4 T M g G L L v := by rw [hW2]; exact hS1.alloc _
      have hO2 : OpB W2 B6 o := by rw [hW2]; exact hO.below ((Below.refl _ _).alloc (Nat.le_refl _) _)
      have aB7 : Veil (B7 ≠ B3 ∧ B7 ≠ B4 ∧ ∀ k, k < 2 → B7 ≠ T k ∧ B7 ≠ M k ∧ B7 ≠ g k) := ⟨by rw [hB7]; exact hS1.fresh⟩
      rw [← hW2, ← hB7]
      clear hW2 hB7 hs1 hs2 hy hS1 hO p0 p1 p2 p3 p4 p5
      obtain ⟨m0, m1, _, _⟩ := id hA
      have q3 := hS2.c3 k hk
      go_region_held3 (fun w' => w'.cell? ⟨B3, k, none⟩ = some (.pointer (some ⟨T k, 0, none⟩)) ∧ w'.cell? ⟨B7, 0, none⟩ = some (.int .u64 (u s.1)) ∧ w'.cell? ⟨B7, 1, none⟩ = some (.int .u64 (u s.2))) ((first | exact ⟨q3, m0, m1⟩ | assumption | exact step_keep4 (by assumption) hK1 aB7 hS2 hk))
        ((go_at_call 9; refine (ID_any s (T k) (M k) (g k) (L k) _ ((hS2.drew).tab k hk)).mono ?_; rintro e w3 ⟨rfl, g', ht1, hK1, hg1⟩))
      obtain ⟨R, hR⟩ : ∃ R, Veil (idRes s (L k) = R) := ⟨_, ⟨rfl⟩⟩
      have hSl : Veil (0 < R.2.2.length ∧ R.2.2.length ≤ 1024) := ⟨hR.out ▸ idRes_len _ _ (hS2.len k hk)⟩
      rw [hR.out] at ht1 ⊢
      have hS3 := (hS2.drew).tabStep hk ht1 hK1 hg1 hSl.out
      have hO3 : OpB w3 B6 o := (show OpB W2.drew B6 o from hO2.below (below_drewN (Below.refl _ _) 1)).keep hK1 (by have h9 := aB6.out.2.2 k hk; rintro (h | h | h); exact h9.1 h; exact h9.2.1 h; exact h9.2.2 h)
      have hA3 : Port.Arr w3 B7 s := (show Port.Arr W2.drew B7 s from hA).keep hK1 (by have h9 := aB7.out.2.2 k hk; rintro (h | h | h); exact h9.1 h; exact h9.2.1 h; exact h9.2.2 h)
      have aB6' := far_step hO2 aB6 hg1 k rfl hk
      have hrk := hS3.ref k hk
      have c4k := hS3.c4 k hk
      have f4k := hS3.f4 k hk
      obtain ⟨cpk, hvk, _⟩ := id hrk
      rw [hvk] at c4k hrk
      have hlk := hS2.lenR k hk
      clear m0 m1 q3 hO2 hA
      obtain ⟨m0, m1, _, _⟩ := id hA3
      go_wp2_with fail
      go_region_law ((go_simp; go_at_call 15; refine (refID_any _ (G k) s (L k) _ (hrk.below (below_drewN (Below.refl _ _) 1)) hlk.2 hlk.1).mono ?_; rintro e w6 ⟨v', G', rfl, ht', hb6, hG'⟩; rw [hR.out] at ht' ⊢; obtain ⟨cap', rfl, _⟩ := id ht'; have hS5 := hS3.drew.below hb6; have c4' := hS5.c4 k hk; rw [hvk] at c4'; have f4' := hS5.f4 k hk))
      all_goals
        have hS4 := hS3.drew.refStep hk ht' hb6 (plays_G hk hG') hSl.out
        have hO4 := hO3.below ((below_drewN (Below.refl _ _) 1).trans hb6)
        have hO5 := hO4.keep ((Keep.refl (fun b => b = B4) w6).setCell ⟨B4, k, none⟩ (.slice (some ⟨G', 0, none⟩) R.2.2.length cap') (.inl rfl)) aB6.out.2.1
        clear hS2 hS3 hS5 c4' f4' c4k f4k ht' hb6 m0 m1 hrk hO3 hO4 hA3
        go_wp2
        go_roundw
        case rel => exact ⟨j + 1, _, _, _, _, _, _, _, _, by omega, rfl, rfl, rfl, rfl, by go_num, hS4, hO5, aB6'⟩
        case measure => simp [intOf]; omega
    · go_wp2_with (go_at_call 14; refine (cN _).mono ?_; rintro e w' ⟨rfl, rfl⟩)
      unfold WI Wmu
      refine ⟨?_, by simp [intOf]; omega⟩
      refine ⟨_, _, _, _, _, _, _, _, _, _, _, _, _, _, _, _, _, _, _, _, _, _, _, _, _, _, _, _, _, _, _, _, _, _, _, _, _, _, _, _, _, _, _, _, _, _, _, _, _, _, _, _, _, _, _, _, _, _, _, _, _, _, _, _, _, _, _, _, _, _, _, _, _, _, _, _, _, _, _, _, _, _, _, _, _, _, _, _, _, _, _, _, _, _, _, _, _, _, _, _, _, _, _, _, _, _, _, _, _, _, _, _, _, _, _, _, _, _, _, _, _, _, _, _, _, _, _, _, _, _, _, _, _, _, _, _, _, _, _, _, _, _, _, _, _, _, _, _, _, _, _, _, _, _, _, _, _, _, _, _, _, _, _, _, _, _, _, _, _, _, _, _, _, _, _, _, _, _, _, _, _, _, _, _, _, _, _, _, _, _, _, _, _, _, ?_, rfl⟩
      exact ⟨i + 1, _, _, _, _, _, _, by omega, by go_num, hS1⟩
end Go.Proofs.Ytbbiakpieakfoaa
