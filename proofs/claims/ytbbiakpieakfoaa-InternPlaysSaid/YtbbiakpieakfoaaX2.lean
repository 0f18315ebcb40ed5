/- The law InternPlays: a case of its round. -/
import Derived.Test.YtbbiakpieakfoaaX0
namespace Go.Proofs.Ytbbiakpieakfoaa
open Go.RowKit

set_option maxHeartbeats 40000000 in
set_option maxRecDepth 1000000 in
theorem play_3 (os : List OpD) (w wr : World) (B3 B4 : Nat) (a : Option Addr) (cap : Nat) (c1 c18 c19 c20 c21 c22 c23 c24 c25 c206 c207 c208 c209 c210 c211 c212 c213 c214 c215 c216 c217 c218 c219 c220 c221 c222 c223 u2 u6 u7 u8 u9 u10 u11 u12 u13 u14 u15 u16 u17 u26 u27 u28 u29 u30 u31 u32 u33 u34 u35 u36 u37 u38 u39 u40 u41 u42 u43 u44 u45 u46 u47 u48 u49 u50 u51 u52 u53 u54 u55 u56 u57 u58 u59 u60 u61 u62 u63 u64 u65 u66 u67 u68 u69 u70 u71 u72 u73 u74 u75 u76 u77 u78 u79 u80 u81 u82 u83 u84 u85 u86 u87 u88 u89 u90 u91 u92 u93 u94 u95 u96 u97 u98 u99 u100 u101 u102 u103 u104 u105 u106 u107 u108 u109 u110 u111 u112 u113 u114 u115 u116 u117 u118 u119 u120 u121 u122 u123 u124 u125 u126 u127 u128 u129 u130 u131 u132 u133 u134 u135 u136 u137 u138 u139 u140 u141 u142 u143 u144 u145 u146 u147 u148 u149 u150 u151 u152 u153 u154 u155 u156 u157 u158 u159 u160 u161 u162 u163 u164 u165 u166 u167 u168 u169 u170 u171 u172 u173 u174 u175 u176 u177 u178 u179 u180 u181 u182 u183 u184 u185 u186 u187 u188 u189 u190 u191 u192 u193 u194 u195 u196 u197 u198 u199 u200 u201 u202 u203 u204 u205 : Value) (Q0 : Exit → Act → World → Prop) (hm : os.length ≤ 9223372036854775807)
    (hc : SlR w 6 (.slice a os.length cap) os.length (os.flatMap oc)) (i : Nat) (T M g G : Nat → Nat) (L : Nat → List Bt) (v : Nat → Value) (hS : St w wr B3 B4 T M g G L L v) (hlt : i < os.length) (o : OpD) (ho : os[i] = o) (h1 : ¬ o.kind = 1) (hK : Veil (o.kind = 3)) :
    Code.wp Try.prog body (Exit.then (fun a' w'' => WI os.length w B3 B4 a cap c1 c18 c19 c20 c21 c22 c23 c24 c25 c206 c207 c208 c209 c210 c211 c212 c213 c214 c215 c216 c217 c218 c219 c220 c221 c222 c223 a' w'' ∧ Wmu os.length a' w'' < Wmu os.length ⟨#[.slice a os.length cap, c1, u2, .pointer (some ⟨B3, 0, none⟩), .pointer (some ⟨B4, 0, none⟩), .int .i64 i, u6, u7, u8, u9, u10, u11, u12, u13, u14, u15, u16, u17, c18, c19, c20, c21, c22, c23, c24, c25, u26, u27, u28, u29, u30, u31, u32, u33, u34, u35, u36, u37, u38, u39, u40, u41, u42, u43, u44, u45, u46, u47, u48, u49, u50, u51, u52, u53, u54, u55, u56, u57, u58, u59, u60, u61, u62, u63, u64, u65, u66, u67, u68, u69, u70, u71, u72, u73, u74, u75, u76, u77, u78, u79, u80, u81, u82, u83, u84, u85, u86, u87, u88, u89, u90, u91, u92, u93, u94, u95, u96, u97, u98, u99, u100, u101, u102, u103, u104, u105, u106, u107, u108, u109, u110, u111, u112, u113, u114, u115, u116, u117, u118, u119, u120, u121, u122, u123, u124, u125, u126, u127, u128, u129, u130, u131, u132, u133, u134, u135, u136, u137, u138, u139, u140, u141, u142, u143, u144, u145, u146, u147, u148, u149, u150, u151, u152, u153, u154, u155, u156, u157, u158, u159, u160, u161, u162, u163, u164, u165, u166, u167, u168, u169, u170, u171, u172, u173, u174, u175, u176, u177, u178, u179, u180, u181, u182, u183, u184, u185, u186, u187, u188, u189, u190, u191, u192, u193, u194, u195, u196, u197, u198, u199, u200, u201, u202, u203, u204, u205, c206, c207, c208, c209, c210, c211, c212, c213, c214, c215, c216, c217, c218, c219, c220, c221, c222, c223], []⟩ wr) (NoPanic Q0)) ⟨#[.slice a os.length cap, c1, u2, .pointer (some ⟨B3, 0, none⟩), .pointer (some ⟨B4, 0, none⟩), .int .i64 i, u6, u7, u8, u9, u10, u11, u12, u13, u14, u15, u16, u17, c18, c19, c20, c21, c22, c23, c24, c25, u26, u27, u28, u29, u30, u31, u32, u33, u34, u35, u36, u37, u38, u39, u40, u41, u42, u43, u44, u45, u46, u47, u48, u49, u50, u51, u52, u53, u54, u55, u56, u57, u58, u59, u60, u61, u62, u63, u64, u65, u66, u67, u68, u69, u70, u71, u72, u73, u74, u75, u76, u77, u78, u79, u80, u81, u82, u83, u84, u85, u86, u87, u88, u89, u90, u91, u92, u93, u94, u95, u96, u97, u98, u99, u100, u101, u102, u103, u104, u105, u106, u107, u108, u109, u110, u111, u112, u113, u114, u115, u116, u117, u118, u119, u120, u121, u122, u123, u124, u125, u126, u127, u128, u129, u130, u131, u132, u133, u134, u135, u136, u137, u138, u139, u140, u141, u142, u143, u144, u145, u146, u147, u148, u149, u150, u151, u152, u153, u154, u155, u156, u157, u158, u159, u160, u161, u162, u163, u164, u165, u166, u167, u168, u169, u170, u171, u172, u173, u174, u175, u176, u177, u178, u179, u180, u181, u182, u183, u184, u185, u186, u187, u188, u189, u190, u191, u192, u193, u194, u195, u196, u197, u198, u199, u200, u201, u202, u203, u204, u205, c206, c207, c208, c209, c210, c211, c212, c213, c214, c215, c216, c217, c218, c219, c220, c221, c222, c223], []⟩ wr := by
  conv => arg 2; whnf
  obtain ⟨b, off, rfl, hcell⟩ := op_at (hc.below hS.b) i hlt
  have e0 := hcell 0 (by omega)
  have e1 := hcell 1 (by omega)
  have e2 := hcell 2 (by omega)
  have e3 := hcell 3 (by omega)
  have e4 := hcell 4 (by omega)
  have e5 := hcell 5 (by omega)
  clear hcell
  rw [ho] at e0 e1 e2 e3 e4 e5
  simp only [oc, Nat.add_zero] at e0 e1 e2 e3 e4 e5
  clear ho
  go_wp2_with fail
  obtain ⟨W1, hW1⟩ : ∃ W1, W1 = wr.alloc (.cells #[.int .i64 o.kind, .int .i64 o.on, .int .u64 (u o.s.1), .int .u64 (u o.s.2), .int .i64 o.a, .int .i64 o.b] 45) := ⟨_, rfl⟩
  obtain ⟨B6, hB6⟩ : ∃ B6, B6 = wr.heap.size := ⟨_, rfl⟩
  have hO : OpB W1 B6 o := by rw [hW1, hB6]; exact OpB.new wr o
  have hS1 : St w W1 B3 B4 T M g G L L v := by rw [hW1]; exact hS.alloc _
  have lB6 : w.heap.size ≤ B6 := by rw [hB6]; exact hS.b.size
  have aB6 : Veil (B6 ≠ B3 ∧ B6 ≠ B4 ∧ ∀ k, k < 2 → B6 ≠ T k ∧ B6 ≠ M k ∧ B6 ≠ g k) := ⟨by rw [hB6]; exact hS.fresh⟩
  rw [← hW1, ← hB6]
  clear hS e0 e1 e2 e3 e4 e5
  clear hW1 hB6
  obtain ⟨k, hk, hkk⟩ : ∃ k : Nat, k < 2 ∧ o.on % 2 = (k : Int) := ⟨(o.on % 2).toNat, by omega, by omega⟩
  refine (rest_any o.on 2 W1 (by omega) (by omega)).mono ?_
  rintro e W1' ⟨rfl, rfl⟩
  rw [hkk]
  clear hkk
  have hk0 : (0 : Int) ≤ (k : Int) := Int.natCast_nonneg _
  have hk1 : (k : Int) < 2 := by omega
  have h3 := hK.out
  obtain ⟨p0, p1, p2, p3, p4, p5⟩ := id hO
  have q3 := hS1.c3 k hk
  rw [h3] at p0
  go_wp2_with fail
  go_region_held3 (fun w' => w'.cell? ⟨B3, k, none⟩ = some (.pointer (some ⟨T k, 0, none⟩)) ∧ w'.cell? ⟨B6, 4, none⟩ = some (.int .i64 o.a) ∧ w'.cell? ⟨B6, 5, none⟩ = some (.int .i64 o.b)) ((first | exact ⟨q3, p4, p5⟩ | assumption | exact step_keep2 (by assumption) hK1 aB6 hS1 hk))
    ((go_at_call 10; refine (Union_any (T k) (M k) (g k) o.a o.b (L k) _ ((hS1.drew).tab k hk)).mono ?_; rintro e w3 ⟨rfl, g', ht1, hK1, hg1⟩))
  obtain ⟨R, hR⟩ : ∃ R, Veil (unionR (L k) o.a o.b = R) := ⟨_, ⟨rfl⟩⟩
  have hSl : Veil (0 < R.2.2.length ∧ R.2.2.length ≤ 1024) := ⟨hR.out ▸ unionR_len _ _ _ (hS1.len k hk)⟩
  rw [hR.out] at ht1 ⊢
  have hS2 := (hS1.drew).tabStep hk ht1 hK1 hg1 hSl.out
  have hO2 : OpB w3 B6 o := (show OpB W1.drew B6 o from hO.below (below_drewN (Below.refl _ _) 1)).keep hK1 (by have h9 := aB6.out.2.2 k hk; rintro (h | h | h); exact h9.1 h; exact h9.2.1 h; exact h9.2.2 h)
  have hrk := hS2.ref k hk
  have c4k := hS2.c4 k hk
  have f4k := hS2.f4 k hk
  obtain ⟨cpk, hvk, _⟩ := id hrk
  rw [hvk] at c4k hrk
  have hlk := hS1.lenR k hk
  clear p0 p1 p2 p3 p4 p5 q3 hO ht1 hK1 hg1
  obtain ⟨p0, p1, p2, p3, p4, p5⟩ := id hO2
  go_wp2_with fail
  go_region_law ((go_simp; go_at_call 17; refine (refUnion_any _ (G k) o.a o.b (L k) _ (hrk.below (below_drewN (Below.refl _ _) 1)) hlk.2 hlk.1).mono ?_; rintro e w6 ⟨v', G', rfl, ht', hb6, hG'⟩; rw [hR.out] at ht' ⊢; obtain ⟨cap', rfl, _⟩ := id ht'; have hS3 := hS2.drew.below hb6; have c4' := hS3.c4 k hk; rw [hvk] at c4'; have f4' := hS3.f4 k hk))
  all_goals
    have hS4 := hS2.drew.refStep hk ht' hb6 (plays_G hk hG') hSl.out
    clear hS2 hS3 c4' f4' c4k f4k p0 p1 p2 p3 p4 p5 ht' hb6
    go_wp2
    unfold WI Wmu
    refine ⟨?_, by simp [intOf]; omega⟩
    refine ⟨_, _, _, _, _, _, _, _, _, _, _, _, _, _, _, _, _, _, _, _, _, _, _, _, _, _, _, _, _, _, _, _, _, _, _, _, _, _, _, _, _, _, _, _, _, _, _, _, _, _, _, _, _, _, _, _, _, _, _, _, _, _, _, _, _, _, _, _, _, _, _, _, _, _, _, _, _, _, _, _, _, _, _, _, _, _, _, _, _, _, _, _, _, _, _, _, _, _, _, _, _, _, _, _, _, _, _, _, _, _, _, _, _, _, _, _, _, _, _, _, _, _, _, _, _, _, _, _, _, _, _, _, _, _, _, _, _, _, _, _, _, _, _, _, _, _, _, _, _, _, _, _, _, _, _, _, _, _, _, _, _, _, _, _, _, _, _, _, _, _, _, _, _, _, _, _, _, _, _, _, _, _, _, _, _, _, _, _, _, _, _, _, _, _, ?_, rfl⟩
    exact ⟨i + 1, _, _, _, _, _, _, by omega, by go_num, hS4⟩
end Go.Proofs.Ytbbiakpieakfoaa
