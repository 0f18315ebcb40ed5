/- The law InternPlays: a case of its round. -/
import Derived.Test.YtbbiakpieakfoaaX0
namespace Go.Proofs.Ytbbiakpieakfoaa
open Go.RowKit

set_option maxHeartbeats 40000000 in
set_option maxRecDepth 1000000 in
theorem play_5 (os : List OpD) (w wr : World) (B3 B4 : Nat) (a : Option Addr) (cap : Nat) (c1 c18 c19 c20 c21 c22 c23 c24 c25 c206 c207 c208 c209 c210 c211 c212 c213 c214 c215 c216 c217 c218 c219 c220 c221 c222 c223 u2 u6 u7 u8 u9 u10 u11 u12 u13 u14 u15 u16 u17 u26 u27 u28 u29 u30 u31 u32 u33 u34 u35 u36 u37 u38 u39 u40 u41 u42 u43 u44 u45 u46 u47 u48 u49 u50 u51 u52 u53 u54 u55 u56 u57 u58 u59 u60 u61 u62 u63 u64 u65 u66 u67 u68 u69 u70 u71 u72 u73 u74 u75 u76 u77 u78 u79 u80 u81 u82 u83 u84 u85 u86 u87 u88 u89 u90 u91 u92 u93 u94 u95 u96 u97 u98 u99 u100 u101 u102 u103 u104 u105 u106 u107 u108 u109 u110 u111 u112 u113 u114 u115 u116 u117 u118 u119 u120 u121 u122 u123 u124 u125 u126 u127 u128 u129 u130 u131 u132 u133 u134 u135 u136 u137 u138 u139 u140 u141 u142 u143 u144 u145 u146 u147 u148 u149 u150 u151 u152 u153 u154 u155 u156 u157 u158 u159 u160 u161 u162 u163 u164 u165 u166 u167 u168 u169 u170 u171 u172 u173 u174 u175 u176 u177 u178 u179 u180 u181 u182 u183 u184 u185 u186 u187 u188 u189 u190 u191 u192 u193 u194 u195 u196 u197 u198 u199 u200 u201 u202 u203 u204 u205 : Value) (Q0 : Exit → Act → World → Prop) (hm : os.length ≤ 9223372036854775807)
    (hc : SlR w 6 (.slice a os.length cap) os.length (os.flatMap oc)) (i : Nat) (T M g G : Nat → Nat) (L : Nat → List Bt) (v : Nat → Value) (hS : St w wr B3 B4 T M g G L L v) (hlt : i < os.length) (o : OpD) (ho : os[i] = o) (h1 : ¬ o.kind = 1) (h3 : ¬ o.kind = 3) (h4 : ¬ o.kind = 4) (h2 : ¬ o.kind = 2) (hK : Veil (o.kind = 5)) :
    Code.wp Try.prog body (Exit.then (fun a' w'' => WI os.length w B3 B4 a cap c1 c18 c19 c20 c21 c22 c23 c24 c25 c206 c207 c208 c209 c210 c211 c212 c213 c214 c215 c216 c217 c218 c219 c220 c221 c222 c223 a' w'' ∧ Wmu os.length a' w'' < Wmu os.length ⟨#[.slice a os.length cap, c1, u2, .pointer (some ⟨B3, 0, none⟩), .pointer (some ⟨B4, 0, none⟩), .int .i64 i, u6, u7, u8, u9, u10, u11, u12, u13, u14, u15, u16, u17, c18, c19, c20, c21, c22, c23, c24, c25, u26, u27, u28, u29, u30, u31, u32, u33, u34, u35, u36, u37, u38, u39, u40, u41, u42, u43, u44, u45, u46, u47, u48, u49, u50, u51, u52, u53, u54, u55, u56, u57, u58, u59, u60, u61, u62, u63, u64, u65, u66, u67, u68, u69, u70, u71, u72, u73, u74, u75, u76, u77, u78, u79, u80, u81, u82, u83, u84, u85, u86, u87, u88, u89, u90, u91, u92, u93, u94, u95, u96, u97, u98, u99, u100, u101, u102, u103, u104, u105, u106, u107, u108, u109, u110, u111, u112, u113, u114, u115, u116, u117, u118, u119, u120, u121, u122, u123, u124, u125, u126, u127, u128, u129, u130, u131, u132, u133, u134, u135, u136, u137, u138, u139, u140, u141, u142, u143, u144, u145, u146, u147, u148, u149, u150, u151, u152, u153, u154, u155, u156, u157, u158, u159, u160, u161, u162, u163, u164, u165, u166, u167, u168, u169, u170, u171, u172, u173, u174, u175, u176, u177, u178, u179, u180, u181, u182, u183, u184, u185, u186, u187, u188, u189, u190, u191, u192, u193, u194, u195, u196, u197, u198, u199, u200, u201, u202, u203, u204, u205, c206, c207, c208, c209, c210, c211, c212, c213, c214, c215, c216, c217, c218, c219, c220, c221, c222, c223], []⟩ wr) (NoPanic Q0)) ⟨#[.slice a os.length cap, c1, u2, .pointer (some ⟨B3, 0, none⟩), .pointer (some ⟨B4, 0, none⟩), .int .i64 i, u6, u7, u8, u9, u10, u11, u12, u13, u14, u15, u16, u17, c18, c19, c20, c21, c22, c23, c24, c25, u26, u27, u28, u29, u30, u31, u32, u33, u34, u35, u36, u37, u38, u39, u40, u41, u42, u43, u44, u45, u46, u47, u48, u49, u50, u51, u52, u53, u54, u55, u56, u57, u58, u59, u60, u61, u62, u63, u64, u65, u66, u67, u68, u69, u70, u71, u72, u73, u74, u75, u76, u77, u78, u79, u80, u81, u82, u83, u84, u85, u86, u87, u88, u89, u90, u91, u92, u93, u94, u95, u96, u97, u98, u99, u100, u101, u102, u103, u104, u105, u106, u107, u108, u109, u110, u111, u112, u113, u114, u115, u116, u117, u118, u119, u120, u121, u122, u123, u124, u125, u126, u127, u128, u129, u130, u131, u132, u133, u134, u135, u136, u137, u138, u139, u140, u141, u142, u143, u144, u145, u146, u147, u148, u149, u150, u151, u152, u153, u154, u155, u156, u157, u158, u159, u160, u161, u162, u163, u164, u165, u166, u167, u168, u169, u170, u171, u172, u173, u174, u175, u176, u177, u178, u179, u180, u181, u182, u183, u184, u185, u186, u187, u188, u189, u190, u191, u192, u193, u194, u195, u196, u197, u198, u199, u200, u201, u202, u203, u204, u205, c206, c207, c208, c209, c210, c211, c212, c213, c214, c215, c216, c217, c218, c219, c220, c221, c222, c223], []⟩ wr := by
  conv => arg 2; whnf
  obtain ⟨b, off, rfl, hcell⟩ := op_at (hc.below hS.b) i hlt
  have e0 := hcell 0 (by omega)
  have e1 := hcell 1 (by omega)
  have e2 := hcell 2 (by omega)
  have e3 := hcell 3 (by omega)
  have e4 := hcell 4 (by omega)
  have e5 := hcell 5 (by omega)
  clear hcell
  rw [ho] at e0 e1 e2 e3 e4 e5
  simp only [oc, Nat.add_zero] at e0 e1 e2 e3 e4 e5
  clear ho
  go_wp2_with fail
  obtain ⟨W1, hW1⟩ : ∃ W1, W1 = wr.alloc (.cells #[.int .i64 o.kind, .int .i64 o.on, .int .u64 (u o.s.1), .int .u64 (u o.s.2), .int .i64 o.a, .int .i64 o.b] 45) := ⟨_, rfl⟩
  obtain ⟨B6, hB6⟩ : ∃ B6, B6 = wr.heap.size := ⟨_, rfl⟩
  have hO : OpB W1 B6 o := by rw [hW1, hB6]; exact OpB.new wr o
  have hS1 : St w W1 B3 B4 T M g G L L v := by rw [hW1]; exact hS.alloc _
  have lB6 : w.heap.size ≤ B6 := by rw [hB6]; exact hS.b.size
  have aB6 : Veil (B6 ≠ B3 ∧ B6 ≠ B4 ∧ ∀ k, k < 2 → B6 ≠ T k ∧ B6 ≠ M k ∧ B6 ≠ g k) := ⟨by rw [hB6]; exact hS.fresh⟩
  rw [← hW1, ← hB6]
  clear hS e0 e1 e2 e3 e4 e5
  clear hW1 hB6
  obtain ⟨k, hk, hkk⟩ : ∃ k : Nat, k < 2 ∧ o.on % 2 = (k : Int) := ⟨(o.on % 2).toNat, by omega, by omega⟩
  refine (rest_any o.on 2 W1 (by omega) (by omega)).mono ?_
  rintro e W1' ⟨rfl, rfl⟩
  rw [hkk]
  clear hkk
  have hk0 : (0 : Int) ≤ (k : Int) := Int.natCast_nonneg _
  have hk1 : (k : Int) < 2 := by omega
  have h5 := hK.out
  obtain ⟨p0, p1, p2, p3, p4, p5⟩ := id hO
  obtain ⟨k', hk', hkk⟩ : ∃ k' : Nat, k' < 2 ∧ IntKind.i64.wrap (1 - (k : Int)) = (k' : Int) := ⟨1 - k, by omega, by rcases lt2 hk with rfl | rfl <;> rfl⟩
  have hk0' : (0 : Int) ≤ (k' : Int) := Int.natCast_nonneg _
  have hk1' : (k' : Int) < 2 := by omega
  have q3 := hS1.c3 k hk
  have q3' := hS1.c3 k' hk'
  rw [h5] at p0
  go_wp2_with fail
  refine (Copy_any (T k) (M k) (g k) (L k) _ (hS1.tab k hk) (hS1.len k hk).2 (hS1.len k hk).1).mono ?_
  rintro e w3 ⟨T', M', g', rfl, ht', hb3, lT', lM', lg'⟩
  have hS2 := hS1.below hb3
  have hS3 := hS1.copyStep hk' ht' hb3 lT' lM' lg' (hS1.len k hk)
  clear q3 q3' p0 p1 p2 p3 p4 p5
  have q3 := hS2.c3 k' hk'
  have f3 := hS2.f3 k' hk'
  have hrk := hS3.ref k hk
  have c4 := hS3.c4 k hk
  have c4' := hS3.c4 k' hk'
  have f4' := hS3.f4 k' hk'
  obtain ⟨cpk, hvk, _⟩ := id hrk
  rw [hvk] at c4 hrk
  have hS4 := hS3.refStep hk' hrk (Below.refl _ _) (.inl ⟨k, hk, rfl⟩) (hS1.len k hk)
  have c3n := hS4.c3 k' hk'
  rw [upd_same] at c3n
  go_wp2
  unfold WI Wmu
  refine ⟨?_, by simp [intOf]; omega⟩
  refine ⟨_, _, _, _, _, _, _, _, _, _, _, _, _, _, _, _, _, _, _, _, _, _, _, _, _, _, _, _, _, _, _, _, _, _, _, _, _, _, _, _, _, _, _, _, _, _, _, _, _, _, _, _, _, _, _, _, _, _, _, _, _, _, _, _, _, _, _, _, _, _, _, _, _, _, _, _, _, _, _, _, _, _, _, _, _, _, _, _, _, _, _, _, _, _, _, _, _, _, _, _, _, _, _, _, _, _, _, _, _, _, _, _, _, _, _, _, _, _, _, _, _, _, _, _, _, _, _, _, _, _, _, _, _, _, _, _, _, _, _, _, _, _, _, _, _, _, _, _, _, _, _, _, _, _, _, _, _, _, _, _, _, _, _, _, _, _, _, _, _, _, _, _, _, _, _, _, _, _, _, _, _, _, _, _, _, _, _, _, _, _, _, _, _, _, ?_, rfl⟩
  exact ⟨i + 1, _, _, _, _, _, _, by omega, by go_num, hS4⟩
end Go.Proofs.Ytbbiakpieakfoaa
