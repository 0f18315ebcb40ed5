/- The law HeapPlays: the cases of its round. -/
import Derived.Test.YtpapknmkiampgaaP0
namespace Go.Proofs.Ytpapknmkiampgaa
open Go.RowKit
open Go.Proofs.Ytpapknmkiampgaa.PHeapPlays Go.Proofs.YtpapknmkiampgaaW.PrintWords Go.Proofs.YtpapknmkiampgaaW.PrintMore Go.Proofs.YtpapknmkiampgaaW.PrintLast

set_option maxHeartbeats 40000000 in
set_option maxRecDepth 1000000 in
theorem play_1 (os : List OpD) (w wr : World) (H G B5 : Nat) (a : Option Addr) (cap : Nat) (c1 c27 c28 c29 c30 c31 c32 c33 c270 c271 c272 c273 c274 u2 u7 u8 u9 u10 u11 u12 u13 u14 u15 u16 u17 u18 u19 u20 u21 u22 u23 u24 u25 u26 u34 u35 u36 u37 u38 u39 u40 u41 u42 u43 u44 u45 u46 u47 u48 u49 u50 u51 u52 u53 u54 u55 u56 u57 u58 u59 u60 u61 u62 u63 u64 u65 u66 u67 u68 u69 u70 u71 u72 u73 u74 u75 u76 u77 u78 u79 u80 u81 u82 u83 u84 u85 u86 u87 u88 u89 u90 u91 u92 u93 u94 u95 u96 u97 u98 u99 u100 u101 u102 u103 u104 u105 u106 u107 u108 u109 u110 u111 u112 u113 u114 u115 u116 u117 u118 u119 u120 u121 u122 u123 u124 u125 u126 u127 u128 u129 u130 u131 u132 u133 u134 u135 u136 u137 u138 u139 u140 u141 u142 u143 u144 u145 u146 u147 u148 u149 u150 u151 u152 u153 u154 u155 u156 u157 u158 u159 u160 u161 u162 u163 u164 u165 u166 u167 u168 u169 u170 u171 u172 u173 u174 u175 u176 u177 u178 u179 u180 u181 u182 u183 u184 u185 u186 u187 u188 u189 u190 u191 u192 u193 u194 u195 u196 u197 u198 u199 u200 u201 u202 u203 u204 u205 u206 u207 u208 u209 u210 u211 u212 u213 u214 u215 u216 u217 u218 u219 u220 u221 u222 u223 u224 u225 u226 u227 u228 u229 u230 u231 u232 u233 u234 u235 u236 u237 u238 u239 u240 u241 u242 u243 u244 u245 u246 u247 u248 u249 u250 u251 u252 u253 u254 u255 u256 u257 u258 u259 u260 u261 u262 u263 u264 u265 u266 u267 u268 u269 : Value) (Q0 : Exit → Act → World → Prop) (hm : os.length ≤ 9223372036854775807)
    (hc : SlR w 3 (.slice a os.length cap) os.length (os.flatMap oc)) (i : Nat) (L : List En) (hS : SW w H G B5 L wr) (hlt : i < os.length) (o : OpD) (ho : os[i] = o) (hK : Veil (o.kind = 1)) :
    Code.wp Try.prog body (Exit.then (fun a' w'' => WI os.length w H G B5 a cap c1 c27 c28 c29 c30 c31 c32 c33 c270 c271 c272 c273 c274 a' w'' ∧ Wmu os.length a' w'' < Wmu os.length ⟨#[.slice a os.length cap, c1, u2, .pointer (some ⟨H, 0, none⟩), .pointer (some ⟨G, 0, none⟩), .pointer (some ⟨B5, 0, none⟩), .int .i64 i, u7, u8, u9, u10, u11, u12, u13, u14, u15, u16, u17, u18, u19, u20, u21, u22, u23, u24, u25, u26, c27, c28, c29, c30, c31, c32, c33, u34, u35, u36, u37, u38, u39, u40, u41, u42, u43, u44, u45, u46, u47, u48, u49, u50, u51, u52, u53, u54, u55, u56, u57, u58, u59, u60, u61, u62, u63, u64, u65, u66, u67, u68, u69, u70, u71, u72, u73, u74, u75, u76, u77, u78, u79, u80, u81, u82, u83, u84, u85, u86, u87, u88, u89, u90, u91, u92, u93, u94, u95, u96, u97, u98, u99, u100, u101, u102, u103, u104, u105, u106, u107, u108, u109, u110, u111, u112, u113, u114, u115, u116, u117, u118, u119, u120, u121, u122, u123, u124, u125, u126, u127, u128, u129, u130, u131, u132, u133, u134, u135, u136, u137, u138, u139, u140, u141, u142, u143, u144, u145, u146, u147, u148, u149, u150, u151, u152, u153, u154, u155, u156, u157, u158, u159, u160, u161, u162, u163, u164, u165, u166, u167, u168, u169, u170, u171, u172, u173, u174, u175, u176, u177, u178, u179, u180, u181, u182, u183, u184, u185, u186, u187, u188, u189, u190, u191, u192, u193, u194, u195, u196, u197, u198, u199, u200, u201, u202, u203, u204, u205, u206, u207, u208, u209, u210, u211, u212, u213, u214, u215, u216, u217, u218, u219, u220, u221, u222, u223, u224, u225, u226, u227, u228, u229, u230, u231, u232, u233, u234, u235, u236, u237, u238, u239, u240, u241, u242, u243, u244, u245, u246, u247, u248, u249, u250, u251, u252, u253, u254, u255, u256, u257, u258, u259, u260, u261, u262, u263, u264, u265, u266, u267, u268, u269, c270, c271, c272, c273, c274], []⟩ wr) (NoPanic Q0)) ⟨#[.slice a os.length cap, c1, u2, .pointer (some ⟨H, 0, none⟩), .pointer (some ⟨G, 0, none⟩), .pointer (some ⟨B5, 0, none⟩), .int .i64 i, u7, u8, u9, u10, u11, u12, u13, u14, u15, u16, u17, u18, u19, u20, u21, u22, u23, u24, u25, u26, c27, c28, c29, c30, c31, c32, c33, u34, u35, u36, u37, u38, u39, u40, u41, u42, u43, u44, u45, u46, u47, u48, u49, u50, u51, u52, u53, u54, u55, u56, u57, u58, u59, u60, u61, u62, u63, u64, u65, u66, u67, u68, u69, u70, u71, u72, u73, u74, u75, u76, u77, u78, u79, u80, u81, u82, u83, u84, u85, u86, u87, u88, u89, u90, u91, u92, u93, u94, u95, u96, u97, u98, u99, u100, u101, u102, u103, u104, u105, u106, u107, u108, u109, u110, u111, u112, u113, u114, u115, u116, u117, u118, u119, u120, u121, u122, u123, u124, u125, u126, u127, u128, u129, u130, u131, u132, u133, u134, u135, u136, u137, u138, u139, u140, u141, u142, u143, u144, u145, u146, u147, u148, u149, u150, u151, u152, u153, u154, u155, u156, u157, u158, u159, u160, u161, u162, u163, u164, u165, u166, u167, u168, u169, u170, u171, u172, u173, u174, u175, u176, u177, u178, u179, u180, u181, u182, u183, u184, u185, u186, u187, u188, u189, u190, u191, u192, u193, u194, u195, u196, u197, u198, u199, u200, u201, u202, u203, u204, u205, u206, u207, u208, u209, u210, u211, u212, u213, u214, u215, u216, u217, u218, u219, u220, u221, u222, u223, u224, u225, u226, u227, u228, u229, u230, u231, u232, u233, u234, u235, u236, u237, u238, u239, u240, u241, u242, u243, u244, u245, u246, u247, u248, u249, u250, u251, u252, u253, u254, u255, u256, u257, u258, u259, u260, u261, u262, u263, u264, u265, u266, u267, u268, u269, c270, c271, c272, c273, c274], []⟩ wr := by
  conv => arg 2; whnf
  obtain ⟨b, off, rfl, hcell⟩ := op_at (hc.below hS.below_) i hlt
  have e0 := hcell 0 (by omega)
  have e1 := hcell 1 (by omega)
  have e2 := hcell 2 (by omega)
  clear hcell
  rw [ho] at e0 e1 e2
  simp only [oc, Nat.add_zero] at e0 e1 e2
  clear ho
  obtain ⟨v, u, r, hP, c5, f5⟩ := hS
  obtain ⟨A, rc, rfl, _⟩ := hP.ir.slice
  go_wp2_with fail
  obtain ⟨W1, hW1⟩ : ∃ W1, W1 = wr.alloc (.cells #[.int .i64 o.kind, .int .i64 o.n, .int .i64 o.k] 44) := ⟨_, rfl⟩
  obtain ⟨B7, hB7⟩ : ∃ B7, B7 = wr.heap.size := ⟨_, rfl⟩
  have hO : OpB W1 B7 o := by rw [hW1, hB7]; exact OpB.new wr o
  have hP1 : PS w W1 H v G u (.slice A L.length rc) L L L [B7, B5] := by rw [hW1, hB7]; exact hP.alloc _
  have c51 : W1.cell? ⟨B5, 0, none⟩ = some (.slice A L.length rc) := by rw [hW1]; exact (((Below.refl _ wr).alloc (Nat.le_refl _) _).cell (World.block_lt_of_cell? _ _ c5)).trans c5
  have f51 : W1.frozen? ⟨B5, 0, none⟩ = false := by rw [hW1]; exact (((Below.refl _ wr).alloc (Nat.le_refl _) _).frozen (p := ⟨B5, 0, none⟩) (World.block_lt_of_cell? _ _ c5)).trans f5
  rw [← hW1, ← hB7]
  clear hP e0 e1 e2 c5 f5 hW1 hB7
  refine (small_any o.k W1).mono ?_
  rintro e W2 ⟨rfl, hb2⟩
  obtain ⟨hP2, hs2⟩ := hP1.below hb2
  have hsm := small_sm o.k
  obtain ⟨kk, hkk⟩ : ∃ kk, Int.tmod o.k 1000 = kk := ⟨_, rfl⟩
  rw [hkk] at hsm ⊢
  have hO2 : OpB W2 B7 o := hO.same hs2 (by simp)
  have c52 := hs2.cell (X := B5) (by simp) c51
  have f52 := hs2.frozen (X := B5) (by simp) f51
  have hL := hP2.len
  have hrsl : A = none → L.length = 0 := fun h => by
    by_cases h0 : L.length = 0
    · exact h0
    · obtain ⟨ad, cc, he⟩ := Kd.R_slice1 hP2.ir (by rw [LS_len]; omega)
      injection he with h1 _ _
      rw [h] at h1
      cases h1
  clear hP1 hO c51 f51 hb2 hs2 hkk
  obtain ⟨p0, p1, p2⟩ := id hO2
  have hk := hK.out
  rw [hk] at p0
  go_wp2_with fail
  have hPd := (hP2.below (Below.refl _ W2).drew).1
  have p1d : W2.drew.cell? ⟨B7, 1, none⟩ = some (.int .i64 o.n) := p1
  have c5d : W2.drew.cell? ⟨B5, 0, none⟩ = some (.slice A L.length rc) := c52
  have f5d : W2.drew.frozen? ⟨B5, 0, none⟩ = false := f52
  go_region_held3 (fun w' => w'.cell? ⟨B7, 1, none⟩ = some (.int .i64 o.n)) ((first | exact p1 | exact p1d | assumption))
    ((first
      | (go_at_call 9; refine (Push_any H v L o.n kk _ hPd.ih).mono ?_; rintro e w3 ⟨rfl, hs⟩; obtain ⟨v3, hP3, hs3⟩ := hPd.stepH hs; have q3 := hs3.cell (X := B7) (by simp) p1d)
      | (go_at_call 17; refine (text_any kk _ hsm).mono ?_; rintro e w4 ⟨rfl, hb4⟩; obtain ⟨hP4, hs4⟩ := hP3.below hb4; have q4 := hs4.cell (X := B7) (by simp) q3)
      | (go_at_call 16; refine (S.Push_any G u L o.n kk _ hsm hP4.ig).mono ?_; rintro e w5 ⟨rfl, hs⟩; obtain ⟨u5, hP5, hs5⟩ := hP4.stepG hs; have q5 := hs5.cell (X := B7) (by simp) q4)))
  have c55 := hs5.cell (X := B5) (by simp) (hs4.cell (X := B5) (by simp) (hs3.cell (X := B5) (by simp) c5d))
  have f55 := hs5.frozen (X := B5) (by simp) (hs4.frozen (X := B5) (by simp) (hs3.frozen (X := B5) (by simp) f5d))
  clear hP2 hPd hP3 hP4 hs3 hs4 hs5 p1d q3 q4 c5d f5d p1 p2 c52 f52
  go_wp2_with fail
  refine (refPush_any hP5 hL o.n kk).mono ?_
  rintro e w6 ⟨r6, rfl, hP6, hs6⟩
  obtain ⟨A6, rc6, rfl, _⟩ := hP6.ir.slice
  have c56 := hs6.cell (X := B5) (by simp) c55
  have f56 := hs6.frozen (X := B5) (by simp) f55
  clear hP5 hs6 c55 f55 q5
  obtain ⟨W7, hW7⟩ : ∃ W7, W7 = w6.setCell ⟨B5, 0, none⟩ (.slice A6 (pushL L o.n kk).length rc6) := ⟨_, rfl⟩
  have hX : PS w W7 H v3 G u5 (.slice A6 (pushL L o.n kk).length rc6) (pushL L o.n kk) (pushL L o.n kk) (pushL L o.n kk) [B7, B5] := by rw [hW7]; exact hP6.set (by simp) 0 _
  have c59 : W7.cell? ⟨B5, 0, none⟩ = some (.slice A6 (pushL L o.n kk).length rc6) := by rw [hW7]; exact World.cell?_setCell_same _ _ _ c56
  have f59 : W7.frozen? ⟨B5, 0, none⟩ = false := by rw [hW7, World.frozen?_setCell]; exact f56
  have hq := hX.len
  generalize pushL L o.n kk = L9 at hX c59 hW7 hq hP6
  clear hP6
  go_wp2_with fail
  rw [← hW7]
  clear hW7
  have qc := fun n : ExtW W7 => exw_cell c59 n
  have eqE := fun n : Int => (show (n != n) = false by simp)
  have hbH := fun n : ExtW W7 => hX.ih.below (exw_below n)
  have hbG := fun n : ExtW W7 => hX.ig.below (exw_below n)
  refine region_ext (by kernel_rfl) (by kernel_rfl) ?_
  repeat (go_big_quiet_step ((first | (go_at_call 11; exact ext_same (Len_any H _ _ _ (hbH _))) | (go_at_call 34; exact ext_same (S.Len_any G _ _ _ (hbG _))))))
  refine wpQuiet_nil ?_
  intro _ hw'
  obtain ⟨nq, hw''⟩ := hw'
  subst hw''
  have hXd := (hX.below (exw_below nq)).1.drop
  have c5x := exw_cell c59 nq
  have f5x := ((exw_below nq).frozen (p := ⟨B5, 0, none⟩) (World.block_lt_of_cell? _ _ c59)).trans f59
  clear qc hbH hbG
  go_wp2
  unfold WI Wmu
  refine ⟨?_, by simp [kO]; omega⟩
  refine ⟨_, _, _, _, _, _, _, _, _, _, _, _, _, _, _, _, _, _, _, _, _, _, _, _, _, _, _, _, _, _, _, _, _, _, _, _, _, _, _, _, _, _, _, _, _, _, _, _, _, _, _, _, _, _, _, _, _, _, _, _, _, _, _, _, _, _, _, _, _, _, _, _, _, _, _, _, _, _, _, _, _, _, _, _, _, _, _, _, _, _, _, _, _, _, _, _, _, _, _, _, _, _, _, _, _, _, _, _, _, _, _, _, _, _, _, _, _, _, _, _, _, _, _, _, _, _, _, _, _, _, _, _, _, _, _, _, _, _, _, _, _, _, _, _, _, _, _, _, _, _, _, _, _, _, _, _, _, _, _, _, _, _, _, _, _, _, _, _, _, _, _, _, _, _, _, _, _, _, _, _, _, _, _, _, _, _, _, _, _, _, _, _, _, _, _, _, _, _, _, _, _, _, _, _, _, _, _, _, _, _, _, _, _, _, _, _, _, _, _, _, _, _, _, _, _, _, _, _, _, _, _, _, _, _, _, _, _, _, _, _, _, _, _, _, _, _, _, _, _, _, _, _, _, _, _, _, _, _, ?_, rfl⟩
  exact ⟨i + 1, _, by omega, by go_num, ⟨_, _, _, hXd, c5x, f5x⟩⟩
end Go.Proofs.Ytpapknmkiampgaa
namespace Go.Proofs.Ytpapknmkiampgaa
open Go.RowKit
open Go.Proofs.Ytpapknmkiampgaa.PHeapPlays Go.Proofs.YtpapknmkiampgaaW.PrintWords Go.Proofs.YtpapknmkiampgaaW.PrintMore Go.Proofs.YtpapknmkiampgaaW.PrintLast

set_option maxHeartbeats 40000000 in
set_option maxRecDepth 1000000 in
theorem play_2 (os : List OpD) (w wr : World) (H G B5 : Nat) (a : Option Addr) (cap : Nat) (c1 c27 c28 c29 c30 c31 c32 c33 c270 c271 c272 c273 c274 u2 u7 u8 u9 u10 u11 u12 u13 u14 u15 u16 u17 u18 u19 u20 u21 u22 u23 u24 u25 u26 u34 u35 u36 u37 u38 u39 u40 u41 u42 u43 u44 u45 u46 u47 u48 u49 u50 u51 u52 u53 u54 u55 u56 u57 u58 u59 u60 u61 u62 u63 u64 u65 u66 u67 u68 u69 u70 u71 u72 u73 u74 u75 u76 u77 u78 u79 u80 u81 u82 u83 u84 u85 u86 u87 u88 u89 u90 u91 u92 u93 u94 u95 u96 u97 u98 u99 u100 u101 u102 u103 u104 u105 u106 u107 u108 u109 u110 u111 u112 u113 u114 u115 u116 u117 u118 u119 u120 u121 u122 u123 u124 u125 u126 u127 u128 u129 u130 u131 u132 u133 u134 u135 u136 u137 u138 u139 u140 u141 u142 u143 u144 u145 u146 u147 u148 u149 u150 u151 u152 u153 u154 u155 u156 u157 u158 u159 u160 u161 u162 u163 u164 u165 u166 u167 u168 u169 u170 u171 u172 u173 u174 u175 u176 u177 u178 u179 u180 u181 u182 u183 u184 u185 u186 u187 u188 u189 u190 u191 u192 u193 u194 u195 u196 u197 u198 u199 u200 u201 u202 u203 u204 u205 u206 u207 u208 u209 u210 u211 u212 u213 u214 u215 u216 u217 u218 u219 u220 u221 u222 u223 u224 u225 u226 u227 u228 u229 u230 u231 u232 u233 u234 u235 u236 u237 u238 u239 u240 u241 u242 u243 u244 u245 u246 u247 u248 u249 u250 u251 u252 u253 u254 u255 u256 u257 u258 u259 u260 u261 u262 u263 u264 u265 u266 u267 u268 u269 : Value) (Q0 : Exit → Act → World → Prop) (hm : os.length ≤ 9223372036854775807)
    (hc : SlR w 3 (.slice a os.length cap) os.length (os.flatMap oc)) (i : Nat) (L : List En) (hS : SW w H G B5 L wr) (hlt : i < os.length) (o : OpD) (ho : os[i] = o) (h1 : ¬ o.kind = 1) (hK : Veil (o.kind = 2)) :
    Code.wp Try.prog body (Exit.then (fun a' w'' => WI os.length w H G B5 a cap c1 c27 c28 c29 c30 c31 c32 c33 c270 c271 c272 c273 c274 a' w'' ∧ Wmu os.length a' w'' < Wmu os.length ⟨#[.slice a os.length cap, c1, u2, .pointer (some ⟨H, 0, none⟩), .pointer (some ⟨G, 0, none⟩), .pointer (some ⟨B5, 0, none⟩), .int .i64 i, u7, u8, u9, u10, u11, u12, u13, u14, u15, u16, u17, u18, u19, u20, u21, u22, u23, u24, u25, u26, c27, c28, c29, c30, c31, c32, c33, u34, u35, u36, u37, u38, u39, u40, u41, u42, u43, u44, u45, u46, u47, u48, u49, u50, u51, u52, u53, u54, u55, u56, u57, u58, u59, u60, u61, u62, u63, u64, u65, u66, u67, u68, u69, u70, u71, u72, u73, u74, u75, u76, u77, u78, u79, u80, u81, u82, u83, u84, u85, u86, u87, u88, u89, u90, u91, u92, u93, u94, u95, u96, u97, u98, u99, u100, u101, u102, u103, u104, u105, u106, u107, u108, u109, u110, u111, u112, u113, u114, u115, u116, u117, u118, u119, u120, u121, u122, u123, u124, u125, u126, u127, u128, u129, u130, u131, u132, u133, u134, u135, u136, u137, u138, u139, u140, u141, u142, u143, u144, u145, u146, u147, u148, u149, u150, u151, u152, u153, u154, u155, u156, u157, u158, u159, u160, u161, u162, u163, u164, u165, u166, u167, u168, u169, u170, u171, u172, u173, u174, u175, u176, u177, u178, u179, u180, u181, u182, u183, u184, u185, u186, u187, u188, u189, u190, u191, u192, u193, u194, u195, u196, u197, u198, u199, u200, u201, u202, u203, u204, u205, u206, u207, u208, u209, u210, u211, u212, u213, u214, u215, u216, u217, u218, u219, u220, u221, u222, u223, u224, u225, u226, u227, u228, u229, u230, u231, u232, u233, u234, u235, u236, u237, u238, u239, u240, u241, u242, u243, u244, u245, u246, u247, u248, u249, u250, u251, u252, u253, u254, u255, u256, u257, u258, u259, u260, u261, u262, u263, u264, u265, u266, u267, u268, u269, c270, c271, c272, c273, c274], []⟩ wr) (NoPanic Q0)) ⟨#[.slice a os.length cap, c1, u2, .pointer (some ⟨H, 0, none⟩), .pointer (some ⟨G, 0, none⟩), .pointer (some ⟨B5, 0, none⟩), .int .i64 i, u7, u8, u9, u10, u11, u12, u13, u14, u15, u16, u17, u18, u19, u20, u21, u22, u23, u24, u25, u26, c27, c28, c29, c30, c31, c32, c33, u34, u35, u36, u37, u38, u39, u40, u41, u42, u43, u44, u45, u46, u47, u48, u49, u50, u51, u52, u53, u54, u55, u56, u57, u58, u59, u60, u61, u62, u63, u64, u65, u66, u67, u68, u69, u70, u71, u72, u73, u74, u75, u76, u77, u78, u79, u80, u81, u82, u83, u84, u85, u86, u87, u88, u89, u90, u91, u92, u93, u94, u95, u96, u97, u98, u99, u100, u101, u102, u103, u104, u105, u106, u107, u108, u109, u110, u111, u112, u113, u114, u115, u116, u117, u118, u119, u120, u121, u122, u123, u124, u125, u126, u127, u128, u129, u130, u131, u132, u133, u134, u135, u136, u137, u138, u139, u140, u141, u142, u143, u144, u145, u146, u147, u148, u149, u150, u151, u152, u153, u154, u155, u156, u157, u158, u159, u160, u161, u162, u163, u164, u165, u166, u167, u168, u169, u170, u171, u172, u173, u174, u175, u176, u177, u178, u179, u180, u181, u182, u183, u184, u185, u186, u187, u188, u189, u190, u191, u192, u193, u194, u195, u196, u197, u198, u199, u200, u201, u202, u203, u204, u205, u206, u207, u208, u209, u210, u211, u212, u213, u214, u215, u216, u217, u218, u219, u220, u221, u222, u223, u224, u225, u226, u227, u228, u229, u230, u231, u232, u233, u234, u235, u236, u237, u238, u239, u240, u241, u242, u243, u244, u245, u246, u247, u248, u249, u250, u251, u252, u253, u254, u255, u256, u257, u258, u259, u260, u261, u262, u263, u264, u265, u266, u267, u268, u269, c270, c271, c272, c273, c274], []⟩ wr := by
  conv => arg 2; whnf
  obtain ⟨b, off, rfl, hcell⟩ := op_at (hc.below hS.below_) i hlt
  have e0 := hcell 0 (by omega)
  have e1 := hcell 1 (by omega)
  have e2 := hcell 2 (by omega)
  clear hcell
  rw [ho] at e0 e1 e2
  simp only [oc, Nat.add_zero] at e0 e1 e2
  clear ho
  obtain ⟨v, u, r, hP, c5, f5⟩ := hS
  obtain ⟨A, rc, rfl, _⟩ := hP.ir.slice
  go_wp2_with fail
  obtain ⟨W1, hW1⟩ : ∃ W1, W1 = wr.alloc (.cells #[.int .i64 o.kind, .int .i64 o.n, .int .i64 o.k] 44) := ⟨_, rfl⟩
  obtain ⟨B7, hB7⟩ : ∃ B7, B7 = wr.heap.size := ⟨_, rfl⟩
  have hO : OpB W1 B7 o := by rw [hW1, hB7]; exact OpB.new wr o
  have hP1 : PS w W1 H v G u (.slice A L.length rc) L L L [B7, B5] := by rw [hW1, hB7]; exact hP.alloc _
  have c51 : W1.cell? ⟨B5, 0, none⟩ = some (.slice A L.length rc) := by rw [hW1]; exact (((Below.refl _ wr).alloc (Nat.le_refl _) _).cell (World.block_lt_of_cell? _ _ c5)).trans c5
  have f51 : W1.frozen? ⟨B5, 0, none⟩ = false := by rw [hW1]; exact (((Below.refl _ wr).alloc (Nat.le_refl _) _).frozen (p := ⟨B5, 0, none⟩) (World.block_lt_of_cell? _ _ c5)).trans f5
  rw [← hW1, ← hB7]
  clear hP e0 e1 e2 c5 f5 hW1 hB7
  refine (small_any o.k W1).mono ?_
  rintro e W2 ⟨rfl, hb2⟩
  obtain ⟨hP2, hs2⟩ := hP1.below hb2
  have hsm := small_sm o.k
  obtain ⟨kk, hkk⟩ : ∃ kk, Int.tmod o.k 1000 = kk := ⟨_, rfl⟩
  rw [hkk] at hsm ⊢
  have hO2 : OpB W2 B7 o := hO.same hs2 (by simp)
  have c52 := hs2.cell (X := B5) (by simp) c51
  have f52 := hs2.frozen (X := B5) (by simp) f51
  have hL := hP2.len
  have hrsl : A = none → L.length = 0 := fun h => by
    by_cases h0 : L.length = 0
    · exact h0
    · obtain ⟨ad, cc, he⟩ := Kd.R_slice1 hP2.ir (by rw [LS_len]; omega)
      injection he with h1 _ _
      rw [h] at h1
      cases h1
  clear hP1 hO c51 f51 hb2 hs2 hkk
  obtain ⟨p0, p1, p2⟩ := id hO2
  have hk := hK.out
  rw [hk] at p0
  go_wp2_with fail
  have hPd := (hP2.below (Below.refl _ W2).drew).1
  have p1d : W2.drew.cell? ⟨B7, 1, none⟩ = some (.int .i64 o.n) := p1
  have c5d : W2.drew.cell? ⟨B5, 0, none⟩ = some (.slice A L.length rc) := c52
  have f5d : W2.drew.frozen? ⟨B5, 0, none⟩ = false := f52
  go_region_held3 (fun w' => w'.cell? ⟨B7, 1, none⟩ = some (.int .i64 o.n)) ((first | exact p1 | exact p1d | assumption))
    ((first
      | (go_at_call 19; refine (Lower_any H v L o.n kk _ hPd.ih).mono ?_; rintro e w3 ⟨rfl, hs⟩; obtain ⟨v3, hP3, hs3⟩ := hPd.stepH hs; have q3 := hs3.cell (X := B7) (by simp) p1d)
      | (go_at_call 17; refine (text_any kk _ hsm).mono ?_; rintro e w4 ⟨rfl, hb4⟩; obtain ⟨hP4, hs4⟩ := hP3.below hb4; have q4 := hs4.cell (X := B7) (by simp) q3)
      | (go_at_call 20; refine (S.Lower_any G u L o.n kk _ hsm hP4.ig).mono ?_; rintro e w5 ⟨rfl, hs⟩; obtain ⟨u5, hP5, hs5⟩ := hP4.stepG hs; have q5 := hs5.cell (X := B7) (by simp) q4)))
  have c55 := hs5.cell (X := B5) (by simp) (hs4.cell (X := B5) (by simp) (hs3.cell (X := B5) (by simp) c5d))
  have f55 := hs5.frozen (X := B5) (by simp) (hs4.frozen (X := B5) (by simp) (hs3.frozen (X := B5) (by simp) f5d))
  clear hP2 hPd hP3 hP4 hs3 hs4 hs5 p1d q3 q4 c5d f5d p1 p2 c52 f52
  go_wp2_with fail
  refine (refLower_any hP5 hL o.n kk).mono ?_
  rintro e w6 ⟨r6, rfl, hP6, hs6⟩
  obtain ⟨A6, rc6, rfl, _⟩ := hP6.ir.slice
  have c56 := hs6.cell (X := B5) (by simp) c55
  have f56 := hs6.frozen (X := B5) (by simp) f55
  clear hP5 hs6 c55 f55 q5
  obtain ⟨W7, hW7⟩ : ∃ W7, W7 = w6.setCell ⟨B5, 0, none⟩ (.slice A6 (lowL L o.n kk).length rc6) := ⟨_, rfl⟩
  have hX : PS w W7 H v3 G u5 (.slice A6 (lowL L o.n kk).length rc6) (lowL L o.n kk) (lowL L o.n kk) (lowL L o.n kk) [B7, B5] := by rw [hW7]; exact hP6.set (by simp) 0 _
  have c59 : W7.cell? ⟨B5, 0, none⟩ = some (.slice A6 (lowL L o.n kk).length rc6) := by rw [hW7]; exact World.cell?_setCell_same _ _ _ c56
  have f59 : W7.frozen? ⟨B5, 0, none⟩ = false := by rw [hW7, World.frozen?_setCell]; exact f56
  have hq := hX.len
  generalize lowL L o.n kk = L9 at hX c59 hW7 hq hP6
  clear hP6
  go_wp2_with fail
  rw [← hW7]
  clear hW7
  have qc := fun n : ExtW W7 => exw_cell c59 n
  have eqE := fun n : Int => (show (n != n) = false by simp)
  have hbH := fun n : ExtW W7 => hX.ih.below (exw_below n)
  have hbG := fun n : ExtW W7 => hX.ig.below (exw_below n)
  refine region_ext (by kernel_rfl) (by kernel_rfl) ?_
  repeat (go_big_quiet_step ((first | (go_at_call 11; exact ext_same (Len_any H _ _ _ (hbH _))) | (go_at_call 34; exact ext_same (S.Len_any G _ _ _ (hbG _))))))
  refine wpQuiet_nil ?_
  intro _ hw'
  obtain ⟨nq, hw''⟩ := hw'
  subst hw''
  have hXd := (hX.below (exw_below nq)).1.drop
  have c5x := exw_cell c59 nq
  have f5x := ((exw_below nq).frozen (p := ⟨B5, 0, none⟩) (World.block_lt_of_cell? _ _ c59)).trans f59
  clear qc hbH hbG
  go_wp2
  unfold WI Wmu
  refine ⟨?_, by simp [kO]; omega⟩
  refine ⟨_, _, _, _, _, _, _, _, _, _, _, _, _, _, _, _, _, _, _, _, _, _, _, _, _, _, _, _, _, _, _, _, _, _, _, _, _, _, _, _, _, _, _, _, _, _, _, _, _, _, _, _, _, _, _, _, _, _, _, _, _, _, _, _, _, _, _, _, _, _, _, _, _, _, _, _, _, _, _, _, _, _, _, _, _, _, _, _, _, _, _, _, _, _, _, _, _, _, _, _, _, _, _, _, _, _, _, _, _, _, _, _, _, _, _, _, _, _, _, _, _, _, _, _, _, _, _, _, _, _, _, _, _, _, _, _, _, _, _, _, _, _, _, _, _, _, _, _, _, _, _, _, _, _, _, _, _, _, _, _, _, _, _, _, _, _, _, _, _, _, _, _, _, _, _, _, _, _, _, _, _, _, _, _, _, _, _, _, _, _, _, _, _, _, _, _, _, _, _, _, _, _, _, _, _, _, _, _, _, _, _, _, _, _, _, _, _, _, _, _, _, _, _, _, _, _, _, _, _, _, _, _, _, _, _, _, _, _, _, _, _, _, _, _, _, _, _, _, _, _, _, _, _, _, _, _, _, _, ?_, rfl⟩
  exact ⟨i + 1, _, by omega, by go_num, ⟨_, _, _, hXd, c5x, f5x⟩⟩
end Go.Proofs.Ytpapknmkiampgaa
namespace Go.Proofs.Ytpapknmkiampgaa
open Go.RowKit
open Go.Proofs.Ytpapknmkiampgaa.PHeapPlays Go.Proofs.YtpapknmkiampgaaW.PrintWords Go.Proofs.YtpapknmkiampgaaW.PrintMore Go.Proofs.YtpapknmkiampgaaW.PrintLast

set_option maxHeartbeats 40000000 in
set_option maxRecDepth 1000000 in
theorem play_5 (os : List OpD) (w wr : World) (H G B5 : Nat) (a : Option Addr) (cap : Nat) (c1 c27 c28 c29 c30 c31 c32 c33 c270 c271 c272 c273 c274 u2 u7 u8 u9 u10 u11 u12 u13 u14 u15 u16 u17 u18 u19 u20 u21 u22 u23 u24 u25 u26 u34 u35 u36 u37 u38 u39 u40 u41 u42 u43 u44 u45 u46 u47 u48 u49 u50 u51 u52 u53 u54 u55 u56 u57 u58 u59 u60 u61 u62 u63 u64 u65 u66 u67 u68 u69 u70 u71 u72 u73 u74 u75 u76 u77 u78 u79 u80 u81 u82 u83 u84 u85 u86 u87 u88 u89 u90 u91 u92 u93 u94 u95 u96 u97 u98 u99 u100 u101 u102 u103 u104 u105 u106 u107 u108 u109 u110 u111 u112 u113 u114 u115 u116 u117 u118 u119 u120 u121 u122 u123 u124 u125 u126 u127 u128 u129 u130 u131 u132 u133 u134 u135 u136 u137 u138 u139 u140 u141 u142 u143 u144 u145 u146 u147 u148 u149 u150 u151 u152 u153 u154 u155 u156 u157 u158 u159 u160 u161 u162 u163 u164 u165 u166 u167 u168 u169 u170 u171 u172 u173 u174 u175 u176 u177 u178 u179 u180 u181 u182 u183 u184 u185 u186 u187 u188 u189 u190 u191 u192 u193 u194 u195 u196 u197 u198 u199 u200 u201 u202 u203 u204 u205 u206 u207 u208 u209 u210 u211 u212 u213 u214 u215 u216 u217 u218 u219 u220 u221 u222 u223 u224 u225 u226 u227 u228 u229 u230 u231 u232 u233 u234 u235 u236 u237 u238 u239 u240 u241 u242 u243 u244 u245 u246 u247 u248 u249 u250 u251 u252 u253 u254 u255 u256 u257 u258 u259 u260 u261 u262 u263 u264 u265 u266 u267 u268 u269 : Value) (Q0 : Exit → Act → World → Prop) (hm : os.length ≤ 9223372036854775807)
    (hc : SlR w 3 (.slice a os.length cap) os.length (os.flatMap oc)) (i : Nat) (L : List En) (hS : SW w H G B5 L wr) (hlt : i < os.length) (o : OpD) (ho : os[i] = o) (h1 : ¬ o.kind = 1) (h2 : ¬ o.kind = 2) (hK : Veil (o.kind = 5)) :
    Code.wp Try.prog body (Exit.then (fun a' w'' => WI os.length w H G B5 a cap c1 c27 c28 c29 c30 c31 c32 c33 c270 c271 c272 c273 c274 a' w'' ∧ Wmu os.length a' w'' < Wmu os.length ⟨#[.slice a os.length cap, c1, u2, .pointer (some ⟨H, 0, none⟩), .pointer (some ⟨G, 0, none⟩), .pointer (some ⟨B5, 0, none⟩), .int .i64 i, u7, u8, u9, u10, u11, u12, u13, u14, u15, u16, u17, u18, u19, u20, u21, u22, u23, u24, u25, u26, c27, c28, c29, c30, c31, c32, c33, u34, u35, u36, u37, u38, u39, u40, u41, u42, u43, u44, u45, u46, u47, u48, u49, u50, u51, u52, u53, u54, u55, u56, u57, u58, u59, u60, u61, u62, u63, u64, u65, u66, u67, u68, u69, u70, u71, u72, u73, u74, u75, u76, u77, u78, u79, u80, u81, u82, u83, u84, u85, u86, u87, u88, u89, u90, u91, u92, u93, u94, u95, u96, u97, u98, u99, u100, u101, u102, u103, u104, u105, u106, u107, u108, u109, u110, u111, u112, u113, u114, u115, u116, u117, u118, u119, u120, u121, u122, u123, u124, u125, u126, u127, u128, u129, u130, u131, u132, u133, u134, u135, u136, u137, u138, u139, u140, u141, u142, u143, u144, u145, u146, u147, u148, u149, u150, u151, u152, u153, u154, u155, u156, u157, u158, u159, u160, u161, u162, u163, u164, u165, u166, u167, u168, u169, u170, u171, u172, u173, u174, u175, u176, u177, u178, u179, u180, u181, u182, u183, u184, u185, u186, u187, u188, u189, u190, u191, u192, u193, u194, u195, u196, u197, u198, u199, u200, u201, u202, u203, u204, u205, u206, u207, u208, u209, u210, u211, u212, u213, u214, u215, u216, u217, u218, u219, u220, u221, u222, u223, u224, u225, u226, u227, u228, u229, u230, u231, u232, u233, u234, u235, u236, u237, u238, u239, u240, u241, u242, u243, u244, u245, u246, u247, u248, u249, u250, u251, u252, u253, u254, u255, u256, u257, u258, u259, u260, u261, u262, u263, u264, u265, u266, u267, u268, u269, c270, c271, c272, c273, c274], []⟩ wr) (NoPanic Q0)) ⟨#[.slice a os.length cap, c1, u2, .pointer (some ⟨H, 0, none⟩), .pointer (some ⟨G, 0, none⟩), .pointer (some ⟨B5, 0, none⟩), .int .i64 i, u7, u8, u9, u10, u11, u12, u13, u14, u15, u16, u17, u18, u19, u20, u21, u22, u23, u24, u25, u26, c27, c28, c29, c30, c31, c32, c33, u34, u35, u36, u37, u38, u39, u40, u41, u42, u43, u44, u45, u46, u47, u48, u49, u50, u51, u52, u53, u54, u55, u56, u57, u58, u59, u60, u61, u62, u63, u64, u65, u66, u67, u68, u69, u70, u71, u72, u73, u74, u75, u76, u77, u78, u79, u80, u81, u82, u83, u84, u85, u86, u87, u88, u89, u90, u91, u92, u93, u94, u95, u96, u97, u98, u99, u100, u101, u102, u103, u104, u105, u106, u107, u108, u109, u110, u111, u112, u113, u114, u115, u116, u117, u118, u119, u120, u121, u122, u123, u124, u125, u126, u127, u128, u129, u130, u131, u132, u133, u134, u135, u136, u137, u138, u139, u140, u141, u142, u143, u144, u145, u146, u147, u148, u149, u150, u151, u152, u153, u154, u155, u156, u157, u158, u159, u160, u161, u162, u163, u164, u165, u166, u167, u168, u169, u170, u171, u172, u173, u174, u175, u176, u177, u178, u179, u180, u181, u182, u183, u184, u185, u186, u187, u188, u189, u190, u191, u192, u193, u194, u195, u196, u197, u198, u199, u200, u201, u202, u203, u204, u205, u206, u207, u208, u209, u210, u211, u212, u213, u214, u215, u216, u217, u218, u219, u220, u221, u222, u223, u224, u225, u226, u227, u228, u229, u230, u231, u232, u233, u234, u235, u236, u237, u238, u239, u240, u241, u242, u243, u244, u245, u246, u247, u248, u249, u250, u251, u252, u253, u254, u255, u256, u257, u258, u259, u260, u261, u262, u263, u264, u265, u266, u267, u268, u269, c270, c271, c272, c273, c274], []⟩ wr := by
  conv => arg 2; whnf
  obtain ⟨b, off, rfl, hcell⟩ := op_at (hc.below hS.below_) i hlt
  have e0 := hcell 0 (by omega)
  have e1 := hcell 1 (by omega)
  have e2 := hcell 2 (by omega)
  clear hcell
  rw [ho] at e0 e1 e2
  simp only [oc, Nat.add_zero] at e0 e1 e2
  clear ho
  obtain ⟨v, u, r, hP, c5, f5⟩ := hS
  obtain ⟨A, rc, rfl, _⟩ := hP.ir.slice
  go_wp2_with fail
  obtain ⟨W1, hW1⟩ : ∃ W1, W1 = wr.alloc (.cells #[.int .i64 o.kind, .int .i64 o.n, .int .i64 o.k] 44) := ⟨_, rfl⟩
  obtain ⟨B7, hB7⟩ : ∃ B7, B7 = wr.heap.size := ⟨_, rfl⟩
  have hO : OpB W1 B7 o := by rw [hW1, hB7]; exact OpB.new wr o
  have hP1 : PS w W1 H v G u (.slice A L.length rc) L L L [B7, B5] := by rw [hW1, hB7]; exact hP.alloc _
  have c51 : W1.cell? ⟨B5, 0, none⟩ = some (.slice A L.length rc) := by rw [hW1]; exact (((Below.refl _ wr).alloc (Nat.le_refl _) _).cell (World.block_lt_of_cell? _ _ c5)).trans c5
  have f51 : W1.frozen? ⟨B5, 0, none⟩ = false := by rw [hW1]; exact (((Below.refl _ wr).alloc (Nat.le_refl _) _).frozen (p := ⟨B5, 0, none⟩) (World.block_lt_of_cell? _ _ c5)).trans f5
  rw [← hW1, ← hB7]
  clear hP e0 e1 e2 c5 f5 hW1 hB7
  refine (small_any o.k W1).mono ?_
  rintro e W2 ⟨rfl, hb2⟩
  obtain ⟨hP2, hs2⟩ := hP1.below hb2
  have hsm := small_sm o.k
  obtain ⟨kk, hkk⟩ : ∃ kk, Int.tmod o.k 1000 = kk := ⟨_, rfl⟩
  rw [hkk] at hsm ⊢
  have hO2 : OpB W2 B7 o := hO.same hs2 (by simp)
  have c52 := hs2.cell (X := B5) (by simp) c51
  have f52 := hs2.frozen (X := B5) (by simp) f51
  have hL := hP2.len
  have hrsl : A = none → L.length = 0 := fun h => by
    by_cases h0 : L.length = 0
    · exact h0
    · obtain ⟨ad, cc, he⟩ := Kd.R_slice1 hP2.ir (by rw [LS_len]; omega)
      injection he with h1 _ _
      rw [h] at h1
      cases h1
  clear hP1 hO c51 f51 hb2 hs2 hkk
  obtain ⟨p0, p1, p2⟩ := id hO2
  have hk := hK.out
  rw [hk] at p0
  go_wp2_with fail
  have hPd := (hP2.below (Below.refl _ W2).drew).1
  have p1d : W2.drew.cell? ⟨B7, 1, none⟩ = some (.int .i64 o.n) := p1
  have c5d : W2.drew.cell? ⟨B5, 0, none⟩ = some (.slice A L.length rc) := c52
  have f5d : W2.drew.frozen? ⟨B5, 0, none⟩ = false := f52
  go_region_held3 (fun w' => w'.cell? ⟨B7, 1, none⟩ = some (.int .i64 o.n)) ((first | exact p1 | exact p1d | assumption))
    ((first
      | (go_at_call 10; refine (Drop_any H v L o.n _ hPd.ih).mono ?_; rintro e w3 ⟨rfl, hs⟩; obtain ⟨v3, hP3, hs3⟩ := hPd.stepH hs; have q3 := hs3.cell (X := B7) (by simp) p1d)
      | (go_at_call 22; refine (S.Drop_any G u L o.n _ hP3.ig).mono ?_; rintro e w5 ⟨rfl, hs⟩; obtain ⟨u5, hP5, hs5⟩ := hP3.stepG hs; have q5 := hs5.cell (X := B7) (by simp) q3)))
  have c55 := hs5.cell (X := B5) (by simp) (hs3.cell (X := B5) (by simp) c5d)
  have f55 := hs5.frozen (X := B5) (by simp) (hs3.frozen (X := B5) (by simp) f5d)
  clear hP2 hPd hP3 hs3 hs5 p1d q3 c5d f5d p1 p2 c52 f52
  go_wp2_with fail
  refine (refDrop_any hP5 hL o.n).mono ?_
  rintro e w6 ⟨r6, rfl, hP6, hs6⟩
  obtain ⟨A6, rc6, rfl, _⟩ := hP6.ir.slice
  have c56 := hs6.cell (X := B5) (by simp) c55
  have f56 := hs6.frozen (X := B5) (by simp) f55
  clear hP5 hs6 c55 f55 q5
  obtain ⟨W7, hW7⟩ : ∃ W7, W7 = w6.setCell ⟨B5, 0, none⟩ (.slice A6 (dropL L o.n).length rc6) := ⟨_, rfl⟩
  have hX : PS w W7 H v3 G u5 (.slice A6 (dropL L o.n).length rc6) (dropL L o.n) (dropL L o.n) (dropL L o.n) [B7, B5] := by rw [hW7]; exact hP6.set (by simp) 0 _
  have c59 : W7.cell? ⟨B5, 0, none⟩ = some (.slice A6 (dropL L o.n).length rc6) := by rw [hW7]; exact World.cell?_setCell_same _ _ _ c56
  have f59 : W7.frozen? ⟨B5, 0, none⟩ = false := by rw [hW7, World.frozen?_setCell]; exact f56
  have hq := hX.len
  generalize dropL L o.n = L9 at hX c59 hW7 hq hP6
  clear hP6
  go_wp2_with fail
  rw [← hW7]
  clear hW7
  have qc := fun n : ExtW W7 => exw_cell c59 n
  have eqE := fun n : Int => (show (n != n) = false by simp)
  have hbH := fun n : ExtW W7 => hX.ih.below (exw_below n)
  have hbG := fun n : ExtW W7 => hX.ig.below (exw_below n)
  refine region_ext (by kernel_rfl) (by kernel_rfl) ?_
  repeat (go_big_quiet_step ((first | (go_at_call 11; exact ext_same (Len_any H _ _ _ (hbH _))) | (go_at_call 34; exact ext_same (S.Len_any G _ _ _ (hbG _))))))
  refine wpQuiet_nil ?_
  intro _ hw'
  obtain ⟨nq, hw''⟩ := hw'
  subst hw''
  have hXd := (hX.below (exw_below nq)).1.drop
  have c5x := exw_cell c59 nq
  have f5x := ((exw_below nq).frozen (p := ⟨B5, 0, none⟩) (World.block_lt_of_cell? _ _ c59)).trans f59
  clear qc hbH hbG
  go_wp2
  unfold WI Wmu
  refine ⟨?_, by simp [kO]; omega⟩
  refine ⟨_, _, _, _, _, _, _, _, _, _, _, _, _, _, _, _, _, _, _, _, _, _, _, _, _, _, _, _, _, _, _, _, _, _, _, _, _, _, _, _, _, _, _, _, _, _, _, _, _, _, _, _, _, _, _, _, _, _, _, _, _, _, _, _, _, _, _, _, _, _, _, _, _, _, _, _, _, _, _, _, _, _, _, _, _, _, _, _, _, _, _, _, _, _, _, _, _, _, _, _, _, _, _, _, _, _, _, _, _, _, _, _, _, _, _, _, _, _, _, _, _, _, _, _, _, _, _, _, _, _, _, _, _, _, _, _, _, _, _, _, _, _, _, _, _, _, _, _, _, _, _, _, _, _, _, _, _, _, _, _, _, _, _, _, _, _, _, _, _, _, _, _, _, _, _, _, _, _, _, _, _, _, _, _, _, _, _, _, _, _, _, _, _, _, _, _, _, _, _, _, _, _, _, _, _, _, _, _, _, _, _, _, _, _, _, _, _, _, _, _, _, _, _, _, _, _, _, _, _, _, _, _, _, _, _, _, _, _, _, _, _, _, _, _, _, _, _, _, _, _, _, _, _, _, _, _, _, _, ?_, rfl⟩
  exact ⟨i + 1, _, by omega, by go_num, ⟨_, _, _, hXd, c5x, f5x⟩⟩
end Go.Proofs.Ytpapknmkiampgaa
namespace Go.Proofs.Ytpapknmkiampgaa
open Go.RowKit
open Go.Proofs.Ytpapknmkiampgaa.PHeapPlays Go.Proofs.YtpapknmkiampgaaW.PrintWords Go.Proofs.YtpapknmkiampgaaW.PrintMore Go.Proofs.YtpapknmkiampgaaW.PrintLast

set_option maxHeartbeats 40000000 in
set_option maxRecDepth 1000000 in
theorem play_6 (os : List OpD) (w wr : World) (H G B5 : Nat) (a : Option Addr) (cap : Nat) (c1 c27 c28 c29 c30 c31 c32 c33 c270 c271 c272 c273 c274 u2 u7 u8 u9 u10 u11 u12 u13 u14 u15 u16 u17 u18 u19 u20 u21 u22 u23 u24 u25 u26 u34 u35 u36 u37 u38 u39 u40 u41 u42 u43 u44 u45 u46 u47 u48 u49 u50 u51 u52 u53 u54 u55 u56 u57 u58 u59 u60 u61 u62 u63 u64 u65 u66 u67 u68 u69 u70 u71 u72 u73 u74 u75 u76 u77 u78 u79 u80 u81 u82 u83 u84 u85 u86 u87 u88 u89 u90 u91 u92 u93 u94 u95 u96 u97 u98 u99 u100 u101 u102 u103 u104 u105 u106 u107 u108 u109 u110 u111 u112 u113 u114 u115 u116 u117 u118 u119 u120 u121 u122 u123 u124 u125 u126 u127 u128 u129 u130 u131 u132 u133 u134 u135 u136 u137 u138 u139 u140 u141 u142 u143 u144 u145 u146 u147 u148 u149 u150 u151 u152 u153 u154 u155 u156 u157 u158 u159 u160 u161 u162 u163 u164 u165 u166 u167 u168 u169 u170 u171 u172 u173 u174 u175 u176 u177 u178 u179 u180 u181 u182 u183 u184 u185 u186 u187 u188 u189 u190 u191 u192 u193 u194 u195 u196 u197 u198 u199 u200 u201 u202 u203 u204 u205 u206 u207 u208 u209 u210 u211 u212 u213 u214 u215 u216 u217 u218 u219 u220 u221 u222 u223 u224 u225 u226 u227 u228 u229 u230 u231 u232 u233 u234 u235 u236 u237 u238 u239 u240 u241 u242 u243 u244 u245 u246 u247 u248 u249 u250 u251 u252 u253 u254 u255 u256 u257 u258 u259 u260 u261 u262 u263 u264 u265 u266 u267 u268 u269 : Value) (Q0 : Exit → Act → World → Prop) (hm : os.length ≤ 9223372036854775807)
    (hc : SlR w 3 (.slice a os.length cap) os.length (os.flatMap oc)) (i : Nat) (L : List En) (hS : SW w H G B5 L wr) (hlt : i < os.length) (o : OpD) (ho : os[i] = o) (h1 : ¬ o.kind = 1) (h2 : ¬ o.kind = 2) (h5 : ¬ o.kind = 5) (hK : Veil (o.kind = 6)) :
    Code.wp Try.prog body (Exit.then (fun a' w'' => WI os.length w H G B5 a cap c1 c27 c28 c29 c30 c31 c32 c33 c270 c271 c272 c273 c274 a' w'' ∧ Wmu os.length a' w'' < Wmu os.length ⟨#[.slice a os.length cap, c1, u2, .pointer (some ⟨H, 0, none⟩), .pointer (some ⟨G, 0, none⟩), .pointer (some ⟨B5, 0, none⟩), .int .i64 i, u7, u8, u9, u10, u11, u12, u13, u14, u15, u16, u17, u18, u19, u20, u21, u22, u23, u24, u25, u26, c27, c28, c29, c30, c31, c32, c33, u34, u35, u36, u37, u38, u39, u40, u41, u42, u43, u44, u45, u46, u47, u48, u49, u50, u51, u52, u53, u54, u55, u56, u57, u58, u59, u60, u61, u62, u63, u64, u65, u66, u67, u68, u69, u70, u71, u72, u73, u74, u75, u76, u77, u78, u79, u80, u81, u82, u83, u84, u85, u86, u87, u88, u89, u90, u91, u92, u93, u94, u95, u96, u97, u98, u99, u100, u101, u102, u103, u104, u105, u106, u107, u108, u109, u110, u111, u112, u113, u114, u115, u116, u117, u118, u119, u120, u121, u122, u123, u124, u125, u126, u127, u128, u129, u130, u131, u132, u133, u134, u135, u136, u137, u138, u139, u140, u141, u142, u143, u144, u145, u146, u147, u148, u149, u150, u151, u152, u153, u154, u155, u156, u157, u158, u159, u160, u161, u162, u163, u164, u165, u166, u167, u168, u169, u170, u171, u172, u173, u174, u175, u176, u177, u178, u179, u180, u181, u182, u183, u184, u185, u186, u187, u188, u189, u190, u191, u192, u193, u194, u195, u196, u197, u198, u199, u200, u201, u202, u203, u204, u205, u206, u207, u208, u209, u210, u211, u212, u213, u214, u215, u216, u217, u218, u219, u220, u221, u222, u223, u224, u225, u226, u227, u228, u229, u230, u231, u232, u233, u234, u235, u236, u237, u238, u239, u240, u241, u242, u243, u244, u245, u246, u247, u248, u249, u250, u251, u252, u253, u254, u255, u256, u257, u258, u259, u260, u261, u262, u263, u264, u265, u266, u267, u268, u269, c270, c271, c272, c273, c274], []⟩ wr) (NoPanic Q0)) ⟨#[.slice a os.length cap, c1, u2, .pointer (some ⟨H, 0, none⟩), .pointer (some ⟨G, 0, none⟩), .pointer (some ⟨B5, 0, none⟩), .int .i64 i, u7, u8, u9, u10, u11, u12, u13, u14, u15, u16, u17, u18, u19, u20, u21, u22, u23, u24, u25, u26, c27, c28, c29, c30, c31, c32, c33, u34, u35, u36, u37, u38, u39, u40, u41, u42, u43, u44, u45, u46, u47, u48, u49, u50, u51, u52, u53, u54, u55, u56, u57, u58, u59, u60, u61, u62, u63, u64, u65, u66, u67, u68, u69, u70, u71, u72, u73, u74, u75, u76, u77, u78, u79, u80, u81, u82, u83, u84, u85, u86, u87, u88, u89, u90, u91, u92, u93, u94, u95, u96, u97, u98, u99, u100, u101, u102, u103, u104, u105, u106, u107, u108, u109, u110, u111, u112, u113, u114, u115, u116, u117, u118, u119, u120, u121, u122, u123, u124, u125, u126, u127, u128, u129, u130, u131, u132, u133, u134, u135, u136, u137, u138, u139, u140, u141, u142, u143, u144, u145, u146, u147, u148, u149, u150, u151, u152, u153, u154, u155, u156, u157, u158, u159, u160, u161, u162, u163, u164, u165, u166, u167, u168, u169, u170, u171, u172, u173, u174, u175, u176, u177, u178, u179, u180, u181, u182, u183, u184, u185, u186, u187, u188, u189, u190, u191, u192, u193, u194, u195, u196, u197, u198, u199, u200, u201, u202, u203, u204, u205, u206, u207, u208, u209, u210, u211, u212, u213, u214, u215, u216, u217, u218, u219, u220, u221, u222, u223, u224, u225, u226, u227, u228, u229, u230, u231, u232, u233, u234, u235, u236, u237, u238, u239, u240, u241, u242, u243, u244, u245, u246, u247, u248, u249, u250, u251, u252, u253, u254, u255, u256, u257, u258, u259, u260, u261, u262, u263, u264, u265, u266, u267, u268, u269, c270, c271, c272, c273, c274], []⟩ wr := by
  conv => arg 2; whnf
  obtain ⟨b, off, rfl, hcell⟩ := op_at (hc.below hS.below_) i hlt
  have e0 := hcell 0 (by omega)
  have e1 := hcell 1 (by omega)
  have e2 := hcell 2 (by omega)
  clear hcell
  rw [ho] at e0 e1 e2
  simp only [oc, Nat.add_zero] at e0 e1 e2
  clear ho
  obtain ⟨v, u, r, hP, c5, f5⟩ := hS
  obtain ⟨A, rc, rfl, _⟩ := hP.ir.slice
  go_wp2_with fail
  obtain ⟨W1, hW1⟩ : ∃ W1, W1 = wr.alloc (.cells #[.int .i64 o.kind, .int .i64 o.n, .int .i64 o.k] 44) := ⟨_, rfl⟩
  obtain ⟨B7, hB7⟩ : ∃ B7, B7 = wr.heap.size := ⟨_, rfl⟩
  have hO : OpB W1 B7 o := by rw [hW1, hB7]; exact OpB.new wr o
  have hP1 : PS w W1 H v G u (.slice A L.length rc) L L L [B7, B5] := by rw [hW1, hB7]; exact hP.alloc _
  have c51 : W1.cell? ⟨B5, 0, none⟩ = some (.slice A L.length rc) := by rw [hW1]; exact (((Below.refl _ wr).alloc (Nat.le_refl _) _).cell (World.block_lt_of_cell? _ _ c5)).trans c5
  have f51 : W1.frozen? ⟨B5, 0, none⟩ = false := by rw [hW1]; exact (((Below.refl _ wr).alloc (Nat.le_refl _) _).frozen (p := ⟨B5, 0, none⟩) (World.block_lt_of_cell? _ _ c5)).trans f5
  rw [← hW1, ← hB7]
  clear hP e0 e1 e2 c5 f5 hW1 hB7
  refine (small_any o.k W1).mono ?_
  rintro e W2 ⟨rfl, hb2⟩
  obtain ⟨hP2, hs2⟩ := hP1.below hb2
  have hsm := small_sm o.k
  obtain ⟨kk, hkk⟩ : ∃ kk, Int.tmod o.k 1000 = kk := ⟨_, rfl⟩
  rw [hkk] at hsm ⊢
  have hO2 : OpB W2 B7 o := hO.same hs2 (by simp)
  have c52 := hs2.cell (X := B5) (by simp) c51
  have f52 := hs2.frozen (X := B5) (by simp) f51
  have hL := hP2.len
  have hrsl : A = none → L.length = 0 := fun h => by
    by_cases h0 : L.length = 0
    · exact h0
    · obtain ⟨ad, cc, he⟩ := Kd.R_slice1 hP2.ir (by rw [LS_len]; omega)
      injection he with h1 _ _
      rw [h] at h1
      cases h1
  clear hP1 hO c51 f51 hb2 hs2 hkk
  obtain ⟨p0, p1, p2⟩ := id hO2
  have hk := hK.out
  rw [hk] at p0
  obtain ⟨x, c, hxc⟩ : ∃ x c, keyR L o.n = (x, c) := ⟨_, _, rfl⟩
  have hsx := key_sm hP2.smG hxc
  have hk1 := fun w3 (h : HB w3 H v L) => Key_any H v L o.n w3 h
  have hk2 := fun w3 (h : S.HB w3 G u L) => S.Key_any G u L o.n w3 h
  have hk3 := fun w3 (h : RR w3 w.heap.size (.slice A L.length rc) L) => refKey_any h hL o.n
  simp only [hxc, kv, S.kv] at hk1 hk2 hk3
  clear hxc
  have eqE := fun n : Int => (show (n != n) = false by simp)
  by_cases hc : c = 0
  · have hsx0 := hsx hc
    clear hsx
    simp only [hc, if_true] at hk1 hk2 hk3
    go_wp2_with (first
    | (go_at_call 24; refine (hk1 _ hP2.ih).mono ?_; rintro e w3 ⟨rfl, hb3⟩; obtain ⟨hP3, hs3⟩ := hP2.below hb3; have q3 := hs3.cell (X := B7) (by simp) p1; dsimp only)
    | (go_at_call 25; refine (hk2 _ hP3.ig).mono ?_; rintro e w4 ⟨rfl, hb4⟩; obtain ⟨hP4, hs4⟩ := hP3.below hb4; have q4 := hs4.cell (X := B7) (by simp) q3; have c54 := hs4.cell (X := B5) (by simp) (hs3.cell (X := B5) (by simp) c52); have f54 := hs4.frozen (X := B5) (by simp) (hs3.frozen (X := B5) (by simp) f52); dsimp only)
    | (go_at_call 26; refine (hk3 _ hP4.ir).mono ?_; rintro e w5 ⟨rfl, hb5⟩; obtain ⟨hP5, hs5⟩ := hP4.below hb5; have c55 := hs5.cell (X := B5) (by simp) c54; have f55 := hs5.frozen (X := B5) (by simp) f54; dsimp only)
    | (go_at_call 17; refine (text_any x _ hsx0).mono ?_; rintro e w6 ⟨rfl, hb6⟩; obtain ⟨hP6, hs6⟩ := hP5.below hb6; have c56 := hs6.cell (X := B5) (by simp) c55; have f56 := hs6.frozen (X := B5) (by simp) f55; dsimp only))

    have hX := hP6
    have c59 := c56
    have f59 := f56
    have hq := hX.len
    obtain ⟨W7, hW7⟩ : ∃ W7, W7 = w6 := ⟨_, rfl⟩
    rw [← hW7] at hX c59 f59
    rw [← hW7]
    generalize L = L9 at hX c59 hW7 hq
    clear hW7
    have qc := fun n : ExtW W7 => exw_cell c59 n
    have eqE := fun n : Int => (show (n != n) = false by simp)
    have hbH := fun n : ExtW W7 => hX.ih.below (exw_below n)
    have hbG := fun n : ExtW W7 => hX.ig.below (exw_below n)
    refine region_ext (by kernel_rfl) (by kernel_rfl) ?_
    repeat (go_big_quiet_step ((first | (go_at_call 11; exact ext_same (Len_any H _ _ _ (hbH _))) | (go_at_call 34; exact ext_same (S.Len_any G _ _ _ (hbG _))))))
    refine wpQuiet_nil ?_
    intro _ hw'
    obtain ⟨nq, hw''⟩ := hw'
    subst hw''
    have hXd := (hX.below (exw_below nq)).1.drop
    have c5x := exw_cell c59 nq
    have f5x := ((exw_below nq).frozen (p := ⟨B5, 0, none⟩) (World.block_lt_of_cell? _ _ c59)).trans f59
    clear qc hbH hbG
    go_wp2
    unfold WI Wmu
    refine ⟨?_, by simp [kO]; omega⟩
    refine ⟨_, _, _, _, _, _, _, _, _, _, _, _, _, _, _, _, _, _, _, _, _, _, _, _, _, _, _, _, _, _, _, _, _, _, _, _, _, _, _, _, _, _, _, _, _, _, _, _, _, _, _, _, _, _, _, _, _, _, _, _, _, _, _, _, _, _, _, _, _, _, _, _, _, _, _, _, _, _, _, _, _, _, _, _, _, _, _, _, _, _, _, _, _, _, _, _, _, _, _, _, _, _, _, _, _, _, _, _, _, _, _, _, _, _, _, _, _, _, _, _, _, _, _, _, _, _, _, _, _, _, _, _, _, _, _, _, _, _, _, _, _, _, _, _, _, _, _, _, _, _, _, _, _, _, _, _, _, _, _, _, _, _, _, _, _, _, _, _, _, _, _, _, _, _, _, _, _, _, _, _, _, _, _, _, _, _, _, _, _, _, _, _, _, _, _, _, _, _, _, _, _, _, _, _, _, _, _, _, _, _, _, _, _, _, _, _, _, _, _, _, _, _, _, _, _, _, _, _, _, _, _, _, _, _, _, _, _, _, _, _, _, _, _, _, _, _, _, _, _, _, _, _, _, _, _, _, _, _, ?_, rfl⟩
    exact ⟨i + 1, _, by omega, by go_num, ⟨_, _, _, hXd, c5x, f5x⟩⟩
  · clear hsx
    have hc1 : (c == 0) = false := by simpa using hc
    have hc2 : (c != 0) = true := by simpa using hc
    simp only [hc, if_false] at hk2
    go_wp2_with (first
    | (go_at_call 24; refine (hk1 _ hP2.ih).mono ?_; rintro e w3 ⟨rfl, hb3⟩; obtain ⟨hP3, hs3⟩ := hP2.below hb3; have q3 := hs3.cell (X := B7) (by simp) p1; dsimp only)
    | (go_at_call 25; refine (hk2 _ hP3.ig).mono ?_; rintro e w4 ⟨rfl, hb4⟩; obtain ⟨hP4, hs4⟩ := hP3.below hb4; have q4 := hs4.cell (X := B7) (by simp) q3; have c54 := hs4.cell (X := B5) (by simp) (hs3.cell (X := B5) (by simp) c52); have f54 := hs4.frozen (X := B5) (by simp) (hs3.frozen (X := B5) (by simp) f52); dsimp only)
    | (go_at_call 26; refine (hk3 _ hP4.ir).mono ?_; rintro e w5 ⟨rfl, hb5⟩; obtain ⟨hP5, hs5⟩ := hP4.below hb5; have c55 := hs5.cell (X := B5) (by simp) c54; have f55 := hs5.frozen (X := B5) (by simp) f54; dsimp only)
    | (go_at_call 17; refine (text_any x _ hsx0).mono ?_; rintro e w6 ⟨rfl, hb6⟩; obtain ⟨hP6, hs6⟩ := hP5.below hb6; have c56 := hs6.cell (X := B5) (by simp) c55; have f56 := hs6.frozen (X := B5) (by simp) f55; dsimp only))

    have hX := hP5
    have c59 := c55
    have f59 := f55
    have hq := hX.len
    obtain ⟨W7, hW7⟩ : ∃ W7, W7 = w5 := ⟨_, rfl⟩
    rw [← hW7] at hX c59 f59
    rw [← hW7]
    generalize L = L9 at hX c59 hW7 hq
    clear hW7
    have qc := fun n : ExtW W7 => exw_cell c59 n
    have eqE := fun n : Int => (show (n != n) = false by simp)
    have hbH := fun n : ExtW W7 => hX.ih.below (exw_below n)
    have hbG := fun n : ExtW W7 => hX.ig.below (exw_below n)
    refine region_ext (by kernel_rfl) (by kernel_rfl) ?_
    repeat (go_big_quiet_step ((first | (go_at_call 11; exact ext_same (Len_any H _ _ _ (hbH _))) | (go_at_call 34; exact ext_same (S.Len_any G _ _ _ (hbG _))))))
    refine wpQuiet_nil ?_
    intro _ hw'
    obtain ⟨nq, hw''⟩ := hw'
    subst hw''
    have hXd := (hX.below (exw_below nq)).1.drop
    have c5x := exw_cell c59 nq
    have f5x := ((exw_below nq).frozen (p := ⟨B5, 0, none⟩) (World.block_lt_of_cell? _ _ c59)).trans f59
    clear qc hbH hbG
    go_wp2
    unfold WI Wmu
    refine ⟨?_, by simp [kO]; omega⟩
    refine ⟨_, _, _, _, _, _, _, _, _, _, _, _, _, _, _, _, _, _, _, _, _, _, _, _, _, _, _, _, _, _, _, _, _, _, _, _, _, _, _, _, _, _, _, _, _, _, _, _, _, _, _, _, _, _, _, _, _, _, _, _, _, _, _, _, _, _, _, _, _, _, _, _, _, _, _, _, _, _, _, _, _, _, _, _, _, _, _, _, _, _, _, _, _, _, _, _, _, _, _, _, _, _, _, _, _, _, _, _, _, _, _, _, _, _, _, _, _, _, _, _, _, _, _, _, _, _, _, _, _, _, _, _, _, _, _, _, _, _, _, _, _, _, _, _, _, _, _, _, _, _, _, _, _, _, _, _, _, _, _, _, _, _, _, _, _, _, _, _, _, _, _, _, _, _, _, _, _, _, _, _, _, _, _, _, _, _, _, _, _, _, _, _, _, _, _, _, _, _, _, _, _, _, _, _, _, _, _, _, _, _, _, _, _, _, _, _, _, _, _, _, _, _, _, _, _, _, _, _, _, _, _, _, _, _, _, _, _, _, _, _, _, _, _, _, _, _, _, _, _, _, _, _, _, _, _, _, _, _, ?_, rfl⟩
    exact ⟨i + 1, _, by omega, by go_num, ⟨_, _, _, hXd, c5x, f5x⟩⟩
end Go.Proofs.Ytpapknmkiampgaa
namespace Go.Proofs.Ytpapknmkiampgaa
open Go.RowKit
open Go.Proofs.Ytpapknmkiampgaa.PHeapPlays Go.Proofs.YtpapknmkiampgaaW.PrintWords Go.Proofs.YtpapknmkiampgaaW.PrintMore Go.Proofs.YtpapknmkiampgaaW.PrintLast

set_option maxHeartbeats 40000000 in
set_option maxRecDepth 1000000 in
theorem play_3 (os : List OpD) (w wr : World) (H G B5 : Nat) (a : Option Addr) (cap : Nat) (c1 c27 c28 c29 c30 c31 c32 c33 c270 c271 c272 c273 c274 u2 u7 u8 u9 u10 u11 u12 u13 u14 u15 u16 u17 u18 u19 u20 u21 u22 u23 u24 u25 u26 u34 u35 u36 u37 u38 u39 u40 u41 u42 u43 u44 u45 u46 u47 u48 u49 u50 u51 u52 u53 u54 u55 u56 u57 u58 u59 u60 u61 u62 u63 u64 u65 u66 u67 u68 u69 u70 u71 u72 u73 u74 u75 u76 u77 u78 u79 u80 u81 u82 u83 u84 u85 u86 u87 u88 u89 u90 u91 u92 u93 u94 u95 u96 u97 u98 u99 u100 u101 u102 u103 u104 u105 u106 u107 u108 u109 u110 u111 u112 u113 u114 u115 u116 u117 u118 u119 u120 u121 u122 u123 u124 u125 u126 u127 u128 u129 u130 u131 u132 u133 u134 u135 u136 u137 u138 u139 u140 u141 u142 u143 u144 u145 u146 u147 u148 u149 u150 u151 u152 u153 u154 u155 u156 u157 u158 u159 u160 u161 u162 u163 u164 u165 u166 u167 u168 u169 u170 u171 u172 u173 u174 u175 u176 u177 u178 u179 u180 u181 u182 u183 u184 u185 u186 u187 u188 u189 u190 u191 u192 u193 u194 u195 u196 u197 u198 u199 u200 u201 u202 u203 u204 u205 u206 u207 u208 u209 u210 u211 u212 u213 u214 u215 u216 u217 u218 u219 u220 u221 u222 u223 u224 u225 u226 u227 u228 u229 u230 u231 u232 u233 u234 u235 u236 u237 u238 u239 u240 u241 u242 u243 u244 u245 u246 u247 u248 u249 u250 u251 u252 u253 u254 u255 u256 u257 u258 u259 u260 u261 u262 u263 u264 u265 u266 u267 u268 u269 : Value) (Q0 : Exit → Act → World → Prop) (hm : os.length ≤ 9223372036854775807)
    (hc : SlR w 3 (.slice a os.length cap) os.length (os.flatMap oc)) (i : Nat) (L : List En) (hS : SW w H G B5 L wr) (hlt : i < os.length) (o : OpD) (ho : os[i] = o) (h1 : ¬ o.kind = 1) (h2 : ¬ o.kind = 2) (h5 : ¬ o.kind = 5) (h6 : ¬ o.kind = 6) (hK : Veil (o.kind = 3)) :
    Code.wp Try.prog body (Exit.then (fun a' w'' => WI os.length w H G B5 a cap c1 c27 c28 c29 c30 c31 c32 c33 c270 c271 c272 c273 c274 a' w'' ∧ Wmu os.length a' w'' < Wmu os.length ⟨#[.slice a os.length cap, c1, u2, .pointer (some ⟨H, 0, none⟩), .pointer (some ⟨G, 0, none⟩), .pointer (some ⟨B5, 0, none⟩), .int .i64 i, u7, u8, u9, u10, u11, u12, u13, u14, u15, u16, u17, u18, u19, u20, u21, u22, u23, u24, u25, u26, c27, c28, c29, c30, c31, c32, c33, u34, u35, u36, u37, u38, u39, u40, u41, u42, u43, u44, u45, u46, u47, u48, u49, u50, u51, u52, u53, u54, u55, u56, u57, u58, u59, u60, u61, u62, u63, u64, u65, u66, u67, u68, u69, u70, u71, u72, u73, u74, u75, u76, u77, u78, u79, u80, u81, u82, u83, u84, u85, u86, u87, u88, u89, u90, u91, u92, u93, u94, u95, u96, u97, u98, u99, u100, u101, u102, u103, u104, u105, u106, u107, u108, u109, u110, u111, u112, u113, u114, u115, u116, u117, u118, u119, u120, u121, u122, u123, u124, u125, u126, u127, u128, u129, u130, u131, u132, u133, u134, u135, u136, u137, u138, u139, u140, u141, u142, u143, u144, u145, u146, u147, u148, u149, u150, u151, u152, u153, u154, u155, u156, u157, u158, u159, u160, u161, u162, u163, u164, u165, u166, u167, u168, u169, u170, u171, u172, u173, u174, u175, u176, u177, u178, u179, u180, u181, u182, u183, u184, u185, u186, u187, u188, u189, u190, u191, u192, u193, u194, u195, u196, u197, u198, u199, u200, u201, u202, u203, u204, u205, u206, u207, u208, u209, u210, u211, u212, u213, u214, u215, u216, u217, u218, u219, u220, u221, u222, u223, u224, u225, u226, u227, u228, u229, u230, u231, u232, u233, u234, u235, u236, u237, u238, u239, u240, u241, u242, u243, u244, u245, u246, u247, u248, u249, u250, u251, u252, u253, u254, u255, u256, u257, u258, u259, u260, u261, u262, u263, u264, u265, u266, u267, u268, u269, c270, c271, c272, c273, c274], []⟩ wr) (NoPanic Q0)) ⟨#[.slice a os.length cap, c1, u2, .pointer (some ⟨H, 0, none⟩), .pointer (some ⟨G, 0, none⟩), .pointer (some ⟨B5, 0, none⟩), .int .i64 i, u7, u8, u9, u10, u11, u12, u13, u14, u15, u16, u17, u18, u19, u20, u21, u22, u23, u24, u25, u26, c27, c28, c29, c30, c31, c32, c33, u34, u35, u36, u37, u38, u39, u40, u41, u42, u43, u44, u45, u46, u47, u48, u49, u50, u51, u52, u53, u54, u55, u56, u57, u58, u59, u60, u61, u62, u63, u64, u65, u66, u67, u68, u69, u70, u71, u72, u73, u74, u75, u76, u77, u78, u79, u80, u81, u82, u83, u84, u85, u86, u87, u88, u89, u90, u91, u92, u93, u94, u95, u96, u97, u98, u99, u100, u101, u102, u103, u104, u105, u106, u107, u108, u109, u110, u111, u112, u113, u114, u115, u116, u117, u118, u119, u120, u121, u122, u123, u124, u125, u126, u127, u128, u129, u130, u131, u132, u133, u134, u135, u136, u137, u138, u139, u140, u141, u142, u143, u144, u145, u146, u147, u148, u149, u150, u151, u152, u153, u154, u155, u156, u157, u158, u159, u160, u161, u162, u163, u164, u165, u166, u167, u168, u169, u170, u171, u172, u173, u174, u175, u176, u177, u178, u179, u180, u181, u182, u183, u184, u185, u186, u187, u188, u189, u190, u191, u192, u193, u194, u195, u196, u197, u198, u199, u200, u201, u202, u203, u204, u205, u206, u207, u208, u209, u210, u211, u212, u213, u214, u215, u216, u217, u218, u219, u220, u221, u222, u223, u224, u225, u226, u227, u228, u229, u230, u231, u232, u233, u234, u235, u236, u237, u238, u239, u240, u241, u242, u243, u244, u245, u246, u247, u248, u249, u250, u251, u252, u253, u254, u255, u256, u257, u258, u259, u260, u261, u262, u263, u264, u265, u266, u267, u268, u269, c270, c271, c272, c273, c274], []⟩ wr := by
  conv => arg 2; whnf
  obtain ⟨b, off, rfl, hcell⟩ := op_at (hc.below hS.below_) i hlt
  have e0 := hcell 0 (by omega)
  have e1 := hcell 1 (by omega)
  have e2 := hcell 2 (by omega)
  clear hcell
  rw [ho] at e0 e1 e2
  simp only [oc, Nat.add_zero] at e0 e1 e2
  clear ho
  obtain ⟨v, u, r, hP, c5, f5⟩ := hS
  obtain ⟨A, rc, rfl, _⟩ := hP.ir.slice
  go_wp2_with fail
  obtain ⟨W1, hW1⟩ : ∃ W1, W1 = wr.alloc (.cells #[.int .i64 o.kind, .int .i64 o.n, .int .i64 o.k] 44) := ⟨_, rfl⟩
  obtain ⟨B7, hB7⟩ : ∃ B7, B7 = wr.heap.size := ⟨_, rfl⟩
  have hO : OpB W1 B7 o := by rw [hW1, hB7]; exact OpB.new wr o
  have hP1 : PS w W1 H v G u (.slice A L.length rc) L L L [B7, B5] := by rw [hW1, hB7]; exact hP.alloc _
  have c51 : W1.cell? ⟨B5, 0, none⟩ = some (.slice A L.length rc) := by rw [hW1]; exact (((Below.refl _ wr).alloc (Nat.le_refl _) _).cell (World.block_lt_of_cell? _ _ c5)).trans c5
  have f51 : W1.frozen? ⟨B5, 0, none⟩ = false := by rw [hW1]; exact (((Below.refl _ wr).alloc (Nat.le_refl _) _).frozen (p := ⟨B5, 0, none⟩) (World.block_lt_of_cell? _ _ c5)).trans f5
  rw [← hW1, ← hB7]
  clear hP e0 e1 e2 c5 f5 hW1 hB7
  refine (small_any o.k W1).mono ?_
  rintro e W2 ⟨rfl, hb2⟩
  obtain ⟨hP2, hs2⟩ := hP1.below hb2
  have hsm := small_sm o.k
  obtain ⟨kk, hkk⟩ : ∃ kk, Int.tmod o.k 1000 = kk := ⟨_, rfl⟩
  rw [hkk] at hsm ⊢
  have hO2 : OpB W2 B7 o := hO.same hs2 (by simp)
  have c52 := hs2.cell (X := B5) (by simp) c51
  have f52 := hs2.frozen (X := B5) (by simp) f51
  have hL := hP2.len
  have hrsl : A = none → L.length = 0 := fun h => by
    by_cases h0 : L.length = 0
    · exact h0
    · obtain ⟨ad, cc, he⟩ := Kd.R_slice1 hP2.ir (by rw [LS_len]; omega)
      injection he with h1 _ _
      rw [h] at h1
      cases h1
  clear hP1 hO c51 f51 hb2 hs2 hkk
  obtain ⟨p0, p1, p2⟩ := id hO2
  have hk := hK.out
  rw [hk] at p0
  have pp2 := p0
  obtain ⟨n, x, c, htx⟩ : ∃ n x c, topE L = (n, x, c) := ⟨_, _, _, rfl⟩
  have hsx := top_sm hP2.smG htx
  have hk1 := fun w3 (h : HB w3 H v L) => Top_any H v L w3 h
  have hk2 := fun w3 (h : S.HB w3 G u L) => S.Top_any G u L w3 h
  have hk3 := fun w3 (h : RR w3 w.heap.size (.slice A L.length rc) L) => refTop_any h
  simp only [topR_E, S.topR_E, htx, kv, S.kv] at hk1 hk2 hk3
  have hk4 := fun w3 (h : HB w3 H v L) => Pop_any H v L w3 h
  have hk5 := fun w3 (h : S.HB w3 G u L) => S.Pop_any G u L w3 h
  have hdl := top_some hP2.ih htx
  have htl := top_tail htx
  simp only [topR_E, S.topR_E, htx, kv, S.kv] at hk4 hk5
  have hk6 := fun (w3 : World) (v3 u3 : Value) (T : List En) (h : PS w w3 H v3 G u3 (.slice A L.length rc) T T L [B7, B5]) => refDrop_any h hL n
  clear htx
  have eqE := fun n : Int => (show (n != n) = false by simp)
  by_cases hc : c = 0
  · have hsx0 := hsx hc
    clear hsx
    have hdl0 := hdl hc
    simp only [hdl0] at hk6
    clear hdl hdl0 htl
    generalize L.tail = T at hk4 hk5 hk6
    simp only [hc, if_true] at hk1 hk2 hk3 hk4 hk5
    go_wp2_with (first
    | (go_at_call 27; refine (hk3 _ hP2.ir).mono ?_; rintro e w3 ⟨rfl, hb3⟩; obtain ⟨hP3, hs3⟩ := hP2.below hb3; have pp3 := hs3.cell (X := B7) (by simp) pp2; have c53 := hs3.cell (X := B5) (by simp) c52; have f53 := hs3.frozen (X := B5) (by simp) f52; dsimp only)
    | (go_at_call 28; refine (hk1 _ hP3.ih).mono ?_; rintro e w4 ⟨rfl, hb4⟩; obtain ⟨hP4, hs4⟩ := hP3.below hb4; have pp4 := hs4.cell (X := B7) (by simp) pp3; have c54 := hs4.cell (X := B5) (by simp) c53; have f54 := hs4.frozen (X := B5) (by simp) f53; dsimp only)
    | (go_at_call 29; refine (hk2 _ hP4.ig).mono ?_; rintro e w5 ⟨rfl, hb5⟩; obtain ⟨hP5, hs5⟩ := hP4.below hb5; have pp5 := hs5.cell (X := B7) (by simp) pp4; have c55 := hs5.cell (X := B5) (by simp) c54; have f55 := hs5.frozen (X := B5) (by simp) f54; dsimp only)
    | (go_at_call 12; refine (hk4 _ hP5.ih).mono ?_; rintro e w6 ⟨rfl, hs⟩; obtain ⟨v6, hP6, hs6⟩ := hP5.stepH hs; have pp6 := hs6.cell (X := B7) (by simp) pp5; have c56 := hs6.cell (X := B5) (by simp) c55; have f56 := hs6.frozen (X := B5) (by simp) f55; dsimp only)
    | (go_at_call 30; refine (hk5 _ hP6.ig).mono ?_; rintro e w7 ⟨rfl, hs⟩; obtain ⟨u7, hP7, hs7⟩ := hP6.stepG hs; have pp7 := hs7.cell (X := B7) (by simp) pp6; have c57 := hs7.cell (X := B5) (by simp) c56; have f57 := hs7.frozen (X := B5) (by simp) f56; dsimp only)
    | (go_at_call 17; refine (text_any x _ hsx0).mono ?_; rintro e w8 ⟨rfl, hb8⟩; obtain ⟨hP8, hs8⟩ := hP7.below hb8; have pp8 := hs8.cell (X := B7) (by simp) pp7; have c58 := hs8.cell (X := B5) (by simp) c57; have f58 := hs8.frozen (X := B5) (by simp) f57; dsimp only)
    | (go_at_call 23; refine (hk6 _ _ _ _ hP8).mono ?_; rintro e w9 ⟨r9, rfl, hP9, hs9⟩; obtain ⟨A9, rc9, rfl, _⟩ := hP9.ir.slice; have c59' := hs9.cell (X := B5) (by simp) c58; have f59' := hs9.frozen (X := B5) (by simp) f58; dsimp only))
    obtain ⟨W7, hW7⟩ : ∃ W7, W7 = w9.setCell ⟨B5, 0, none⟩ (.slice A9 T.length rc9) := ⟨_, rfl⟩
    have hX : PS w W7 H v6 G u7 (.slice A9 T.length rc9) T T T [B7, B5] := by rw [hW7]; exact hP9.set (by simp) 0 _
    have c59 : W7.cell? ⟨B5, 0, none⟩ = some (.slice A9 T.length rc9) := by rw [hW7]; exact World.cell?_setCell_same _ _ _ c59'
    have f59 : W7.frozen? ⟨B5, 0, none⟩ = false := by rw [hW7, World.frozen?_setCell]; exact f59'
    have hq := hX.len
    rw [← hW7]
    generalize T = L9 at hX c59 hW7 hq
    clear hP9
    clear hW7
    have qc := fun n : ExtW W7 => exw_cell c59 n
    have eqE := fun n : Int => (show (n != n) = false by simp)
    have hbH := fun n : ExtW W7 => hX.ih.below (exw_below n)
    have hbG := fun n : ExtW W7 => hX.ig.below (exw_below n)
    refine region_ext (by kernel_rfl) (by kernel_rfl) ?_
    repeat (go_big_quiet_step ((first | (go_at_call 11; exact ext_same (Len_any H _ _ _ (hbH _))) | (go_at_call 34; exact ext_same (S.Len_any G _ _ _ (hbG _))))))
    refine wpQuiet_nil ?_
    intro _ hw'
    obtain ⟨nq, hw''⟩ := hw'
    subst hw''
    have hXd := (hX.below (exw_below nq)).1.drop
    have c5x := exw_cell c59 nq
    have f5x := ((exw_below nq).frozen (p := ⟨B5, 0, none⟩) (World.block_lt_of_cell? _ _ c59)).trans f59
    clear qc hbH hbG
    go_wp2
    unfold WI Wmu
    refine ⟨?_, by simp [kO]; omega⟩
    refine ⟨_, _, _, _, _, _, _, _, _, _, _, _, _, _, _, _, _, _, _, _, _, _, _, _, _, _, _, _, _, _, _, _, _, _, _, _, _, _, _, _, _, _, _, _, _, _, _, _, _, _, _, _, _, _, _, _, _, _, _, _, _, _, _, _, _, _, _, _, _, _, _, _, _, _, _, _, _, _, _, _, _, _, _, _, _, _, _, _, _, _, _, _, _, _, _, _, _, _, _, _, _, _, _, _, _, _, _, _, _, _, _, _, _, _, _, _, _, _, _, _, _, _, _, _, _, _, _, _, _, _, _, _, _, _, _, _, _, _, _, _, _, _, _, _, _, _, _, _, _, _, _, _, _, _, _, _, _, _, _, _, _, _, _, _, _, _, _, _, _, _, _, _, _, _, _, _, _, _, _, _, _, _, _, _, _, _, _, _, _, _, _, _, _, _, _, _, _, _, _, _, _, _, _, _, _, _, _, _, _, _, _, _, _, _, _, _, _, _, _, _, _, _, _, _, _, _, _, _, _, _, _, _, _, _, _, _, _, _, _, _, _, _, _, _, _, _, _, _, _, _, _, _, _, _, _, _, _, _, ?_, rfl⟩
    exact ⟨i + 1, _, by omega, by go_num, ⟨_, _, _, hXd, c5x, f5x⟩⟩
  · clear hsx
    have htl1 := htl hc
    rw [htl1] at hk4 hk5
    clear hdl htl htl1 hk6
    have hc1 : (c == 0) = false := by simpa using hc
    have hc2 : (c != 0) = true := by simpa using hc
    simp only [hc, if_false] at hk2 hk5
    go_wp2_with (first
    | (go_at_call 27; refine (hk3 _ hP2.ir).mono ?_; rintro e w3 ⟨rfl, hb3⟩; obtain ⟨hP3, hs3⟩ := hP2.below hb3; have pp3 := hs3.cell (X := B7) (by simp) pp2; have c53 := hs3.cell (X := B5) (by simp) c52; have f53 := hs3.frozen (X := B5) (by simp) f52; dsimp only)
    | (go_at_call 28; refine (hk1 _ hP3.ih).mono ?_; rintro e w4 ⟨rfl, hb4⟩; obtain ⟨hP4, hs4⟩ := hP3.below hb4; have pp4 := hs4.cell (X := B7) (by simp) pp3; have c54 := hs4.cell (X := B5) (by simp) c53; have f54 := hs4.frozen (X := B5) (by simp) f53; dsimp only)
    | (go_at_call 29; refine (hk2 _ hP4.ig).mono ?_; rintro e w5 ⟨rfl, hb5⟩; obtain ⟨hP5, hs5⟩ := hP4.below hb5; have pp5 := hs5.cell (X := B7) (by simp) pp4; have c55 := hs5.cell (X := B5) (by simp) c54; have f55 := hs5.frozen (X := B5) (by simp) f54; dsimp only)
    | (go_at_call 12; refine (hk4 _ hP5.ih).mono ?_; rintro e w6 ⟨rfl, hs⟩; obtain ⟨v6, hP6, hs6⟩ := hP5.stepH hs; have pp6 := hs6.cell (X := B7) (by simp) pp5; have c56 := hs6.cell (X := B5) (by simp) c55; have f56 := hs6.frozen (X := B5) (by simp) f55; dsimp only)
    | (go_at_call 30; refine (hk5 _ hP6.ig).mono ?_; rintro e w7 ⟨rfl, hs⟩; obtain ⟨u7, hP7, hs7⟩ := hP6.stepG hs; have pp7 := hs7.cell (X := B7) (by simp) pp6; have c57 := hs7.cell (X := B5) (by simp) c56; have f57 := hs7.frozen (X := B5) (by simp) f56; dsimp only))
    have hX := hP7
    have c59 := c57
    have f59 := f57
    have hq := hX.len
    obtain ⟨W7, hW7⟩ : ∃ W7, W7 = w7 := ⟨_, rfl⟩
    rw [← hW7] at hX c59 f59
    rw [← hW7]
    generalize L = L9 at hX c59 hW7 hq
    clear hW7
    have qc := fun n : ExtW W7 => exw_cell c59 n
    have eqE := fun n : Int => (show (n != n) = false by simp)
    have hbH := fun n : ExtW W7 => hX.ih.below (exw_below n)
    have hbG := fun n : ExtW W7 => hX.ig.below (exw_below n)
    refine region_ext (by kernel_rfl) (by kernel_rfl) ?_
    repeat (go_big_quiet_step ((first | (go_at_call 11; exact ext_same (Len_any H _ _ _ (hbH _))) | (go_at_call 34; exact ext_same (S.Len_any G _ _ _ (hbG _))))))
    refine wpQuiet_nil ?_
    intro _ hw'
    obtain ⟨nq, hw''⟩ := hw'
    subst hw''
    have hXd := (hX.below (exw_below nq)).1.drop
    have c5x := exw_cell c59 nq
    have f5x := ((exw_below nq).frozen (p := ⟨B5, 0, none⟩) (World.block_lt_of_cell? _ _ c59)).trans f59
    clear qc hbH hbG
    go_wp2
    unfold WI Wmu
    refine ⟨?_, by simp [kO]; omega⟩
    refine ⟨_, _, _, _, _, _, _, _, _, _, _, _, _, _, _, _, _, _, _, _, _, _, _, _, _, _, _, _, _, _, _, _, _, _, _, _, _, _, _, _, _, _, _, _, _, _, _, _, _, _, _, _, _, _, _, _, _, _, _, _, _, _, _, _, _, _, _, _, _, _, _, _, _, _, _, _, _, _, _, _, _, _, _, _, _, _, _, _, _, _, _, _, _, _, _, _, _, _, _, _, _, _, _, _, _, _, _, _, _, _, _, _, _, _, _, _, _, _, _, _, _, _, _, _, _, _, _, _, _, _, _, _, _, _, _, _, _, _, _, _, _, _, _, _, _, _, _, _, _, _, _, _, _, _, _, _, _, _, _, _, _, _, _, _, _, _, _, _, _, _, _, _, _, _, _, _, _, _, _, _, _, _, _, _, _, _, _, _, _, _, _, _, _, _, _, _, _, _, _, _, _, _, _, _, _, _, _, _, _, _, _, _, _, _, _, _, _, _, _, _, _, _, _, _, _, _, _, _, _, _, _, _, _, _, _, _, _, _, _, _, _, _, _, _, _, _, _, _, _, _, _, _, _, _, _, _, _, _, ?_, rfl⟩
    exact ⟨i + 1, _, by omega, by go_num, ⟨_, _, _, hXd, c5x, f5x⟩⟩
end Go.Proofs.Ytpapknmkiampgaa
namespace Go.Proofs.Ytpapknmkiampgaa
open Go.RowKit
open Go.Proofs.Ytpapknmkiampgaa.PHeapPlays Go.Proofs.YtpapknmkiampgaaW.PrintWords Go.Proofs.YtpapknmkiampgaaW.PrintMore Go.Proofs.YtpapknmkiampgaaW.PrintLast

set_option maxHeartbeats 40000000 in
set_option maxRecDepth 1000000 in
theorem play_4 (os : List OpD) (w wr : World) (H G B5 : Nat) (a : Option Addr) (cap : Nat) (c1 c27 c28 c29 c30 c31 c32 c33 c270 c271 c272 c273 c274 u2 u7 u8 u9 u10 u11 u12 u13 u14 u15 u16 u17 u18 u19 u20 u21 u22 u23 u24 u25 u26 u34 u35 u36 u37 u38 u39 u40 u41 u42 u43 u44 u45 u46 u47 u48 u49 u50 u51 u52 u53 u54 u55 u56 u57 u58 u59 u60 u61 u62 u63 u64 u65 u66 u67 u68 u69 u70 u71 u72 u73 u74 u75 u76 u77 u78 u79 u80 u81 u82 u83 u84 u85 u86 u87 u88 u89 u90 u91 u92 u93 u94 u95 u96 u97 u98 u99 u100 u101 u102 u103 u104 u105 u106 u107 u108 u109 u110 u111 u112 u113 u114 u115 u116 u117 u118 u119 u120 u121 u122 u123 u124 u125 u126 u127 u128 u129 u130 u131 u132 u133 u134 u135 u136 u137 u138 u139 u140 u141 u142 u143 u144 u145 u146 u147 u148 u149 u150 u151 u152 u153 u154 u155 u156 u157 u158 u159 u160 u161 u162 u163 u164 u165 u166 u167 u168 u169 u170 u171 u172 u173 u174 u175 u176 u177 u178 u179 u180 u181 u182 u183 u184 u185 u186 u187 u188 u189 u190 u191 u192 u193 u194 u195 u196 u197 u198 u199 u200 u201 u202 u203 u204 u205 u206 u207 u208 u209 u210 u211 u212 u213 u214 u215 u216 u217 u218 u219 u220 u221 u222 u223 u224 u225 u226 u227 u228 u229 u230 u231 u232 u233 u234 u235 u236 u237 u238 u239 u240 u241 u242 u243 u244 u245 u246 u247 u248 u249 u250 u251 u252 u253 u254 u255 u256 u257 u258 u259 u260 u261 u262 u263 u264 u265 u266 u267 u268 u269 : Value) (Q0 : Exit → Act → World → Prop) (hm : os.length ≤ 9223372036854775807)
    (hc : SlR w 3 (.slice a os.length cap) os.length (os.flatMap oc)) (i : Nat) (L : List En) (hS : SW w H G B5 L wr) (hlt : i < os.length) (o : OpD) (ho : os[i] = o) (h1 : ¬ o.kind = 1) (h2 : ¬ o.kind = 2) (h5 : ¬ o.kind = 5) (h6 : ¬ o.kind = 6) (h3 : ¬ o.kind = 3) (hK : Veil (o.kind = 4)) :
    Code.wp Try.prog body (Exit.then (fun a' w'' => WI os.length w H G B5 a cap c1 c27 c28 c29 c30 c31 c32 c33 c270 c271 c272 c273 c274 a' w'' ∧ Wmu os.length a' w'' < Wmu os.length ⟨#[.slice a os.length cap, c1, u2, .pointer (some ⟨H, 0, none⟩), .pointer (some ⟨G, 0, none⟩), .pointer (some ⟨B5, 0, none⟩), .int .i64 i, u7, u8, u9, u10, u11, u12, u13, u14, u15, u16, u17, u18, u19, u20, u21, u22, u23, u24, u25, u26, c27, c28, c29, c30, c31, c32, c33, u34, u35, u36, u37, u38, u39, u40, u41, u42, u43, u44, u45, u46, u47, u48, u49, u50, u51, u52, u53, u54, u55, u56, u57, u58, u59, u60, u61, u62, u63, u64, u65, u66, u67, u68, u69, u70, u71, u72, u73, u74, u75, u76, u77, u78, u79, u80, u81, u82, u83, u84, u85, u86, u87, u88, u89, u90, u91, u92, u93, u94, u95, u96, u97, u98, u99, u100, u101, u102, u103, u104, u105, u106, u107, u108, u109, u110, u111, u112, u113, u114, u115, u116, u117, u118, u119, u120, u121, u122, u123, u124, u125, u126, u127, u128, u129, u130, u131, u132, u133, u134, u135, u136, u137, u138, u139, u140, u141, u142, u143, u144, u145, u146, u147, u148, u149, u150, u151, u152, u153, u154, u155, u156, u157, u158, u159, u160, u161, u162, u163, u164, u165, u166, u167, u168, u169, u170, u171, u172, u173, u174, u175, u176, u177, u178, u179, u180, u181, u182, u183, u184, u185, u186, u187, u188, u189, u190, u191, u192, u193, u194, u195, u196, u197, u198, u199, u200, u201, u202, u203, u204, u205, u206, u207, u208, u209, u210, u211, u212, u213, u214, u215, u216, u217, u218, u219, u220, u221, u222, u223, u224, u225, u226, u227, u228, u229, u230, u231, u232, u233, u234, u235, u236, u237, u238, u239, u240, u241, u242, u243, u244, u245, u246, u247, u248, u249, u250, u251, u252, u253, u254, u255, u256, u257, u258, u259, u260, u261, u262, u263, u264, u265, u266, u267, u268, u269, c270, c271, c272, c273, c274], []⟩ wr) (NoPanic Q0)) ⟨#[.slice a os.length cap, c1, u2, .pointer (some ⟨H, 0, none⟩), .pointer (some ⟨G, 0, none⟩), .pointer (some ⟨B5, 0, none⟩), .int .i64 i, u7, u8, u9, u10, u11, u12, u13, u14, u15, u16, u17, u18, u19, u20, u21, u22, u23, u24, u25, u26, c27, c28, c29, c30, c31, c32, c33, u34, u35, u36, u37, u38, u39, u40, u41, u42, u43, u44, u45, u46, u47, u48, u49, u50, u51, u52, u53, u54, u55, u56, u57, u58, u59, u60, u61, u62, u63, u64, u65, u66, u67, u68, u69, u70, u71, u72, u73, u74, u75, u76, u77, u78, u79, u80, u81, u82, u83, u84, u85, u86, u87, u88, u89, u90, u91, u92, u93, u94, u95, u96, u97, u98, u99, u100, u101, u102, u103, u104, u105, u106, u107, u108, u109, u110, u111, u112, u113, u114, u115, u116, u117, u118, u119, u120, u121, u122, u123, u124, u125, u126, u127, u128, u129, u130, u131, u132, u133, u134, u135, u136, u137, u138, u139, u140, u141, u142, u143, u144, u145, u146, u147, u148, u149, u150, u151, u152, u153, u154, u155, u156, u157, u158, u159, u160, u161, u162, u163, u164, u165, u166, u167, u168, u169, u170, u171, u172, u173, u174, u175, u176, u177, u178, u179, u180, u181, u182, u183, u184, u185, u186, u187, u188, u189, u190, u191, u192, u193, u194, u195, u196, u197, u198, u199, u200, u201, u202, u203, u204, u205, u206, u207, u208, u209, u210, u211, u212, u213, u214, u215, u216, u217, u218, u219, u220, u221, u222, u223, u224, u225, u226, u227, u228, u229, u230, u231, u232, u233, u234, u235, u236, u237, u238, u239, u240, u241, u242, u243, u244, u245, u246, u247, u248, u249, u250, u251, u252, u253, u254, u255, u256, u257, u258, u259, u260, u261, u262, u263, u264, u265, u266, u267, u268, u269, c270, c271, c272, c273, c274], []⟩ wr := by
  conv => arg 2; whnf
  obtain ⟨b, off, rfl, hcell⟩ := op_at (hc.below hS.below_) i hlt
  have e0 := hcell 0 (by omega)
  have e1 := hcell 1 (by omega)
  have e2 := hcell 2 (by omega)
  clear hcell
  rw [ho] at e0 e1 e2
  simp only [oc, Nat.add_zero] at e0 e1 e2
  clear ho
  obtain ⟨v, u, r, hP, c5, f5⟩ := hS
  obtain ⟨A, rc, rfl, _⟩ := hP.ir.slice
  go_wp2_with fail
  obtain ⟨W1, hW1⟩ : ∃ W1, W1 = wr.alloc (.cells #[.int .i64 o.kind, .int .i64 o.n, .int .i64 o.k] 44) := ⟨_, rfl⟩
  obtain ⟨B7, hB7⟩ : ∃ B7, B7 = wr.heap.size := ⟨_, rfl⟩
  have hO : OpB W1 B7 o := by rw [hW1, hB7]; exact OpB.new wr o
  have hP1 : PS w W1 H v G u (.slice A L.length rc) L L L [B7, B5] := by rw [hW1, hB7]; exact hP.alloc _
  have c51 : W1.cell? ⟨B5, 0, none⟩ = some (.slice A L.length rc) := by rw [hW1]; exact (((Below.refl _ wr).alloc (Nat.le_refl _) _).cell (World.block_lt_of_cell? _ _ c5)).trans c5
  have f51 : W1.frozen? ⟨B5, 0, none⟩ = false := by rw [hW1]; exact (((Below.refl _ wr).alloc (Nat.le_refl _) _).frozen (p := ⟨B5, 0, none⟩) (World.block_lt_of_cell? _ _ c5)).trans f5
  rw [← hW1, ← hB7]
  clear hP e0 e1 e2 c5 f5 hW1 hB7
  refine (small_any o.k W1).mono ?_
  rintro e W2 ⟨rfl, hb2⟩
  obtain ⟨hP2, hs2⟩ := hP1.below hb2
  have hsm := small_sm o.k
  obtain ⟨kk, hkk⟩ : ∃ kk, Int.tmod o.k 1000 = kk := ⟨_, rfl⟩
  rw [hkk] at hsm ⊢
  have hO2 : OpB W2 B7 o := hO.same hs2 (by simp)
  have c52 := hs2.cell (X := B5) (by simp) c51
  have f52 := hs2.frozen (X := B5) (by simp) f51
  have hL := hP2.len
  have hrsl : A = none → L.length = 0 := fun h => by
    by_cases h0 : L.length = 0
    · exact h0
    · obtain ⟨ad, cc, he⟩ := Kd.R_slice1 hP2.ir (by rw [LS_len]; omega)
      injection he with h1 _ _
      rw [h] at h1
      cases h1
  clear hP1 hO c51 f51 hb2 hs2 hkk
  obtain ⟨p0, p1, p2⟩ := id hO2
  have hk := hK.out
  rw [hk] at p0
  have pp2 := p0
  obtain ⟨n, x, c, htx⟩ : ∃ n x c, topE L = (n, x, c) := ⟨_, _, _, rfl⟩
  have hsx := top_sm hP2.smG htx
  have hk1 := fun w3 (h : HB w3 H v L) => Top_any H v L w3 h
  have hk2 := fun w3 (h : S.HB w3 G u L) => S.Top_any G u L w3 h
  have hk3 := fun w3 (h : RR w3 w.heap.size (.slice A L.length rc) L) => refTop_any h
  simp only [topR_E, S.topR_E, htx, kv, S.kv] at hk1 hk2 hk3
  clear htx
  have eqE := fun n : Int => (show (n != n) = false by simp)
  by_cases hc : c = 0
  · have hsx0 := hsx hc
    clear hsx
    simp only [hc, if_true] at hk1 hk2 hk3
    go_wp2_with (first
    | (go_at_call 27; refine (hk3 _ hP2.ir).mono ?_; rintro e w3 ⟨rfl, hb3⟩; obtain ⟨hP3, hs3⟩ := hP2.below hb3; have pp3 := hs3.cell (X := B7) (by simp) pp2; have c53 := hs3.cell (X := B5) (by simp) c52; have f53 := hs3.frozen (X := B5) (by simp) f52; dsimp only)
    | (go_at_call 28; refine (hk1 _ hP3.ih).mono ?_; rintro e w4 ⟨rfl, hb4⟩; obtain ⟨hP4, hs4⟩ := hP3.below hb4; have pp4 := hs4.cell (X := B7) (by simp) pp3; have c54 := hs4.cell (X := B5) (by simp) c53; have f54 := hs4.frozen (X := B5) (by simp) f53; dsimp only)
    | (go_at_call 29; refine (hk2 _ hP4.ig).mono ?_; rintro e w5 ⟨rfl, hb5⟩; obtain ⟨hP5, hs5⟩ := hP4.below hb5; have pp5 := hs5.cell (X := B7) (by simp) pp4; have c55 := hs5.cell (X := B5) (by simp) c54; have f55 := hs5.frozen (X := B5) (by simp) f54; dsimp only)
    | (go_at_call 17; refine (text_any x _ hsx0).mono ?_; rintro e w6 ⟨rfl, hb6⟩; obtain ⟨hP6, hs6⟩ := hP5.below hb6; have pp6 := hs6.cell (X := B7) (by simp) pp5; have c56 := hs6.cell (X := B5) (by simp) c55; have f56 := hs6.frozen (X := B5) (by simp) f55; dsimp only))
    have hX := hP6
    have c59 := c56
    have f59 := f56
    have hq := hX.len
    obtain ⟨W7, hW7⟩ : ∃ W7, W7 = w6 := ⟨_, rfl⟩
    rw [← hW7] at hX c59 f59
    rw [← hW7]
    generalize L = L9 at hX c59 hW7 hq
    clear hW7
    have qc := fun n : ExtW W7 => exw_cell c59 n
    have eqE := fun n : Int => (show (n != n) = false by simp)
    have hbH := fun n : ExtW W7 => hX.ih.below (exw_below n)
    have hbG := fun n : ExtW W7 => hX.ig.below (exw_below n)
    refine region_ext (by kernel_rfl) (by kernel_rfl) ?_
    repeat (go_big_quiet_step ((first | (go_at_call 11; exact ext_same (Len_any H _ _ _ (hbH _))) | (go_at_call 34; exact ext_same (S.Len_any G _ _ _ (hbG _))))))
    refine wpQuiet_nil ?_
    intro _ hw'
    obtain ⟨nq, hw''⟩ := hw'
    subst hw''
    have hXd := (hX.below (exw_below nq)).1.drop
    have c5x := exw_cell c59 nq
    have f5x := ((exw_below nq).frozen (p := ⟨B5, 0, none⟩) (World.block_lt_of_cell? _ _ c59)).trans f59
    clear qc hbH hbG
    go_wp2
    unfold WI Wmu
    refine ⟨?_, by simp [kO]; omega⟩
    refine ⟨_, _, _, _, _, _, _, _, _, _, _, _, _, _, _, _, _, _, _, _, _, _, _, _, _, _, _, _, _, _, _, _, _, _, _, _, _, _, _, _, _, _, _, _, _, _, _, _, _, _, _, _, _, _, _, _, _, _, _, _, _, _, _, _, _, _, _, _, _, _, _, _, _, _, _, _, _, _, _, _, _, _, _, _, _, _, _, _, _, _, _, _, _, _, _, _, _, _, _, _, _, _, _, _, _, _, _, _, _, _, _, _, _, _, _, _, _, _, _, _, _, _, _, _, _, _, _, _, _, _, _, _, _, _, _, _, _, _, _, _, _, _, _, _, _, _, _, _, _, _, _, _, _, _, _, _, _, _, _, _, _, _, _, _, _, _, _, _, _, _, _, _, _, _, _, _, _, _, _, _, _, _, _, _, _, _, _, _, _, _, _, _, _, _, _, _, _, _, _, _, _, _, _, _, _, _, _, _, _, _, _, _, _, _, _, _, _, _, _, _, _, _, _, _, _, _, _, _, _, _, _, _, _, _, _, _, _, _, _, _, _, _, _, _, _, _, _, _, _, _, _, _, _, _, _, _, _, _, ?_, rfl⟩
    exact ⟨i + 1, _, by omega, by go_num, ⟨_, _, _, hXd, c5x, f5x⟩⟩
  · clear hsx
    have hc1 : (c == 0) = false := by simpa using hc
    have hc2 : (c != 0) = true := by simpa using hc
    simp only [hc, if_false] at hk2
    go_wp2_with (first
    | (go_at_call 27; refine (hk3 _ hP2.ir).mono ?_; rintro e w3 ⟨rfl, hb3⟩; obtain ⟨hP3, hs3⟩ := hP2.below hb3; have pp3 := hs3.cell (X := B7) (by simp) pp2; have c53 := hs3.cell (X := B5) (by simp) c52; have f53 := hs3.frozen (X := B5) (by simp) f52; dsimp only)
    | (go_at_call 28; refine (hk1 _ hP3.ih).mono ?_; rintro e w4 ⟨rfl, hb4⟩; obtain ⟨hP4, hs4⟩ := hP3.below hb4; have pp4 := hs4.cell (X := B7) (by simp) pp3; have c54 := hs4.cell (X := B5) (by simp) c53; have f54 := hs4.frozen (X := B5) (by simp) f53; dsimp only)
    | (go_at_call 29; refine (hk2 _ hP4.ig).mono ?_; rintro e w5 ⟨rfl, hb5⟩; obtain ⟨hP5, hs5⟩ := hP4.below hb5; have pp5 := hs5.cell (X := B7) (by simp) pp4; have c55 := hs5.cell (X := B5) (by simp) c54; have f55 := hs5.frozen (X := B5) (by simp) f54; dsimp only))
    have hX := hP5
    have c59 := c55
    have f59 := f55
    have hq := hX.len
    obtain ⟨W7, hW7⟩ : ∃ W7, W7 = w5 := ⟨_, rfl⟩
    rw [← hW7] at hX c59 f59
    rw [← hW7]
    generalize L = L9 at hX c59 hW7 hq
    clear hW7
    have qc := fun n : ExtW W7 => exw_cell c59 n
    have eqE := fun n : Int => (show (n != n) = false by simp)
    have hbH := fun n : ExtW W7 => hX.ih.below (exw_below n)
    have hbG := fun n : ExtW W7 => hX.ig.below (exw_below n)
    refine region_ext (by kernel_rfl) (by kernel_rfl) ?_
    repeat (go_big_quiet_step ((first | (go_at_call 11; exact ext_same (Len_any H _ _ _ (hbH _))) | (go_at_call 34; exact ext_same (S.Len_any G _ _ _ (hbG _))))))
    refine wpQuiet_nil ?_
    intro _ hw'
    obtain ⟨nq, hw''⟩ := hw'
    subst hw''
    have hXd := (hX.below (exw_below nq)).1.drop
    have c5x := exw_cell c59 nq
    have f5x := ((exw_below nq).frozen (p := ⟨B5, 0, none⟩) (World.block_lt_of_cell? _ _ c59)).trans f59
    clear qc hbH hbG
    go_wp2
    unfold WI Wmu
    refine ⟨?_, by simp [kO]; omega⟩
    refine ⟨_, _, _, _, _, _, _, _, _, _, _, _, _, _, _, _, _, _, _, _, _, _, _, _, _, _, _, _, _, _, _, _, _, _, _, _, _, _, _, _, _, _, _, _, _, _, _, _, _, _, _, _, _, _, _, _, _, _, _, _, _, _, _, _, _, _, _, _, _, _, _, _, _, _, _, _, _, _, _, _, _, _, _, _, _, _, _, _, _, _, _, _, _, _, _, _, _, _, _, _, _, _, _, _, _, _, _, _, _, _, _, _, _, _, _, _, _, _, _, _, _, _, _, _, _, _, _, _, _, _, _, _, _, _, _, _, _, _, _, _, _, _, _, _, _, _, _, _, _, _, _, _, _, _, _, _, _, _, _, _, _, _, _, _, _, _, _, _, _, _, _, _, _, _, _, _, _, _, _, _, _, _, _, _, _, _, _, _, _, _, _, _, _, _, _, _, _, _, _, _, _, _, _, _, _, _, _, _, _, _, _, _, _, _, _, _, _, _, _, _, _, _, _, _, _, _, _, _, _, _, _, _, _, _, _, _, _, _, _, _, _, _, _, _, _, _, _, _, _, _, _, _, _, _, _, _, _, _, ?_, rfl⟩
    exact ⟨i + 1, _, by omega, by go_num, ⟨_, _, _, hXd, c5x, f5x⟩⟩
end Go.Proofs.Ytpapknmkiampgaa
namespace Go.Proofs.Ytpapknmkiampgaa
open Go.RowKit
open Go.Proofs.Ytpapknmkiampgaa.PHeapPlays Go.Proofs.YtpapknmkiampgaaW.PrintWords Go.Proofs.YtpapknmkiampgaaW.PrintMore Go.Proofs.YtpapknmkiampgaaW.PrintLast

set_option maxHeartbeats 40000000 in
set_option maxRecDepth 1000000 in
theorem play_7 (os : List OpD) (w wr : World) (H G B5 : Nat) (a : Option Addr) (cap : Nat) (c1 c27 c28 c29 c30 c31 c32 c33 c270 c271 c272 c273 c274 u2 u7 u8 u9 u10 u11 u12 u13 u14 u15 u16 u17 u18 u19 u20 u21 u22 u23 u24 u25 u26 u34 u35 u36 u37 u38 u39 u40 u41 u42 u43 u44 u45 u46 u47 u48 u49 u50 u51 u52 u53 u54 u55 u56 u57 u58 u59 u60 u61 u62 u63 u64 u65 u66 u67 u68 u69 u70 u71 u72 u73 u74 u75 u76 u77 u78 u79 u80 u81 u82 u83 u84 u85 u86 u87 u88 u89 u90 u91 u92 u93 u94 u95 u96 u97 u98 u99 u100 u101 u102 u103 u104 u105 u106 u107 u108 u109 u110 u111 u112 u113 u114 u115 u116 u117 u118 u119 u120 u121 u122 u123 u124 u125 u126 u127 u128 u129 u130 u131 u132 u133 u134 u135 u136 u137 u138 u139 u140 u141 u142 u143 u144 u145 u146 u147 u148 u149 u150 u151 u152 u153 u154 u155 u156 u157 u158 u159 u160 u161 u162 u163 u164 u165 u166 u167 u168 u169 u170 u171 u172 u173 u174 u175 u176 u177 u178 u179 u180 u181 u182 u183 u184 u185 u186 u187 u188 u189 u190 u191 u192 u193 u194 u195 u196 u197 u198 u199 u200 u201 u202 u203 u204 u205 u206 u207 u208 u209 u210 u211 u212 u213 u214 u215 u216 u217 u218 u219 u220 u221 u222 u223 u224 u225 u226 u227 u228 u229 u230 u231 u232 u233 u234 u235 u236 u237 u238 u239 u240 u241 u242 u243 u244 u245 u246 u247 u248 u249 u250 u251 u252 u253 u254 u255 u256 u257 u258 u259 u260 u261 u262 u263 u264 u265 u266 u267 u268 u269 : Value) (Q0 : Exit → Act → World → Prop) (hm : os.length ≤ 9223372036854775807)
    (hc : SlR w 3 (.slice a os.length cap) os.length (os.flatMap oc)) (i : Nat) (L : List En) (hS : SW w H G B5 L wr) (hlt : i < os.length) (o : OpD) (ho : os[i] = o) (h1 : ¬ o.kind = 1) (h2 : ¬ o.kind = 2) (h5 : ¬ o.kind = 5) (h6 : ¬ o.kind = 6) (h3 : ¬ o.kind = 3) (h4 : ¬ o.kind = 4) (hK : Veil (o.kind = 7)) :
    Code.wp Try.prog body (Exit.then (fun a' w'' => WI os.length w H G B5 a cap c1 c27 c28 c29 c30 c31 c32 c33 c270 c271 c272 c273 c274 a' w'' ∧ Wmu os.length a' w'' < Wmu os.length ⟨#[.slice a os.length cap, c1, u2, .pointer (some ⟨H, 0, none⟩), .pointer (some ⟨G, 0, none⟩), .pointer (some ⟨B5, 0, none⟩), .int .i64 i, u7, u8, u9, u10, u11, u12, u13, u14, u15, u16, u17, u18, u19, u20, u21, u22, u23, u24, u25, u26, c27, c28, c29, c30, c31, c32, c33, u34, u35, u36, u37, u38, u39, u40, u41, u42, u43, u44, u45, u46, u47, u48, u49, u50, u51, u52, u53, u54, u55, u56, u57, u58, u59, u60, u61, u62, u63, u64, u65, u66, u67, u68, u69, u70, u71, u72, u73, u74, u75, u76, u77, u78, u79, u80, u81, u82, u83, u84, u85, u86, u87, u88, u89, u90, u91, u92, u93, u94, u95, u96, u97, u98, u99, u100, u101, u102, u103, u104, u105, u106, u107, u108, u109, u110, u111, u112, u113, u114, u115, u116, u117, u118, u119, u120, u121, u122, u123, u124, u125, u126, u127, u128, u129, u130, u131, u132, u133, u134, u135, u136, u137, u138, u139, u140, u141, u142, u143, u144, u145, u146, u147, u148, u149, u150, u151, u152, u153, u154, u155, u156, u157, u158, u159, u160, u161, u162, u163, u164, u165, u166, u167, u168, u169, u170, u171, u172, u173, u174, u175, u176, u177, u178, u179, u180, u181, u182, u183, u184, u185, u186, u187, u188, u189, u190, u191, u192, u193, u194, u195, u196, u197, u198, u199, u200, u201, u202, u203, u204, u205, u206, u207, u208, u209, u210, u211, u212, u213, u214, u215, u216, u217, u218, u219, u220, u221, u222, u223, u224, u225, u226, u227, u228, u229, u230, u231, u232, u233, u234, u235, u236, u237, u238, u239, u240, u241, u242, u243, u244, u245, u246, u247, u248, u249, u250, u251, u252, u253, u254, u255, u256, u257, u258, u259, u260, u261, u262, u263, u264, u265, u266, u267, u268, u269, c270, c271, c272, c273, c274], []⟩ wr) (NoPanic Q0)) ⟨#[.slice a os.length cap, c1, u2, .pointer (some ⟨H, 0, none⟩), .pointer (some ⟨G, 0, none⟩), .pointer (some ⟨B5, 0, none⟩), .int .i64 i, u7, u8, u9, u10, u11, u12, u13, u14, u15, u16, u17, u18, u19, u20, u21, u22, u23, u24, u25, u26, c27, c28, c29, c30, c31, c32, c33, u34, u35, u36, u37, u38, u39, u40, u41, u42, u43, u44, u45, u46, u47, u48, u49, u50, u51, u52, u53, u54, u55, u56, u57, u58, u59, u60, u61, u62, u63, u64, u65, u66, u67, u68, u69, u70, u71, u72, u73, u74, u75, u76, u77, u78, u79, u80, u81, u82, u83, u84, u85, u86, u87, u88, u89, u90, u91, u92, u93, u94, u95, u96, u97, u98, u99, u100, u101, u102, u103, u104, u105, u106, u107, u108, u109, u110, u111, u112, u113, u114, u115, u116, u117, u118, u119, u120, u121, u122, u123, u124, u125, u126, u127, u128, u129, u130, u131, u132, u133, u134, u135, u136, u137, u138, u139, u140, u141, u142, u143, u144, u145, u146, u147, u148, u149, u150, u151, u152, u153, u154, u155, u156, u157, u158, u159, u160, u161, u162, u163, u164, u165, u166, u167, u168, u169, u170, u171, u172, u173, u174, u175, u176, u177, u178, u179, u180, u181, u182, u183, u184, u185, u186, u187, u188, u189, u190, u191, u192, u193, u194, u195, u196, u197, u198, u199, u200, u201, u202, u203, u204, u205, u206, u207, u208, u209, u210, u211, u212, u213, u214, u215, u216, u217, u218, u219, u220, u221, u222, u223, u224, u225, u226, u227, u228, u229, u230, u231, u232, u233, u234, u235, u236, u237, u238, u239, u240, u241, u242, u243, u244, u245, u246, u247, u248, u249, u250, u251, u252, u253, u254, u255, u256, u257, u258, u259, u260, u261, u262, u263, u264, u265, u266, u267, u268, u269, c270, c271, c272, c273, c274], []⟩ wr := by
  conv => arg 2; whnf
  obtain ⟨b, off, rfl, hcell⟩ := op_at (hc.below hS.below_) i hlt
  have e0 := hcell 0 (by omega)
  have e1 := hcell 1 (by omega)
  have e2 := hcell 2 (by omega)
  clear hcell
  rw [ho] at e0 e1 e2
  simp only [oc, Nat.add_zero] at e0 e1 e2
  clear ho
  obtain ⟨v, u, r, hP, c5, f5⟩ := hS
  obtain ⟨A, rc, rfl, _⟩ := hP.ir.slice
  go_wp2_with fail
  obtain ⟨W1, hW1⟩ : ∃ W1, W1 = wr.alloc (.cells #[.int .i64 o.kind, .int .i64 o.n, .int .i64 o.k] 44) := ⟨_, rfl⟩
  obtain ⟨B7, hB7⟩ : ∃ B7, B7 = wr.heap.size := ⟨_, rfl⟩
  have hO : OpB W1 B7 o := by rw [hW1, hB7]; exact OpB.new wr o
  have hP1 : PS w W1 H v G u (.slice A L.length rc) L L L [B7, B5] := by rw [hW1, hB7]; exact hP.alloc _
  have c51 : W1.cell? ⟨B5, 0, none⟩ = some (.slice A L.length rc) := by rw [hW1]; exact (((Below.refl _ wr).alloc (Nat.le_refl _) _).cell (World.block_lt_of_cell? _ _ c5)).trans c5
  have f51 : W1.frozen? ⟨B5, 0, none⟩ = false := by rw [hW1]; exact (((Below.refl _ wr).alloc (Nat.le_refl _) _).frozen (p := ⟨B5, 0, none⟩) (World.block_lt_of_cell? _ _ c5)).trans f5
  rw [← hW1, ← hB7]
  clear hP e0 e1 e2 c5 f5 hW1 hB7
  refine (small_any o.k W1).mono ?_
  rintro e W2 ⟨rfl, hb2⟩
  obtain ⟨hP2, hs2⟩ := hP1.below hb2
  have hsm := small_sm o.k
  obtain ⟨kk, hkk⟩ : ∃ kk, Int.tmod o.k 1000 = kk := ⟨_, rfl⟩
  rw [hkk] at hsm ⊢
  have hO2 : OpB W2 B7 o := hO.same hs2 (by simp)
  have c52 := hs2.cell (X := B5) (by simp) c51
  have f52 := hs2.frozen (X := B5) (by simp) f51
  have hL := hP2.len
  have hrsl : A = none → L.length = 0 := fun h => by
    by_cases h0 : L.length = 0
    · exact h0
    · obtain ⟨ad, cc, he⟩ := Kd.R_slice1 hP2.ir (by rw [LS_len]; omega)
      injection he with h1 _ _
      rw [h] at h1
      cases h1
  clear hP1 hO c51 f51 hb2 hs2 hkk
  obtain ⟨p0, p1, p2⟩ := id hO2
  have hk := hK.out
  rw [hk] at p0
  go_wp2_with fail
  have hPd := (hP2.below (Below.refl _ W2).drew).1
  have c5d : W2.drew.cell? ⟨B5, 0, none⟩ = some (.slice A L.length rc) := c52
  have f5d : W2.drew.frozen? ⟨B5, 0, none⟩ = false := f52
  go_region_held3 (fun w' => w'.cell? ⟨B5, 0, none⟩ = some (.slice A L.length rc)) ((first | exact c52 | exact c5d | assumption))
    ((first
      | (go_at_call 32; refine (S.Nodes_any G u L _ hPd.ig).mono ?_; rintro e w3 ⟨o1, rfl, ho1, hb3⟩; have hl1 := Lst.of_own ho1; obtain ⟨hP3, hs3⟩ := hPd.below hb3; have c53 := hs3.cell (X := B5) (by simp) c5d)
      | (go_at_call 33; refine (refNodes_any hP3.ir hL).mono ?_; rintro e w4 ⟨o2, rfl, hl2, hb4⟩; have hl3 := hl1.below hb4; obtain ⟨hP4, hs4⟩ := hP3.below hb4; have c54 := hs4.cell (X := B5) (by simp) c53)
      | (go_at_call 31; refine (sameInts_any o1 o2 (nodesI L) (by rw [nodesI_len]; exact hL) _ hl3 hl2).mono ?_; rintro e w5 ⟨rfl, hb5⟩; obtain ⟨hP5, hs5⟩ := hP4.below hb5; have c55 := hs5.cell (X := B5) (by simp) c54)))
  have f55 := hs5.frozen (X := B5) (by simp) (hs4.frozen (X := B5) (by simp) (hs3.frozen (X := B5) (by simp) f5d))
  go_wp2_with fail
  have hX := hP5
  have c59 := c55
  have f59 := f55
  have hq := hX.len
  obtain ⟨W7, hW7⟩ : ∃ W7, W7 = w5 := ⟨_, rfl⟩
  rw [← hW7] at hX c59 f59
  rw [← hW7]
  generalize L = L9 at hX c59 hW7 hq
  clear hW7
  have qc := fun n : ExtW W7 => exw_cell c59 n
  have eqE := fun n : Int => (show (n != n) = false by simp)
  have hbH := fun n : ExtW W7 => hX.ih.below (exw_below n)
  have hbG := fun n : ExtW W7 => hX.ig.below (exw_below n)
  refine region_ext (by kernel_rfl) (by kernel_rfl) ?_
  repeat (go_big_quiet_step ((first | (go_at_call 11; exact ext_same (Len_any H _ _ _ (hbH _))) | (go_at_call 34; exact ext_same (S.Len_any G _ _ _ (hbG _))))))
  refine wpQuiet_nil ?_
  intro _ hw'
  obtain ⟨nq, hw''⟩ := hw'
  subst hw''
  have hXd := (hX.below (exw_below nq)).1.drop
  have c5x := exw_cell c59 nq
  have f5x := ((exw_below nq).frozen (p := ⟨B5, 0, none⟩) (World.block_lt_of_cell? _ _ c59)).trans f59
  clear qc hbH hbG
  go_wp2
  unfold WI Wmu
  refine ⟨?_, by simp [kO]; omega⟩
  refine ⟨_, _, _, _, _, _, _, _, _, _, _, _, _, _, _, _, _, _, _, _, _, _, _, _, _, _, _, _, _, _, _, _, _, _, _, _, _, _, _, _, _, _, _, _, _, _, _, _, _, _, _, _, _, _, _, _, _, _, _, _, _, _, _, _, _, _, _, _, _, _, _, _, _, _, _, _, _, _, _, _, _, _, _, _, _, _, _, _, _, _, _, _, _, _, _, _, _, _, _, _, _, _, _, _, _, _, _, _, _, _, _, _, _, _, _, _, _, _, _, _, _, _, _, _, _, _, _, _, _, _, _, _, _, _, _, _, _, _, _, _, _, _, _, _, _, _, _, _, _, _, _, _, _, _, _, _, _, _, _, _, _, _, _, _, _, _, _, _, _, _, _, _, _, _, _, _, _, _, _, _, _, _, _, _, _, _, _, _, _, _, _, _, _, _, _, _, _, _, _, _, _, _, _, _, _, _, _, _, _, _, _, _, _, _, _, _, _, _, _, _, _, _, _, _, _, _, _, _, _, _, _, _, _, _, _, _, _, _, _, _, _, _, _, _, _, _, _, _, _, _, _, _, _, _, _, _, _, _, ?_, rfl⟩
  exact ⟨i + 1, _, by omega, by go_num, ⟨_, _, _, hXd, c5x, f5x⟩⟩
end Go.Proofs.Ytpapknmkiampgaa
namespace Go.Proofs.Ytpapknmkiampgaa
open Go.RowKit
open Go.Proofs.Ytpapknmkiampgaa.PHeapPlays Go.Proofs.YtpapknmkiampgaaW.PrintWords Go.Proofs.YtpapknmkiampgaaW.PrintMore Go.Proofs.YtpapknmkiampgaaW.PrintLast

set_option maxHeartbeats 40000000 in
set_option maxRecDepth 1000000 in
theorem play_d (os : List OpD) (w wr : World) (H G B5 : Nat) (a : Option Addr) (cap : Nat) (c1 c27 c28 c29 c30 c31 c32 c33 c270 c271 c272 c273 c274 u2 u7 u8 u9 u10 u11 u12 u13 u14 u15 u16 u17 u18 u19 u20 u21 u22 u23 u24 u25 u26 u34 u35 u36 u37 u38 u39 u40 u41 u42 u43 u44 u45 u46 u47 u48 u49 u50 u51 u52 u53 u54 u55 u56 u57 u58 u59 u60 u61 u62 u63 u64 u65 u66 u67 u68 u69 u70 u71 u72 u73 u74 u75 u76 u77 u78 u79 u80 u81 u82 u83 u84 u85 u86 u87 u88 u89 u90 u91 u92 u93 u94 u95 u96 u97 u98 u99 u100 u101 u102 u103 u104 u105 u106 u107 u108 u109 u110 u111 u112 u113 u114 u115 u116 u117 u118 u119 u120 u121 u122 u123 u124 u125 u126 u127 u128 u129 u130 u131 u132 u133 u134 u135 u136 u137 u138 u139 u140 u141 u142 u143 u144 u145 u146 u147 u148 u149 u150 u151 u152 u153 u154 u155 u156 u157 u158 u159 u160 u161 u162 u163 u164 u165 u166 u167 u168 u169 u170 u171 u172 u173 u174 u175 u176 u177 u178 u179 u180 u181 u182 u183 u184 u185 u186 u187 u188 u189 u190 u191 u192 u193 u194 u195 u196 u197 u198 u199 u200 u201 u202 u203 u204 u205 u206 u207 u208 u209 u210 u211 u212 u213 u214 u215 u216 u217 u218 u219 u220 u221 u222 u223 u224 u225 u226 u227 u228 u229 u230 u231 u232 u233 u234 u235 u236 u237 u238 u239 u240 u241 u242 u243 u244 u245 u246 u247 u248 u249 u250 u251 u252 u253 u254 u255 u256 u257 u258 u259 u260 u261 u262 u263 u264 u265 u266 u267 u268 u269 : Value) (Q0 : Exit → Act → World → Prop) (hm : os.length ≤ 9223372036854775807)
    (hc : SlR w 3 (.slice a os.length cap) os.length (os.flatMap oc)) (i : Nat) (L : List En) (hS : SW w H G B5 L wr) (hlt : i < os.length) (o : OpD) (ho : os[i] = o) (h1 : ¬ o.kind = 1) (h2 : ¬ o.kind = 2) (h5 : ¬ o.kind = 5) (h6 : ¬ o.kind = 6) (h3 : ¬ o.kind = 3) (h4 : ¬ o.kind = 4) (h7 : ¬ o.kind = 7) :
    Code.wp Try.prog body (Exit.then (fun a' w'' => WI os.length w H G B5 a cap c1 c27 c28 c29 c30 c31 c32 c33 c270 c271 c272 c273 c274 a' w'' ∧ Wmu os.length a' w'' < Wmu os.length ⟨#[.slice a os.length cap, c1, u2, .pointer (some ⟨H, 0, none⟩), .pointer (some ⟨G, 0, none⟩), .pointer (some ⟨B5, 0, none⟩), .int .i64 i, u7, u8, u9, u10, u11, u12, u13, u14, u15, u16, u17, u18, u19, u20, u21, u22, u23, u24, u25, u26, c27, c28, c29, c30, c31, c32, c33, u34, u35, u36, u37, u38, u39, u40, u41, u42, u43, u44, u45, u46, u47, u48, u49, u50, u51, u52, u53, u54, u55, u56, u57, u58, u59, u60, u61, u62, u63, u64, u65, u66, u67, u68, u69, u70, u71, u72, u73, u74, u75, u76, u77, u78, u79, u80, u81, u82, u83, u84, u85, u86, u87, u88, u89, u90, u91, u92, u93, u94, u95, u96, u97, u98, u99, u100, u101, u102, u103, u104, u105, u106, u107, u108, u109, u110, u111, u112, u113, u114, u115, u116, u117, u118, u119, u120, u121, u122, u123, u124, u125, u126, u127, u128, u129, u130, u131, u132, u133, u134, u135, u136, u137, u138, u139, u140, u141, u142, u143, u144, u145, u146, u147, u148, u149, u150, u151, u152, u153, u154, u155, u156, u157, u158, u159, u160, u161, u162, u163, u164, u165, u166, u167, u168, u169, u170, u171, u172, u173, u174, u175, u176, u177, u178, u179, u180, u181, u182, u183, u184, u185, u186, u187, u188, u189, u190, u191, u192, u193, u194, u195, u196, u197, u198, u199, u200, u201, u202, u203, u204, u205, u206, u207, u208, u209, u210, u211, u212, u213, u214, u215, u216, u217, u218, u219, u220, u221, u222, u223, u224, u225, u226, u227, u228, u229, u230, u231, u232, u233, u234, u235, u236, u237, u238, u239, u240, u241, u242, u243, u244, u245, u246, u247, u248, u249, u250, u251, u252, u253, u254, u255, u256, u257, u258, u259, u260, u261, u262, u263, u264, u265, u266, u267, u268, u269, c270, c271, c272, c273, c274], []⟩ wr) (NoPanic Q0)) ⟨#[.slice a os.length cap, c1, u2, .pointer (some ⟨H, 0, none⟩), .pointer (some ⟨G, 0, none⟩), .pointer (some ⟨B5, 0, none⟩), .int .i64 i, u7, u8, u9, u10, u11, u12, u13, u14, u15, u16, u17, u18, u19, u20, u21, u22, u23, u24, u25, u26, c27, c28, c29, c30, c31, c32, c33, u34, u35, u36, u37, u38, u39, u40, u41, u42, u43, u44, u45, u46, u47, u48, u49, u50, u51, u52, u53, u54, u55, u56, u57, u58, u59, u60, u61, u62, u63, u64, u65, u66, u67, u68, u69, u70, u71, u72, u73, u74, u75, u76, u77, u78, u79, u80, u81, u82, u83, u84, u85, u86, u87, u88, u89, u90, u91, u92, u93, u94, u95, u96, u97, u98, u99, u100, u101, u102, u103, u104, u105, u106, u107, u108, u109, u110, u111, u112, u113, u114, u115, u116, u117, u118, u119, u120, u121, u122, u123, u124, u125, u126, u127, u128, u129, u130, u131, u132, u133, u134, u135, u136, u137, u138, u139, u140, u141, u142, u143, u144, u145, u146, u147, u148, u149, u150, u151, u152, u153, u154, u155, u156, u157, u158, u159, u160, u161, u162, u163, u164, u165, u166, u167, u168, u169, u170, u171, u172, u173, u174, u175, u176, u177, u178, u179, u180, u181, u182, u183, u184, u185, u186, u187, u188, u189, u190, u191, u192, u193, u194, u195, u196, u197, u198, u199, u200, u201, u202, u203, u204, u205, u206, u207, u208, u209, u210, u211, u212, u213, u214, u215, u216, u217, u218, u219, u220, u221, u222, u223, u224, u225, u226, u227, u228, u229, u230, u231, u232, u233, u234, u235, u236, u237, u238, u239, u240, u241, u242, u243, u244, u245, u246, u247, u248, u249, u250, u251, u252, u253, u254, u255, u256, u257, u258, u259, u260, u261, u262, u263, u264, u265, u266, u267, u268, u269, c270, c271, c272, c273, c274], []⟩ wr := by
  conv => arg 2; whnf
  obtain ⟨b, off, rfl, hcell⟩ := op_at (hc.below hS.below_) i hlt
  have e0 := hcell 0 (by omega)
  have e1 := hcell 1 (by omega)
  have e2 := hcell 2 (by omega)
  clear hcell
  rw [ho] at e0 e1 e2
  simp only [oc, Nat.add_zero] at e0 e1 e2
  clear ho
  obtain ⟨v, u, r, hP, c5, f5⟩ := hS
  obtain ⟨A, rc, rfl, _⟩ := hP.ir.slice
  go_wp2_with fail
  obtain ⟨W1, hW1⟩ : ∃ W1, W1 = wr.alloc (.cells #[.int .i64 o.kind, .int .i64 o.n, .int .i64 o.k] 44) := ⟨_, rfl⟩
  obtain ⟨B7, hB7⟩ : ∃ B7, B7 = wr.heap.size := ⟨_, rfl⟩
  have hO : OpB W1 B7 o := by rw [hW1, hB7]; exact OpB.new wr o
  have hP1 : PS w W1 H v G u (.slice A L.length rc) L L L [B7, B5] := by rw [hW1, hB7]; exact hP.alloc _
  have c51 : W1.cell? ⟨B5, 0, none⟩ = some (.slice A L.length rc) := by rw [hW1]; exact (((Below.refl _ wr).alloc (Nat.le_refl _) _).cell (World.block_lt_of_cell? _ _ c5)).trans c5
  have f51 : W1.frozen? ⟨B5, 0, none⟩ = false := by rw [hW1]; exact (((Below.refl _ wr).alloc (Nat.le_refl _) _).frozen (p := ⟨B5, 0, none⟩) (World.block_lt_of_cell? _ _ c5)).trans f5
  rw [← hW1, ← hB7]
  clear hP e0 e1 e2 c5 f5 hW1 hB7
  refine (small_any o.k W1).mono ?_
  rintro e W2 ⟨rfl, hb2⟩
  obtain ⟨hP2, hs2⟩ := hP1.below hb2
  have hsm := small_sm o.k
  obtain ⟨kk, hkk⟩ : ∃ kk, Int.tmod o.k 1000 = kk := ⟨_, rfl⟩
  rw [hkk] at hsm ⊢
  have hO2 : OpB W2 B7 o := hO.same hs2 (by simp)
  have c52 := hs2.cell (X := B5) (by simp) c51
  have f52 := hs2.frozen (X := B5) (by simp) f51
  have hL := hP2.len
  have hrsl : A = none → L.length = 0 := fun h => by
    by_cases h0 : L.length = 0
    · exact h0
    · obtain ⟨ad, cc, he⟩ := Kd.R_slice1 hP2.ir (by rw [LS_len]; omega)
      injection he with h1 _ _
      rw [h] at h1
      cases h1
  clear hP1 hO c51 f51 hb2 hs2 hkk
  obtain ⟨p0, p1, p2⟩ := id hO2
  have hX := hP2
  have c59 := c52
  have f59 := f52
  have hq := hX.len
  obtain ⟨W7, hW7⟩ : ∃ W7, W7 = W2 := ⟨_, rfl⟩
  rw [← hW7] at hX c59 f59
  rw [← hW7]
  generalize L = L9 at hX c59 hW7 hq
  go_wp2_with fail
  rw [← hW7]
  clear hW7
  have qc := fun n : ExtW W7 => exw_cell c59 n
  have eqE := fun n : Int => (show (n != n) = false by simp)
  have hbH := fun n : ExtW W7 => hX.ih.below (exw_below n)
  have hbG := fun n : ExtW W7 => hX.ig.below (exw_below n)
  refine region_ext (by kernel_rfl) (by kernel_rfl) ?_
  repeat (go_big_quiet_step ((first | (go_at_call 11; exact ext_same (Len_any H _ _ _ (hbH _))) | (go_at_call 34; exact ext_same (S.Len_any G _ _ _ (hbG _))))))
  refine wpQuiet_nil ?_
  intro _ hw'
  obtain ⟨nq, hw''⟩ := hw'
  subst hw''
  have hXd := (hX.below (exw_below nq)).1.drop
  have c5x := exw_cell c59 nq
  have f5x := ((exw_below nq).frozen (p := ⟨B5, 0, none⟩) (World.block_lt_of_cell? _ _ c59)).trans f59
  clear qc hbH hbG
  go_wp2
  unfold WI Wmu
  refine ⟨?_, by simp [kO]; omega⟩
  refine ⟨_, _, _, _, _, _, _, _, _, _, _, _, _, _, _, _, _, _, _, _, _, _, _, _, _, _, _, _, _, _, _, _, _, _, _, _, _, _, _, _, _, _, _, _, _, _, _, _, _, _, _, _, _, _, _, _, _, _, _, _, _, _, _, _, _, _, _, _, _, _, _, _, _, _, _, _, _, _, _, _, _, _, _, _, _, _, _, _, _, _, _, _, _, _, _, _, _, _, _, _, _, _, _, _, _, _, _, _, _, _, _, _, _, _, _, _, _, _, _, _, _, _, _, _, _, _, _, _, _, _, _, _, _, _, _, _, _, _, _, _, _, _, _, _, _, _, _, _, _, _, _, _, _, _, _, _, _, _, _, _, _, _, _, _, _, _, _, _, _, _, _, _, _, _, _, _, _, _, _, _, _, _, _, _, _, _, _, _, _, _, _, _, _, _, _, _, _, _, _, _, _, _, _, _, _, _, _, _, _, _, _, _, _, _, _, _, _, _, _, _, _, _, _, _, _, _, _, _, _, _, _, _, _, _, _, _, _, _, _, _, _, _, _, _, _, _, _, _, _, _, _, _, _, _, _, _, _, _, ?_, rfl⟩
  exact ⟨i + 1, _, by omega, by go_num, ⟨_, _, _, hXd, c5x, f5x⟩⟩
end Go.Proofs.Ytpapknmkiampgaa
namespace Go.Proofs.Ytpapknmkiampgaa
open Go.RowKit
open Go.Proofs.Ytpapknmkiampgaa.PHeapPlays Go.Proofs.YtpapknmkiampgaaW.PrintWords Go.Proofs.YtpapknmkiampgaaW.PrintMore Go.Proofs.YtpapknmkiampgaaW.PrintLast

set_option maxHeartbeats 40000000 in
set_option maxRecDepth 1000000 in
theorem play_end (os : List OpD) (w wr : World) (H G B5 : Nat) (a : Option Addr) (cap : Nat) (c1 c27 c28 c29 c30 c31 c32 c33 c270 c271 c272 c273 c274 u2 u7 u8 u9 u10 u11 u12 u13 u14 u15 u16 u17 u18 u19 u20 u21 u22 u23 u24 u25 u26 u34 u35 u36 u37 u38 u39 u40 u41 u42 u43 u44 u45 u46 u47 u48 u49 u50 u51 u52 u53 u54 u55 u56 u57 u58 u59 u60 u61 u62 u63 u64 u65 u66 u67 u68 u69 u70 u71 u72 u73 u74 u75 u76 u77 u78 u79 u80 u81 u82 u83 u84 u85 u86 u87 u88 u89 u90 u91 u92 u93 u94 u95 u96 u97 u98 u99 u100 u101 u102 u103 u104 u105 u106 u107 u108 u109 u110 u111 u112 u113 u114 u115 u116 u117 u118 u119 u120 u121 u122 u123 u124 u125 u126 u127 u128 u129 u130 u131 u132 u133 u134 u135 u136 u137 u138 u139 u140 u141 u142 u143 u144 u145 u146 u147 u148 u149 u150 u151 u152 u153 u154 u155 u156 u157 u158 u159 u160 u161 u162 u163 u164 u165 u166 u167 u168 u169 u170 u171 u172 u173 u174 u175 u176 u177 u178 u179 u180 u181 u182 u183 u184 u185 u186 u187 u188 u189 u190 u191 u192 u193 u194 u195 u196 u197 u198 u199 u200 u201 u202 u203 u204 u205 u206 u207 u208 u209 u210 u211 u212 u213 u214 u215 u216 u217 u218 u219 u220 u221 u222 u223 u224 u225 u226 u227 u228 u229 u230 u231 u232 u233 u234 u235 u236 u237 u238 u239 u240 u241 u242 u243 u244 u245 u246 u247 u248 u249 u250 u251 u252 u253 u254 u255 u256 u257 u258 u259 u260 u261 u262 u263 u264 u265 u266 u267 u268 u269 : Value) (Q0 : Exit → Act → World → Prop) (_ : os.length ≤ 9223372036854775807)
    (_ : SlR w 3 (.slice a os.length cap) os.length (os.flatMap oc)) (i : Nat) (L : List En) (hS : SW w H G B5 L wr) (hge : os.length ≤ i) (hexit : ∀ a' w'', WX os.length w H G B5 a cap c1 c27 c28 c29 c30 c31 c32 c33 c270 c271 c272 c273 c274 a' w'' → Q0 (.exit 0) a' w'') :
    Code.wp Try.prog body (Exit.then (fun a' w'' => WI os.length w H G B5 a cap c1 c27 c28 c29 c30 c31 c32 c33 c270 c271 c272 c273 c274 a' w'' ∧ Wmu os.length a' w'' < Wmu os.length ⟨#[.slice a os.length cap, c1, u2, .pointer (some ⟨H, 0, none⟩), .pointer (some ⟨G, 0, none⟩), .pointer (some ⟨B5, 0, none⟩), .int .i64 i, u7, u8, u9, u10, u11, u12, u13, u14, u15, u16, u17, u18, u19, u20, u21, u22, u23, u24, u25, u26, c27, c28, c29, c30, c31, c32, c33, u34, u35, u36, u37, u38, u39, u40, u41, u42, u43, u44, u45, u46, u47, u48, u49, u50, u51, u52, u53, u54, u55, u56, u57, u58, u59, u60, u61, u62, u63, u64, u65, u66, u67, u68, u69, u70, u71, u72, u73, u74, u75, u76, u77, u78, u79, u80, u81, u82, u83, u84, u85, u86, u87, u88, u89, u90, u91, u92, u93, u94, u95, u96, u97, u98, u99, u100, u101, u102, u103, u104, u105, u106, u107, u108, u109, u110, u111, u112, u113, u114, u115, u116, u117, u118, u119, u120, u121, u122, u123, u124, u125, u126, u127, u128, u129, u130, u131, u132, u133, u134, u135, u136, u137, u138, u139, u140, u141, u142, u143, u144, u145, u146, u147, u148, u149, u150, u151, u152, u153, u154, u155, u156, u157, u158, u159, u160, u161, u162, u163, u164, u165, u166, u167, u168, u169, u170, u171, u172, u173, u174, u175, u176, u177, u178, u179, u180, u181, u182, u183, u184, u185, u186, u187, u188, u189, u190, u191, u192, u193, u194, u195, u196, u197, u198, u199, u200, u201, u202, u203, u204, u205, u206, u207, u208, u209, u210, u211, u212, u213, u214, u215, u216, u217, u218, u219, u220, u221, u222, u223, u224, u225, u226, u227, u228, u229, u230, u231, u232, u233, u234, u235, u236, u237, u238, u239, u240, u241, u242, u243, u244, u245, u246, u247, u248, u249, u250, u251, u252, u253, u254, u255, u256, u257, u258, u259, u260, u261, u262, u263, u264, u265, u266, u267, u268, u269, c270, c271, c272, c273, c274], []⟩ wr) Q0) ⟨#[.slice a os.length cap, c1, u2, .pointer (some ⟨H, 0, none⟩), .pointer (some ⟨G, 0, none⟩), .pointer (some ⟨B5, 0, none⟩), .int .i64 i, u7, u8, u9, u10, u11, u12, u13, u14, u15, u16, u17, u18, u19, u20, u21, u22, u23, u24, u25, u26, c27, c28, c29, c30, c31, c32, c33, u34, u35, u36, u37, u38, u39, u40, u41, u42, u43, u44, u45, u46, u47, u48, u49, u50, u51, u52, u53, u54, u55, u56, u57, u58, u59, u60, u61, u62, u63, u64, u65, u66, u67, u68, u69, u70, u71, u72, u73, u74, u75, u76, u77, u78, u79, u80, u81, u82, u83, u84, u85, u86, u87, u88, u89, u90, u91, u92, u93, u94, u95, u96, u97, u98, u99, u100, u101, u102, u103, u104, u105, u106, u107, u108, u109, u110, u111, u112, u113, u114, u115, u116, u117, u118, u119, u120, u121, u122, u123, u124, u125, u126, u127, u128, u129, u130, u131, u132, u133, u134, u135, u136, u137, u138, u139, u140, u141, u142, u143, u144, u145, u146, u147, u148, u149, u150, u151, u152, u153, u154, u155, u156, u157, u158, u159, u160, u161, u162, u163, u164, u165, u166, u167, u168, u169, u170, u171, u172, u173, u174, u175, u176, u177, u178, u179, u180, u181, u182, u183, u184, u185, u186, u187, u188, u189, u190, u191, u192, u193, u194, u195, u196, u197, u198, u199, u200, u201, u202, u203, u204, u205, u206, u207, u208, u209, u210, u211, u212, u213, u214, u215, u216, u217, u218, u219, u220, u221, u222, u223, u224, u225, u226, u227, u228, u229, u230, u231, u232, u233, u234, u235, u236, u237, u238, u239, u240, u241, u242, u243, u244, u245, u246, u247, u248, u249, u250, u251, u252, u253, u254, u255, u256, u257, u258, u259, u260, u261, u262, u263, u264, u265, u266, u267, u268, u269, c270, c271, c272, c273, c274], []⟩ wr := by
  conv => arg 2; whnf
  go_wp2_with fail
  unfold WX
  refine ⟨_, _, _, _, _, _, _, _, _, _, _, _, _, _, _, _, _, _, _, _, _, _, _, _, _, _, _, _, _, _, _, _, _, _, _, _, _, _, _, _, _, _, _, _, _, _, _, _, _, _, _, _, _, _, _, _, _, _, _, _, _, _, _, _, _, _, _, _, _, _, _, _, _, _, _, _, _, _, _, _, _, _, _, _, _, _, _, _, _, _, _, _, _, _, _, _, _, _, _, _, _, _, _, _, _, _, _, _, _, _, _, _, _, _, _, _, _, _, _, _, _, _, _, _, _, _, _, _, _, _, _, _, _, _, _, _, _, _, _, _, _, _, _, _, _, _, _, _, _, _, _, _, _, _, _, _, _, _, _, _, _, _, _, _, _, _, _, _, _, _, _, _, _, _, _, _, _, _, _, _, _, _, _, _, _, _, _, _, _, _, _, _, _, _, _, _, _, _, _, _, _, _, _, _, _, _, _, _, _, _, _, _, _, _, _, _, _, _, _, _, _, _, _, _, _, _, _, _, _, _, _, _, _, _, _, _, _, _, _, _, _, _, _, _, _, _, _, _, _, _, _, _, _, _, _, _, _, _, ?_, rfl⟩
  exact ⟨_, hS⟩
end Go.Proofs.Ytpapknmkiampgaa
