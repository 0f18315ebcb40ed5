/- The law InternPlays: its loop. -/
import Derived.Test.YtbbiakpieakfoaaV
import Derived.Deep.DeepCutAuto
namespace Go.Proofs.Ytbbiakpieakfoaa
open Go.RowKit

theorem OpB.new (w : World) (o : OpD) : OpB (w.alloc (.cells #[.int .i64 o.kind, .int .i64 o.on, .int .u64 (u o.s.1), .int .u64 (u o.s.2), .int .i64 o.a, .int .i64 o.b] 45)) w.heap.size o := by
  have h := heap_alloc_new w (.cells #[.int .i64 o.kind, .int .i64 o.on, .int .u64 (u o.s.1), .int .u64 (u o.s.2), .int .i64 o.a, .int .i64 o.b] 45)
  exact ⟨by simp only [World.cell?, h]; rfl, by simp only [World.cell?, h]; rfl, by simp only [World.cell?, h]; rfl, by simp only [World.cell?, h]; rfl, by simp only [World.cell?, h]; rfl, by simp only [World.cell?, h]; rfl⟩
theorem St.fresh {w wr : World} {B3 B4 : Nat} {T M g G : Nat → Nat} {LT LR : Nat → List Bt} {v : Nat → Value} (h : St w wr B3 B4 T M g G LT LR v) :
    wr.heap.size ≠ B3 ∧ wr.heap.size ≠ B4 ∧ ∀ k, k < 2 → wr.heap.size ≠ T k ∧ wr.heap.size ≠ M k ∧ wr.heap.size ≠ g k := by
  have hl := h.low
  refine ⟨by omega, by omega, fun k hk => ?_⟩
  have := (h.tab k hk).lt
  omega

theorem step_keep {w wr w3 : World} {B3 B4 B6 k : Nat} {o : OpD} {T M g G : Nat → Nat} {LT LR : Nat → List Bt} {v : Nat → Value}
    (h : wr.cell? ⟨B3, k, none⟩ = some (.pointer (some ⟨T k, 0, none⟩)) ∧ wr.cell? ⟨B6, 2, none⟩ = some (.int .u64 (u o.s.1)) ∧ wr.cell? ⟨B6, 3, none⟩ = some (.int .u64 (u o.s.2)))
    (hK : Keep (fun b => b = T k ∨ b = M k ∨ b = g k) wr w3) (a6 : Veil (B6 ≠ B3 ∧ B6 ≠ B4 ∧ ∀ k, k < 2 → B6 ≠ T k ∧ B6 ≠ M k ∧ B6 ≠ g k)) {W : World} (hS : St w W B3 B4 T M g G LT LR v) (hk : k < 2) :
    w3.cell? ⟨B3, k, none⟩ = some (.pointer (some ⟨T k, 0, none⟩)) ∧ w3.cell? ⟨B6, 2, none⟩ = some (.int .u64 (u o.s.1)) ∧ w3.cell? ⟨B6, 3, none⟩ = some (.int .u64 (u o.s.2)) := by
  have a3 := hS.ap3 k hk
  have a6' := a6.out.2.2 k hk
  exact ⟨hK.cell h.1 (by simp; omega), hK.cell h.2.1 (by simp; omega), hK.cell h.2.2 (by simp; omega)⟩

theorem step_keep2 {w wr w3 : World} {B3 B4 B6 k : Nat} {o : OpD} {T M g G : Nat → Nat} {LT LR : Nat → List Bt} {v : Nat → Value}
    (h : wr.cell? ⟨B3, k, none⟩ = some (.pointer (some ⟨T k, 0, none⟩)) ∧ wr.cell? ⟨B6, 4, none⟩ = some (.int .i64 o.a) ∧ wr.cell? ⟨B6, 5, none⟩ = some (.int .i64 o.b))
    (hK : Keep (fun b => b = T k ∨ b = M k ∨ b = g k) wr w3) (a6 : Veil (B6 ≠ B3 ∧ B6 ≠ B4 ∧ ∀ k, k < 2 → B6 ≠ T k ∧ B6 ≠ M k ∧ B6 ≠ g k)) {W : World} (hS : St w W B3 B4 T M g G LT LR v) (hk : k < 2) :
    w3.cell? ⟨B3, k, none⟩ = some (.pointer (some ⟨T k, 0, none⟩)) ∧ w3.cell? ⟨B6, 4, none⟩ = some (.int .i64 o.a) ∧ w3.cell? ⟨B6, 5, none⟩ = some (.int .i64 o.b) := by
  have a3 := hS.ap3 k hk
  have a6' := a6.out.2.2 k hk
  exact ⟨hK.cell h.1 (by simp; omega), hK.cell h.2.1 (by simp; omega), hK.cell h.2.2 (by simp; omega)⟩
theorem plays_G {G : Nat → Nat} {k G' n : Nat} (hk : k < 2) (h : G' = G k ∨ n ≤ G') : (∃ j, j < 2 ∧ G' = G j) ∨ n ≤ G' := by
  rcases h with h | h
  · exact .inl ⟨k, hk, h⟩
  · exact .inr h

theorem step_keep3 {wr w3 : World} {B B6 k : Nat} {x y : Value} (h : wr.cell? ⟨B, k, none⟩ = some x ∧ wr.cell? ⟨B6, 4, none⟩ = some y) (hb : Below wr.heap.size wr w3) :
    w3.cell? ⟨B, k, none⟩ = some x ∧ w3.cell? ⟨B6, 4, none⟩ = some y := by
  have K := Keep.of_below (S := fun _ => False) hb
  exact ⟨K.cell h.1 (by simp), K.cell h.2 (by simp)⟩
theorem drew_below {w w3 : World} (h : Below w.drew.heap.size w.drew w3) : Below w.heap.size w w3 := (below_drewN (Below.refl _ w) 1).trans h
theorem box_b1 {w w3 : World} {x y c d : Value} {t : TypeId} (h : Below (w.drew.alloc (.cells #[c, d] t)).heap.size (w.drew.alloc (.cells #[c, d] t)) w3) :
    Below w.heap.size w ((w3.setCell ⟨w.heap.size, 0, none⟩ x).setCell ⟨w.heap.size, 1, none⟩ y) :=
  ((((below_drewN (Below.refl _ w) 1).alloc (Nat.le_refl _) _).trans (h.mono (by simp))).setCell (Nat.le_refl _) _).setCell (Nat.le_refl _) _
theorem sum_word (x : UInt64) (j : Nat) : ∃ y : UInt64, IntKind.u64.wrap (u x + (j : Int)) = u y := by
  have h : 0 ≤ IntKind.u64.wrap (u x + (j : Int)) ∧ IntKind.u64.wrap (u x + (j : Int)) < 18446744073709551616 := by
    simp [IntKind.wrap, IntKind.signed, go_sem]
    omega
  exact u_nat h.1 h.2
theorem step_keep4 {w wr w3 : World} {B3 B4 B7 k : Nat} {s : Bt} {T M g G : Nat → Nat} {LT LR : Nat → List Bt} {v : Nat → Value}
    (h : wr.cell? ⟨B3, k, none⟩ = some (.pointer (some ⟨T k, 0, none⟩)) ∧ wr.cell? ⟨B7, 0, none⟩ = some (.int .u64 (u s.1)) ∧ wr.cell? ⟨B7, 1, none⟩ = some (.int .u64 (u s.2)))
    (hK : Keep (fun b => b = T k ∨ b = M k ∨ b = g k) wr w3) (a6 : Veil (B7 ≠ B3 ∧ B7 ≠ B4 ∧ ∀ k, k < 2 → B7 ≠ T k ∧ B7 ≠ M k ∧ B7 ≠ g k)) {W : World} (hS : St w W B3 B4 T M g G LT LR v) (hk : k < 2) :
    w3.cell? ⟨B3, k, none⟩ = some (.pointer (some ⟨T k, 0, none⟩)) ∧ w3.cell? ⟨B7, 0, none⟩ = some (.int .u64 (u s.1)) ∧ w3.cell? ⟨B7, 1, none⟩ = some (.int .u64 (u s.2)) := by
  have a3 := hS.ap3 k hk
  have a6' := a6.out.2.2 k hk
  exact ⟨hK.cell h.1 (by simp; omega), hK.cell h.2.1 (by simp; omega), hK.cell h.2.2 (by simp; omega)⟩
theorem far_step {wr : World} {B3 B4 B6 g' : Nat} {o : OpD} {T M g : Nat → Nat} (hO : OpB wr B6 o) (a6 : Veil (B6 ≠ B3 ∧ B6 ≠ B4 ∧ ∀ k, k < 2 → B6 ≠ T k ∧ B6 ≠ M k ∧ B6 ≠ g k)) {k : Nat}
    (hg : g' = g k ∨ wr.drew.heap.size ≤ g') (i : Nat) (hi : i = k) (hk : k < 2) : Veil (B6 ≠ B3 ∧ B6 ≠ B4 ∧ ∀ j, j < 2 → B6 ≠ T j ∧ B6 ≠ M j ∧ B6 ≠ upd g i g' j) := by
  subst hi
  have hl := World.block_lt_of_cell? _ _ hO.c0
  have hl' : B6 < wr.drew.heap.size := hl
  obtain ⟨a, b, c⟩ := a6.out
  refine ⟨a, b, fun j hj => ⟨(c j hj).1, (c j hj).2.1, ?_⟩⟩
  unfold upd
  split
  · have := (c i hk).2.2
    omega
  · exact (c j hj).2.2
theorem eq_same (x : Bt) (w : World) : (Op.equalIn 10000 24 (.agg #[.int .u64 (u x.1), .int .u64 (u x.2)]) (.agg #[.int .u64 (u x.1), .int .u64 (u x.2)])).run Try.prog w = .ok true w := by
  rw [eq_bt4]
  simp


def firstLoop : Code → Option Code
  | .loop c => some c
  | .seq a b => match firstLoop a with
    | some c => some c
    | none => firstLoop b
  | .block _ c => firstLoop c
  | .scope c => firstLoop c
  | .cond _ a b => match firstLoop a with
    | some c => some c
    | none => firstLoop b
  | _ => none
theorem then_np {F : Act → World → Prop} {Q0 : Exit → Act → World → Prop} : ∀ e a w, Exit.then F (NoPanic Q0) e a w → Exit.then F Q0 e a w := fun e a w h => by
  cases e <;> first | exact h | exact (h : False).elim
/-- The body of the law's loop. -/
noncomputable def body : Code := ((Try.f5.body.bind firstLoop).getD .skip)
/-- What holds at the head of each round, but of the frame. -/
def Rel (n : Nat) (w : World) (B3 B4 : Nat) (x : Value) (wr : World) : Prop :=
  ∃ (k : Nat) (T M g G : Nat → Nat) (L : Nat → List Bt) (v : Nat → Value), k ≤ n ∧ x = .int .i64 k ∧ St w wr B3 B4 T M g G L L v
set_option maxRecDepth 1000000 in
def WI (n : Nat) (w : World) (B3 B4 : Nat) (a : Option Addr) (cap : Nat) (c1 c18 c19 c20 c21 c22 c23 c24 c25 c206 c207 c208 c209 c210 c211 c212 c213 c214 c215 c216 c217 c218 c219 c220 c221 c222 c223 : Value) (a' : Act) (wr : World) : Prop :=
  ∃ u2 u5 u6 u7 u8 u9 u10 u11 u12 u13 u14 u15 u16 u17 u26 u27 u28 u29 u30 u31 u32 u33 u34 u35 u36 u37 u38 u39 u40 u41 u42 u43 u44 u45 u46 u47 u48 u49 u50 u51 u52 u53 u54 u55 u56 u57 u58 u59 u60 u61 u62 u63 u64 u65 u66 u67 u68 u69 u70 u71 u72 u73 u74 u75 u76 u77 u78 u79 u80 u81 u82 u83 u84 u85 u86 u87 u88 u89 u90 u91 u92 u93 u94 u95 u96 u97 u98 u99 u100 u101 u102 u103 u104 u105 u106 u107 u108 u109 u110 u111 u112 u113 u114 u115 u116 u117 u118 u119 u120 u121 u122 u123 u124 u125 u126 u127 u128 u129 u130 u131 u132 u133 u134 u135 u136 u137 u138 u139 u140 u141 u142 u143 u144 u145 u146 u147 u148 u149 u150 u151 u152 u153 u154 u155 u156 u157 u158 u159 u160 u161 u162 u163 u164 u165 u166 u167 u168 u169 u170 u171 u172 u173 u174 u175 u176 u177 u178 u179 u180 u181 u182 u183 u184 u185 u186 u187 u188 u189 u190 u191 u192 u193 u194 u195 u196 u197 u198 u199 u200 u201 u202 u203 u204 u205 : Value, Rel n w B3 B4 u5 wr ∧ a' = ⟨#[.slice a n cap, c1, u2, .pointer (some ⟨B3, 0, none⟩), .pointer (some ⟨B4, 0, none⟩), u5, u6, u7, u8, u9, u10, u11, u12, u13, u14, u15, u16, u17, c18, c19, c20, c21, c22, c23, c24, c25, u26, u27, u28, u29, u30, u31, u32, u33, u34, u35, u36, u37, u38, u39, u40, u41, u42, u43, u44, u45, u46, u47, u48, u49, u50, u51, u52, u53, u54, u55, u56, u57, u58, u59, u60, u61, u62, u63, u64, u65, u66, u67, u68, u69, u70, u71, u72, u73, u74, u75, u76, u77, u78, u79, u80, u81, u82, u83, u84, u85, u86, u87, u88, u89, u90, u91, u92, u93, u94, u95, u96, u97, u98, u99, u100, u101, u102, u103, u104, u105, u106, u107, u108, u109, u110, u111, u112, u113, u114, u115, u116, u117, u118, u119, u120, u121, u122, u123, u124, u125, u126, u127, u128, u129, u130, u131, u132, u133, u134, u135, u136, u137, u138, u139, u140, u141, u142, u143, u144, u145, u146, u147, u148, u149, u150, u151, u152, u153, u154, u155, u156, u157, u158, u159, u160, u161, u162, u163, u164, u165, u166, u167, u168, u169, u170, u171, u172, u173, u174, u175, u176, u177, u178, u179, u180, u181, u182, u183, u184, u185, u186, u187, u188, u189, u190, u191, u192, u193, u194, u195, u196, u197, u198, u199, u200, u201, u202, u203, u204, u205, c206, c207, c208, c209, c210, c211, c212, c213, c214, c215, c216, c217, c218, c219, c220, c221, c222, c223], []⟩
set_option maxRecDepth 1000000 in
def WX (n : Nat) (w : World) (B3 B4 : Nat) (a : Option Addr) (cap : Nat) (c1 c18 c19 c20 c21 c22 c23 c24 c25 c206 c207 c208 c209 c210 c211 c212 c213 c214 c215 c216 c217 c218 c219 c220 c221 c222 c223 : Value) (a' : Act) (wr : World) : Prop :=
  ∃ u2 u5 u6 u7 u8 u9 u10 u11 u12 u13 u14 u15 u16 u17 u26 u27 u28 u29 u30 u31 u32 u33 u34 u35 u36 u37 u38 u39 u40 u41 u42 u43 u44 u45 u46 u47 u48 u49 u50 u51 u52 u53 u54 u55 u56 u57 u58 u59 u60 u61 u62 u63 u64 u65 u66 u67 u68 u69 u70 u71 u72 u73 u74 u75 u76 u77 u78 u79 u80 u81 u82 u83 u84 u85 u86 u87 u88 u89 u90 u91 u92 u93 u94 u95 u96 u97 u98 u99 u100 u101 u102 u103 u104 u105 u106 u107 u108 u109 u110 u111 u112 u113 u114 u115 u116 u117 u118 u119 u120 u121 u122 u123 u124 u125 u126 u127 u128 u129 u130 u131 u132 u133 u134 u135 u136 u137 u138 u139 u140 u141 u142 u143 u144 u145 u146 u147 u148 u149 u150 u151 u152 u153 u154 u155 u156 u157 u158 u159 u160 u161 u162 u163 u164 u165 u166 u167 u168 u169 u170 u171 u172 u173 u174 u175 u176 u177 u178 u179 u180 u181 u182 u183 u184 u185 u186 u187 u188 u189 u190 u191 u192 u193 u194 u195 u196 u197 u198 u199 u200 u201 u202 u203 u204 u205 : Value, (∃ (T M g G : Nat → Nat) (L : Nat → List Bt) (v : Nat → Value), St w wr B3 B4 T M g G L L v) ∧ a' = ⟨#[.slice a n cap, c1, u2, .pointer (some ⟨B3, 0, none⟩), .pointer (some ⟨B4, 0, none⟩), u5, u6, u7, u8, u9, u10, u11, u12, u13, u14, u15, u16, u17, c18, c19, c20, c21, c22, c23, c24, c25, u26, u27, u28, u29, u30, u31, u32, u33, u34, u35, u36, u37, u38, u39, u40, u41, u42, u43, u44, u45, u46, u47, u48, u49, u50, u51, u52, u53, u54, u55, u56, u57, u58, u59, u60, u61, u62, u63, u64, u65, u66, u67, u68, u69, u70, u71, u72, u73, u74, u75, u76, u77, u78, u79, u80, u81, u82, u83, u84, u85, u86, u87, u88, u89, u90, u91, u92, u93, u94, u95, u96, u97, u98, u99, u100, u101, u102, u103, u104, u105, u106, u107, u108, u109, u110, u111, u112, u113, u114, u115, u116, u117, u118, u119, u120, u121, u122, u123, u124, u125, u126, u127, u128, u129, u130, u131, u132, u133, u134, u135, u136, u137, u138, u139, u140, u141, u142, u143, u144, u145, u146, u147, u148, u149, u150, u151, u152, u153, u154, u155, u156, u157, u158, u159, u160, u161, u162, u163, u164, u165, u166, u167, u168, u169, u170, u171, u172, u173, u174, u175, u176, u177, u178, u179, u180, u181, u182, u183, u184, u185, u186, u187, u188, u189, u190, u191, u192, u193, u194, u195, u196, u197, u198, u199, u200, u201, u202, u203, u204, u205, c206, c207, c208, c209, c210, c211, c212, c213, c214, c215, c216, c217, c218, c219, c220, c221, c222, c223], []⟩
def Wmu (n : Nat) (a' : Act) (_ : World) : Nat := n - (intOf (a'.tmps.getD 5 undef)).toNat
end Go.Proofs.Ytbbiakpieakfoaa
