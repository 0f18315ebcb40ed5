/- The laws of sets. -/
import Derived.Test.YthhinchifegofaaB
import Derived.Test.YthhinchifegofaaM
import Derived.BigQuiet
namespace Go.Proofs.Ythhinchifegofaa
open Go.RowKit

theorem cells24 : Try.prog.cellsOf 24 = 2 := by kernel_rfl
theorem cells22 : Try.prog.cellsOf 22 = 1 := by kernel_rfl
theorem eq_bt (x y : Bt) (w : World) : (Op.equalIn 10000 24 (bv x) (bv y)).run Try.prog w = .ok (x == y) w := by
  obtain ⟨i, hi⟩ := Option.isSome_iff_exists.1 (show (Try.prog.info? 22).isSome = true by kernel_rfl)
  exact run_equalIn_bt Try.underlying24 Try.underlying22 hi cells22 x y 9998 w
theorem eq_bt4 (x1 x2 y1 y2 : UInt64) (w : World) : (Op.equalIn 10000 24 (.agg #[.int .u64 (u x1), .int .u64 (u x2)]) (.agg #[.int .u64 (u y1), .int .u64 (u y2)])).run Try.prog w = .ok ((x1, x2) == (y1, y2)) w :=
  eq_bt (x1, x2) (y1, y2) w

set_option maxHeartbeats 1000000 in
set_option maxRecDepth 100000 in
theorem awake_true (w : World) :
    Calls Try.prog 5 #[] w fun e w' => e = .returned (.bool true) ∧ Below w.heap.size w w' := by
  have e : ∀ w, (Op.equalIn 10000 24 (.agg #[.int .u64 (u 9), .int .u64 (u 1)]) (.agg #[.int .u64 9, .int .u64 1])).run Try.prog w = .ok true w := fun w => eq_bt4 9 1 9 1 w
  have el : lenB (9, 1) = 3 := by decide +kernel
  have eo : ofR [0, 64, 3] (0,0) = ((9, 1), 0) := by decide +kernel
  go_enter Try.func5, Try.ntmps5
  go_wp2_with fail
  have hs : SlR (w.alloc (.cells #[.int .i64 0, .int .i64 64, .int .i64 3] 3)) 1 (.slice (some ⟨w.heap.size, 0, none⟩) 3 3) 3 (ints [0, 64, 3]) := by
    have := World.ownsRow_lit (base := 0) (e := 3) (size := 1) w #[.int .i64 0, .int .i64 64, .int .i64 3] 3 (Nat.zero_le _) (by simp [maxLen]) rfl
    exact SlR.of_owns this
  refine (Of_any _ 3 [0, 64, 3] _ hs).mono ?_
  rintro e w1 ⟨rfl, hb⟩
  rw [eo]
  generalize hw1 : w1 = w2
  go_wp2_with (go_at_call 6; refine (Len_any (9, 1) _).mono ?_; rintro e w3 ⟨rfl, hb3⟩)
  go_ret
  have b1 := ((Below.refl w.heap.size w).alloc (Nat.le_refl _) _).trans (hb.mono (by simp))
  subst hw1
  exact ⟨rfl, (b1.alloc b1.size _).trans (hb3.mono (by have := b1.size; simp; omega))⟩
/-- The three boxes that hold the law's arguments. -/
structure Boxes (w : World) (k : Nat) (a b c : Bt) : Prop where
  a0 : w.cell? ⟨k, 0, none⟩ = some (.int .u64 (u a.1))
  a1 : w.cell? ⟨k, 1, none⟩ = some (.int .u64 (u a.2))
  b0 : w.cell? ⟨k + 1, 0, none⟩ = some (.int .u64 (u b.1))
  b1 : w.cell? ⟨k + 1, 1, none⟩ = some (.int .u64 (u b.2))
  c0 : w.cell? ⟨k + 1 + 1, 0, none⟩ = some (.int .u64 (u c.1))
  c1 : w.cell? ⟨k + 1 + 1, 1, none⟩ = some (.int .u64 (u c.2))

theorem len_or_and (a b : Bt) : lenB (orB a b) + lenB (andB a b) = lenB a + lenB b := by
  have h1 := pc_or_and a.1 b.1
  have h2 := pc_or_and a.2 b.2
  simp only [lenB, orB, andB]
  omega
theorem ring1 (a b c : UInt64) : a &&& ~~~(b ||| c) = a &&& ~~~b &&& (a &&& ~~~c) := by
  apply UInt64.eq_of_toBitVec_eq
  ext i hi
  simp
  cases a.toBitVec[i] <;> cases b.toBitVec[i] <;> cases c.toBitVec[i] <;> rfl
theorem ring2 (a b c : UInt64) : a &&& (b ||| c) = a &&& b ||| a &&& c := by
  apply UInt64.eq_of_toBitVec_eq
  ext i hi
  simp
  cases a.toBitVec[i] <;> cases b.toBitVec[i] <;> cases c.toBitVec[i] <;> rfl
theorem ring3 (a b : UInt64) : a &&& ~~~b ||| a &&& b = a := by
  apply UInt64.eq_of_toBitVec_eq
  ext i hi
  simp
  cases a.toBitVec[i] <;> cases b.toBitVec[i] <;> rfl

set_option maxHeartbeats 4000000 in
set_option maxRecDepth 100000 in
theorem BitsRing_walk (a b c : Bt) (w : World) :
    Calls Try.prog 3 #[bv a, bv b, bv c] w fun e w' => e = .returned (.bool true) ∧ Below w.heap.size w w' := by
  have hs1 : IntKind.i64.wrap ((lenB (orB a b) : Int) + (lenB (andB a b) : Int)) = ((lenB a + lenB b : Nat) : Int) := by
    have h1 := lenB_le a
    have h2 := lenB_le b
    have := wrap_nat_i (lenB a + lenB b) (by omega)
    rw [← len_or_and] at this ⊢
    simpa using this
  have hs2 : IntKind.i64.wrap ((lenB a : Int) + (lenB b : Int)) = ((lenB a + lenB b : Nat) : Int) := by
    have h1 := lenB_le a
    have h2 := lenB_le b
    have := wrap_nat_i (lenB a + lenB b) (by omega)
    simpa using this
  have hneq : (((lenB a + lenB b : Nat) : Int) != ((lenB a + lenB b : Nat) : Int)) = false := by simp
  have g1 : ∀ w, (Op.equalIn 10000 24 (bv (minusB a (orB b c))) (bv (andB (minusB a b) (minusB a c)))).run Try.prog w = .ok true w := by
    intro w
    rw [eq_bt]
    have : minusB a (orB b c) = andB (minusB a b) (minusB a c) := Prod.ext (ring1 _ _ _) (ring1 _ _ _)
    rw [this]
    simp
  have g2 : ∀ w, (Op.equalIn 10000 24 (bv (andB a (orB b c))) (bv (orB (andB a b) (andB a c)))).run Try.prog w = .ok true w := by
    intro w
    rw [eq_bt]
    have : andB a (orB b c) = orB (andB a b) (andB a c) := Prod.ext (ring2 _ _ _) (ring2 _ _ _)
    rw [this]
    simp
  have g3 : ∀ w, (Op.equalIn 10000 24 (bv (orB (minusB a b) (andB a b))) (bv a)).run Try.prog w = .ok true w := by
    intro w
    rw [eq_bt]
    have : orB (minusB a b) (andB a b) = a := Prod.ext (ring3 _ _) (ring3 _ _)
    rw [this]
    simp
  go_enter Try.func3, Try.ntmps3
  go_wp2_with fail
  have HX : Boxes (((w.alloc (.cells #[.int .u64 (u a.1), .int .u64 (u a.2)] 24)).alloc (.cells #[.int .u64 (u b.1), .int .u64 (u b.2)] 24)).alloc (.cells #[.int .u64 (u c.1), .int .u64 (u c.2)] 24)) w.heap.size a b c := by
    have ha := ((Arr.new w a).alloc (by simp) (.cells #[.int .u64 (u b.1), .int .u64 (u b.2)] 24)).alloc (by simp; omega) (.cells #[.int .u64 (u c.1), .int .u64 (u c.2)] 24)
    have hb := (Arr.new (w.alloc (.cells #[.int .u64 (u a.1), .int .u64 (u a.2)] 24)) b).alloc (by simp) (.cells #[.int .u64 (u c.1), .int .u64 (u c.2)] 24)
    have hc := Arr.new ((w.alloc (.cells #[.int .u64 (u a.1), .int .u64 (u a.2)] 24)).alloc (.cells #[.int .u64 (u b.1), .int .u64 (u b.2)] 24)) c
    simp only [World.size_alloc] at hb hc
    exact ⟨ha.1, ha.2.1, hb.1, hb.2.1, hc.1, hc.2.1⟩
  have HB : Below w.heap.size w (((w.alloc (.cells #[.int .u64 (u a.1), .int .u64 (u a.2)] 24)).alloc (.cells #[.int .u64 (u b.1), .int .u64 (u b.2)] 24)).alloc (.cells #[.int .u64 (u c.1), .int .u64 (u c.2)] 24)) := (((Below.refl _ _).alloc (Nat.le_refl _) _).alloc (by simp) _).alloc (by simp; omega) _
  generalize (((w.alloc (.cells #[.int .u64 (u a.1), .int .u64 (u a.2)] 24)).alloc (.cells #[.int .u64 (u b.1), .int .u64 (u b.2)] 24)).alloc (.cells #[.int .u64 (u c.1), .int .u64 (u c.2)] 24)) = W at HX HB ⊢
  have qa0 := fun n : ExtW W => exw_cell HX.a0 n
  have qa1 := fun n : ExtW W => exw_cell HX.a1 n
  have qb0 := fun n : ExtW W => exw_cell HX.b0 n
  have qb1 := fun n : ExtW W => exw_cell HX.b1 n
  have qc0 := fun n : ExtW W => exw_cell HX.c0 n
  have qc1 := fun n : ExtW W => exw_cell HX.c1 n
  refine region_ext (by kernel_rfl) (by kernel_rfl) ?_
  repeat (go_big_quiet_step ((first | (go_at_call 7; exact ext_call (Or_any _ _ _)) | (go_at_call 8; exact ext_call (And_any _ _ _)) | (go_at_call 9; exact ext_call (Minus_any _ _ _)) | (go_at_call 6; exact ext_call (Len_any _ _)) | (go_at_call 5; exact ext_call (awake_true _)))))
  refine wpQuiet_nil ?_
  intro _ hw'
  obtain ⟨nq, hw''⟩ := hw'
  subst hw''
  clear qa0 qa1 qb0 qb1 qc0 qc1
  have HX2 : Boxes (exw nq) w.heap.size a b c := ⟨exw_cell HX.a0 nq, exw_cell HX.a1 nq, exw_cell HX.b0 nq, exw_cell HX.b1 nq, exw_cell HX.c0 nq, exw_cell HX.c1 nq⟩
  have HB2 : Below w.heap.size w (exw nq) := HB.trans ((exw_below nq).mono HB.size)
  generalize exw nq = W2 at HX2 HB2 ⊢
  clear HX HB nq
  go_wp2_with fail
  have qa0 := fun n : ExtW W2 => exw_cell HX2.a0 n
  have qa1 := fun n : ExtW W2 => exw_cell HX2.a1 n
  have qb0 := fun n : ExtW W2 => exw_cell HX2.b0 n
  have qb1 := fun n : ExtW W2 => exw_cell HX2.b1 n
  have qc0 := fun n : ExtW W2 => exw_cell HX2.c0 n
  have qc1 := fun n : ExtW W2 => exw_cell HX2.c1 n
  refine region_ext (by kernel_rfl) (by kernel_rfl) ?_
  repeat (go_big_quiet_step ((first | (go_at_call 7; exact ext_call (Or_any _ _ _)) | (go_at_call 8; exact ext_call (And_any _ _ _)) | (go_at_call 9; exact ext_call (Minus_any _ _ _)))))
  refine wpQuiet_nil ?_
  intro _ hw'
  obtain ⟨nq, hw''⟩ := hw'
  subst hw''
  clear qa0 qa1 qb0 qb1 qc0 qc1
  go_wp2
  go_ret
  exact ⟨rfl, HB2.trans ((exw_below nq).mono HB2.size)⟩
end Go.Proofs.Ythhinchifegofaa
