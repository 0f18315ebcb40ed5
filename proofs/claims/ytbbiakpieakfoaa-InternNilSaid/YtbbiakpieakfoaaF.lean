/- The law InternNil: the walk. -/
import Derived.Test.YtbbiakpieakfoaaD
namespace Go.Proofs.Ytbbiakpieakfoaa
open Go.RowKit

set_option maxHeartbeats 1000000 in
theorem ID_nil (s : Bt) (w : World) :
    Calls Try.prog 9 #[.pointer none, bv s] w fun e w' => e = .returned (.tuple #[.int .i64 0, .int .i64 2]) ∧ Below w.heap.size w w' := by
  go_enter Try.func9, Try.ntmps9
  go_wp2
  go_ret2
  exact ⟨rfl, (Below.refl _ _).alloc (Nat.le_refl _) _⟩

set_option maxHeartbeats 1000000 in
theorem Set_nil (n : Int) (w : World) :
    Calls Try.prog 11 #[.pointer none, .int .i64 n] w fun e w' => e = .returned (.tuple #[bv (0, 0), .int .i64 2]) ∧ Below w.heap.size w w' := by
  have HZ := Lib.hid (show bv (0, 0) = .agg #[.int .u64 0, .int .u64 0] from rfl)
  go_enter Try.func11, Try.ntmps11
  go_wp2
  exact bodyPost_ret (v := .tuple #[.agg #[.int .u64 0, .int .u64 0], .int .i64 2]) (by simp [results, Try.results11, go_sem]) rfl ⟨by rw [HZ.out], (Below.refl _ _).alloc (Nat.le_refl _) _⟩

set_option maxHeartbeats 1000000 in
theorem Union_nil (m n : Int) (w : World) :
    Calls Try.prog 10 #[.pointer none, .int .i64 m, .int .i64 n] w fun e w' => e = .returned (.tuple #[.int .i64 0, .int .i64 2]) ∧ Below w.heap.size w w' := by
  go_enter Try.func10, Try.ntmps10
  go_wp2_with fail
  refine (Set_nil m w).mono ?_
  rintro e w1 ⟨rfl, hb1⟩
  go_wp2_with fail
  refine (Set_nil n _).mono ?_
  rintro e w2 ⟨rfl, hb2⟩
  have h1 := hb1.size
  have h2 := hb2.size
  simp at h2
  go_wp2_with fail
  go_ret2
  exact ⟨rfl, ((hb1.alloc h1 _).trans (hb2.mono (by simp; omega))).alloc (by omega) _⟩

set_option maxHeartbeats 1000000 in
theorem Len_nil (w : World) :
    Calls Try.prog 12 #[.pointer none] w fun e w' => e = .returned (.int .i64 0) ∧ w = w' := by
  go_enter Try.func12, Try.ntmps12
  go_wp2
  go_ret
  exact ⟨rfl, rfl⟩

set_option maxHeartbeats 1000000 in
theorem Copy_nil (w : World) :
    Calls Try.prog 18 #[.pointer none] w fun e w' => e = .returned (.pointer none) ∧ w = w' := by
  go_enter Try.func18, Try.ntmps18
  go_wp2
  go_ret
  exact ⟨rfl, rfl⟩

set_option maxHeartbeats 2000000 in
set_option maxRecDepth 100000 in
theorem InternNil_walk (s : Bt) (a b : Int) (w : World) :
    Calls Try.prog 6 #[bv s, .int .i64 a, .int .i64 b] w fun e w' => e = .returned (.bool true) ∧ Below w.heap.size w w' := by
  have e2 : ∀ w, (Op.equalIn 10000 24 (.agg #[.int .u64 (u 0), .int .u64 (u 0)]) (.agg #[.int .u64 0, .int .u64 0])).run Try.prog w = .ok true w := eq_bt4 0 0 0 0
  go_enter Try.func6, Try.ntmps6
  go_wp2_with fail
  refine (ID_nil s _).mono ?_
  rintro e w1 ⟨rfl, hb1⟩
  have b1 : Below w.heap.size w w1 := ((Below.refl w.heap.size w).alloc (Nat.le_refl _) _).trans (hb1.mono (by simp))
  clear hb1
  go_wp2_with fail
  refine (Set_nil a w1).mono ?_
  rintro e w2 ⟨rfl, hb2⟩
  have b2 := b1.trans (hb2.mono b1.size)
  clear hb2 b1
  go_wp2_with fail
  refine (Union_nil a b _).mono ?_
  rintro e w3 ⟨rfl, hb3⟩
  have k0 := box_cell hb3 0 _ rfl
  have k1 := box_cell hb3 1 _ rfl
  have b3 := (b2.alloc b2.size _).trans (hb3.mono (by have := b2.size; simp; omega))
  clear hb3 
  go_wp2_with fail
  refine (awake_true w3).mono ?_
  rintro e w4 ⟨rfl, hb4⟩
  have q0 := (hb4.cell (World.block_lt_of_cell? _ _ k0)).trans k0
  have q1 := (hb4.cell (World.block_lt_of_cell? _ _ k1)).trans k1
  have b4 := b3.trans (hb4.mono b3.size)
  clear hb4 b3 b2 k0 k1
  go_wp2_with (first | (go_at_call 12; refine (Len_nil _).mono ?_; rintro e w' ⟨rfl, rfl⟩) | (go_at_call 18; refine (Copy_nil _).mono ?_; rintro e w' ⟨rfl, rfl⟩))
  go_ret
  exact ⟨rfl, b4⟩
end Go.Proofs.Ytbbiakpieakfoaa
