/- The contracts of the small functions of layer 1. -/
import Derived.Test.YtpclmpgemlcbpaaDoorRows
import Derived.Test.YtpclmpgemlcbpaaDoorL
namespace Go.Proofs.YtpclmpgemlcbpaaDoor
open Go.RowKit

def clampI (n : Int) : Int := if n < 0 then 0 else if 1073741824 < n then 1073741824 else n
theorem clampI_bd (n : Int) : 0 ≤ clampI n ∧ clampI n ≤ 1073741824 := by unfold clampI; split <;> (try split) <;> omega



set_option maxHeartbeats 400000 in
theorem clamp_any (n : Int) (w : World) :
    Calls Tryd.prog 13 #[.int .i64 n] w fun e w' => e = .returned (.int .i64 (clampI n)) ∧ w = w' := by
  by_cases h0 : n < 0
  · go_enter Tryd.func13, Tryd.ntmps13
    go_wp2
    go_ret
    exact ⟨ret_int (by unfold clampI; (repeat' split) <;> omega), rfl⟩
  · by_cases h1 : 1073741824 < n
    · go_enter Tryd.func13, Tryd.ntmps13
      go_wp2
      go_ret
      exact ⟨ret_int (by unfold clampI; (repeat' split) <;> omega), rfl⟩
    · go_enter Tryd.func13, Tryd.ntmps13
      go_wp2
      go_ret
      exact ⟨ret_int (by unfold clampI; (repeat' split) <;> omega), rfl⟩

set_option maxHeartbeats 400000 in
theorem Clamp_any (n : Int) (w : World) :
    Calls Tryd.prog 9 #[.int .i64 n] w fun e w' => e = .returned (.int .i64 (clampI n)) ∧ w = w' := by
  by_cases h0 : n < 0
  · go_enter Tryd.func9, Tryd.ntmps9
    go_wp2
    go_ret
    exact ⟨ret_int (by unfold clampI; (repeat' split) <;> omega), rfl⟩
  · by_cases h1 : 1073741824 < n
    · go_enter Tryd.func9, Tryd.ntmps9
      go_wp2
      go_ret
      exact ⟨ret_int (by unfold clampI; (repeat' split) <;> omega), rfl⟩
    · go_enter Tryd.func9, Tryd.ntmps9
      go_wp2
      go_ret
      exact ⟨ret_int (by unfold clampI; (repeat' split) <;> omega), rfl⟩

def sumI (a b : Int) : Int := clampI (clampI a + clampI b)

set_option maxHeartbeats 400000 in
theorem Sum_any (a b : Int) (w : World) :
    Calls Tryd.prog 15 #[.int .i64 a, .int .i64 b] w fun e w' => e = .returned (.int .i64 (sumI a b)) ∧ w = w' := by
  have h1 := clampI_bd a
  have h2 := clampI_bd b
  go_enter Tryd.func15, Tryd.ntmps15
  go_wp2_with (go_at_call 13; refine (clamp_any _ _).mono ?_; rintro e w' ⟨rfl, rfl⟩)
  all_goals
    go_ret
    exact ⟨ret_int (by unfold sumI; generalize clampI a = x at *; generalize clampI b = y at *; unfold clampI; (repeat' split) <;> omega), rfl⟩

def lessB (a b : Int) : Bool := decide (clampI a < clampI b)

set_option maxHeartbeats 400000 in
theorem Two_in (a b : Int) (w : World) (ha0 : 0 ≤ a) (ha : a ≤ 1073741824) (hb0 : 0 ≤ b) (hb : b ≤ 1073741824) :
    Calls Tryd.prog 14 #[.int .i64 a, .int .i64 b] w fun e w' => e = .returned (.tuple #[.complex .f64 (floatOfInt .f64 a) (floatOfInt .f64 b), .int .i64 0]) ∧ w = w' := by
  have h3 : clampI a = a := by unfold clampI; (repeat' split) <;> omega
  have h4 : clampI b = b := by unfold clampI; (repeat' split) <;> omega
  have e3 : (a != a) = false := by simp
  have e4 : (b != b) = false := by simp
  go_enter Tryd.func14, Tryd.ntmps14
  go_wp2_with (go_at_call 13; refine (clamp_any _ _).mono ?_; rintro e w' ⟨rfl, rfl⟩)
  go_ret2
  exact ⟨rfl, rfl⟩

theorem f3bits : floatOfInt .f64 3 = 4613937818241073152 := by decide +kernel
theorem f4bits : floatOfInt .f64 4 = 4616189618054758400 := by decide +kernel
theorem sum25 : sumI 2 5 = 7 := by decide

set_option maxHeartbeats 400000 in
theorem awake_true (w : World) :
    Calls Tryd.prog 7 #[] w fun e w' => e = .returned (.bool true) ∧ w = w' := by
  have h3 := f3bits
  have h4 := f4bits
  have h7 := sum25
  go_enter Tryd.func7, Tryd.ntmps7
  go_wp2_with (first | (go_at_call 14; refine (Two_in 3 4 _ (by omega) (by omega) (by omega) (by omega)).mono ?_; rintro e w' ⟨rfl, rfl⟩) | (go_at_call 15; refine (Sum_any _ _ _).mono ?_; rintro e w' ⟨rfl, rfl⟩))
  go_ret
  exact ⟨rfl, rfl⟩

theorem sumI_comm (a b : Int) : sumI a b = sumI b a := by unfold sumI; rw [Int.add_comm]

end Go.Proofs.YtpclmpgemlcbpaaDoor
