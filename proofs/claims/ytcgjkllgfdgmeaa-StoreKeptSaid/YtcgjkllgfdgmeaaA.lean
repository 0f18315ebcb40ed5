/- Graphs of nodes alone: the small functions. -/
import Derived.Test.YtcgjkllgfdgmeaaL
import Derived.Test.YtcgjkllgfdgmeaaQ
import Derived.Test.YtcgjkllgfdgmeaaProg
import Derived.WalkLawsBesides
import Derived.BigQuiet
namespace Go.Proofs.Ytcgjkllgfdgmeaa
open Go.RowKit

theorem in_any (n : Int) (w : World) : Calls Try.prog 14 #[.int .i64 n] w fun e w' => e = .returned (.bool (decide (0 ≤ n) && decide (n ≤ 127))) ∧ w = w' := by
  go_enter Try.func14, Try.ntmps14
  by_cases h : 0 ≤ n
  all_goals
    go_wp2
    go_ret
    exact ⟨ret_bool (by first | (simp [h]; done) | (simp; omega)), rfl⟩
/-- The word of the number nought, closed to the walk. -/
def fz : Nat := 0
theorem geq_fz : (FloatKind.f64.format.order fz 13920626448202203136 == some .gt || FloatKind.f64.format.order fz 13920626448202203136 == some .eq) = true := by decide +kernel
theorem leq_fz : (FloatKind.f64.format.order fz 4697254411347427328 == some .lt || FloatKind.f64.format.order fz 4697254411347427328 == some .eq) = true := by decide +kernel
theorem conv_fz (w : World) : (convert 79 3 (.float .f64 fz)).run Try.prog w = .ok (.int .i64 0) w :=
  run_convert_float_int w 79 3 .f64 .i64 fz 0 (by kernel_rfl) Try.underlying3 (by decide +kernel)
theorem back_fz : floatOfInt .f64 0 = fz := by decide +kernel
theorem self_fz : (FloatKind.f64.format.order fz fz == some .eq) = true := by decide +kernel
theorem whole_fz (w : World) : Calls Try.prog 34 #[.float .f64 fz] w fun e w' => e = .returned (.bool true) ∧ w = w' := by
  have h1 := geq_fz
  have h2 := leq_fz
  have h3 := conv_fz
  have h4 := back_fz
  have h5 := self_fz
  go_enter Try.func34, Try.ntmps34
  go_wp2
  go_ret
  exact ⟨rfl, rfl⟩
theorem Ok_fz (w : World) : Calls Try.prog 15 #[.complex .f64 fz fz] w fun e w' => e = .returned (.bool true) ∧ w = w' := by
  go_enter Try.func15, Try.ntmps15
  go_wp2_with (go_at_call 34; refine (whole_fz _).mono ?_; rintro e w' ⟨rfl, rfl⟩)
  go_ret
  exact ⟨rfl, rfl⟩
theorem Ok_zero (w : World) : Calls Try.prog 15 #[.complex .f64 0 0] w fun e w' => e = .returned (.bool true) ∧ w = w' := Ok_fz w
theorem add_fz : floatBits .add .f64 fz 0 = some fz := by decide +kernel
theorem add_fz_run (w : World) : (binOp .add 79 (.float .f64 fz) (.float .f64 0)).run Try.prog w = .ok (.float .f64 fz) w := by
  kernel_rfl
theorem plain_fz (w : World) : Calls Try.prog 22 #[.complex .f64 fz fz] w fun e w' => e = .returned (.complex .f64 fz fz) ∧ w = w' := by
  have h1 := add_fz_run
  go_enter Try.func22, Try.ntmps22
  go_wp2
  go_ret
  exact ⟨rfl, rfl⟩
theorem plain_zero (w : World) : Calls Try.prog 22 #[.complex .f64 0 0] w fun e w' => e = .returned (.complex .f64 0 0) ∧ w = w' := plain_fz w
theorem isNaN_any (n : Int) (w : World) : Calls Try.prog 51 #[.int .i64 n] w fun e w' => e = .returned (.bool false) ∧ w = w' := by
  have h : (n != n) = false := by simp
  go_enter Try.func51, Try.ntmps51
  go_wp2
  go_ret
  exact ⟨rfl, rfl⟩
def cmpI (a b : Int) : Int := if a < b then -1 else if b < a then 1 else 0
theorem Compare_any (a b : Int) (w : World) : Calls Try.prog 36 #[.int .i64 a, .int .i64 b] w fun e w' => e = .returned (.int .i64 (cmpI a b)) ∧ w = w' := by
  go_enter Try.func36, Try.ntmps36
  go_wp2_with (go_at_call 51; refine (isNaN_any _ _).mono ?_; rintro e w' ⟨rfl, rfl⟩)
  all_goals
    go_ret
    exact ⟨ret_int (by unfold cmpI; repeat' split <;> omega), rfl⟩
end Go.Proofs.Ytcgjkllgfdgmeaa
