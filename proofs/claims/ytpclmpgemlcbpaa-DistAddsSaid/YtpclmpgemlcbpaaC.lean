/- Pairs of whole numbers as complex numbers: fits, pair, Parts, Before, Under at whole numbers up to 2^30. -/
import Derived.Test.YtpclmpgemlcbpaaA
import Derived.Test.YtpclmpgemlcbpaaF
namespace Go.Proofs.Ytpclmpgemlcbpaa
open Go.RowKit

/-- The word of a whole number, closed to the walk. -/
def flo (n : Nat) : Nat := fl n
theorem order_flo (m n : Nat) (hm : m ≤ 1073741824) (hn : n ≤ 1073741824) : FloatKind.f64.format.order (flo m) (flo n) = some (compare m n) :=
  fl_order m n (Nat.lt_of_le_of_lt hm (by decide)) (Nat.lt_of_le_of_lt hn (by decide))
theorem flo_zero : flo 0 = 0 := by decide +kernel
theorem flo_inf : flo 1073741824 = 4742290407621132288 := by decide +kernel
theorem conv_flo (m : Nat) (hm : m ≤ 1073741824) (w : World) : (convert 39 3 (.float .f64 (flo m))).run Try.prog w = .ok (.int .i64 (m : Int)) w :=
  run_convert_float_int w 39 3 .f64 .i64 (flo m) m (by kernel_rfl) Try.underlying3 (fl_toIntVal m (Nat.lt_of_le_of_lt hm (by decide)))
theorem back_flo (m : Nat) : floatOfInt .f64 (m : Int) = flo m := floatOfInt_fl m

theorem geq_zero (m : Nat) (hm : m ≤ 1073741824) : (FloatKind.f64.format.order (flo m) 0 == some .gt || FloatKind.f64.format.order (flo m) 0 == some .eq) = true := by
  have h := order_flo m 0 hm (by omega)
  rw [flo_zero] at h
  rw [h]
  rcases Nat.eq_zero_or_pos m with rfl | h0
  · decide
  · rw [Nat.compare_eq_gt.2 h0]; decide
theorem leq_inf (m : Nat) (hm : m ≤ 1073741824) : (FloatKind.f64.format.order (flo m) 4742290407621132288 == some .lt || FloatKind.f64.format.order (flo m) 4742290407621132288 == some .eq) = true := by
  have h := order_flo m 1073741824 hm (by omega)
  rw [flo_inf] at h
  rw [h]
  rcases Nat.lt_or_eq_of_le hm with h0 | rfl
  · rw [Nat.compare_eq_lt.2 h0]; decide
  · decide
theorem eq_self (m : Nat) (hm : m ≤ 1073741824) : (FloatKind.f64.format.order (flo m) (flo m) == some .eq) = true := by
  rw [order_flo m m hm hm, Nat.compare_eq_eq.2 rfl]; decide
theorem lss_flo (m n : Nat) (hm : m ≤ 1073741824) (hn : n ≤ 1073741824) : (FloatKind.f64.format.order (flo m) (flo n) == some .lt) = decide (m < n) := by
  rw [order_flo m n hm hn]
  rcases Nat.lt_trichotomy m n with h | h | h
  · rw [Nat.compare_eq_lt.2 h, decide_eq_true h]; decide
  · rw [Nat.compare_eq_eq.2 h, decide_eq_false (by omega)]; decide
  · rw [Nat.compare_eq_gt.2 h, decide_eq_false (by omega)]; decide
theorem eql_flo (m n : Nat) (hm : m ≤ 1073741824) (hn : n ≤ 1073741824) : (FloatKind.f64.format.order (flo m) (flo n) == some .eq) = decide (m = n) := by
  rw [order_flo m n hm hn]
  rcases Nat.lt_trichotomy m n with h | h | h
  · rw [Nat.compare_eq_lt.2 h, decide_eq_false (by omega)]; decide
  · rw [Nat.compare_eq_eq.2 h, decide_eq_true h]; decide
  · rw [Nat.compare_eq_gt.2 h, decide_eq_false (by omega)]; decide

set_option maxHeartbeats 400000 in
theorem fits_flo (m : Nat) (hm : m ≤ 1073741824) (w : World) :
    Calls Try.prog 20 #[.float .f64 (flo m)] w fun e w' => e = .returned (.bool true) ∧ w = w' := by
  have h1 := geq_zero m hm
  have h2 := leq_inf m hm
  have h3 := conv_flo m hm
  have h4 := back_flo m
  have h5 := eq_self m hm
  go_enter Try.func20, Try.ntmps20
  go_wp2
  go_ret
  exact ⟨rfl, rfl⟩

def cpx (m n : Nat) : Value := .complex .f64 (flo m) (flo n)

set_option maxHeartbeats 400000 in
theorem pair_flo (m n : Nat) (hm : m ≤ 1073741824) (hn : n ≤ 1073741824) (w : World) :
    Calls Try.prog 19 #[.complex .f64 (flo m) (flo n)] w fun e w' => e = .returned (.bool true) ∧ w = w' := by
  go_enter Try.func19, Try.ntmps19
  go_wp2_with (go_at_call 20; refine (fits_flo _ (by omega) _).mono ?_; rintro e w' ⟨rfl, rfl⟩)
  go_ret
  exact ⟨rfl, rfl⟩

set_option maxHeartbeats 400000 in
theorem Parts_flo (m n : Nat) (hm : m ≤ 1073741824) (hn : n ≤ 1073741824) (w : World) :
    Calls Try.prog 15 #[.complex .f64 (flo m) (flo n)] w fun e w' => e = .returned (.tuple #[.int .i64 m, .int .i64 n, .int .i64 0]) ∧ w = w' := by
  have h3 := conv_flo m hm
  have h4 := conv_flo n hn
  go_enter Try.func15, Try.ntmps15
  go_wp2_with (go_at_call 19; refine (pair_flo _ _ (by omega) (by omega) _).mono ?_; rintro e w' ⟨rfl, rfl⟩)
  go_ret3
  exact ⟨rfl, rfl⟩

def befB (m n p q : Nat) : Bool := decide (m < p) || (decide (m = p) && decide (n < q))

set_option maxHeartbeats 400000 in
theorem Before_flo (m n p q : Nat) (hm : m ≤ 1073741824) (hn : n ≤ 1073741824) (hp : p ≤ 1073741824) (hq : q ≤ 1073741824) (w : World) :
    Calls Try.prog 16 #[.complex .f64 (flo m) (flo n), .complex .f64 (flo p) (flo q)] w fun e w' => e = .returned (.bool (befB m n p q)) ∧ w = w' := by
  have h1 := lss_flo m p hm hp
  have h2 := eql_flo m p hm hp
  have h3 := lss_flo n q hn hq
  by_cases c1 : m < p
  · simp only [c1, decide_true] at h1
    go_enter Try.func16, Try.ntmps16
    go_wp2_with (go_at_call 19; refine (pair_flo _ _ (by omega) (by omega) _).mono ?_; rintro e w' ⟨rfl, rfl⟩)
    go_ret
    exact ⟨ret_bool (by simp [befB, c1]), rfl⟩
  · simp only [c1, decide_false] at h1
    by_cases c2 : m = p
    · subst c2
      simp only [decide_true] at h2
      go_enter Try.func16, Try.ntmps16
      go_wp2_with (go_at_call 19; refine (pair_flo _ _ (by omega) (by omega) _).mono ?_; rintro e w' ⟨rfl, rfl⟩)
      go_ret
      exact ⟨ret_bool (by simp [befB]), rfl⟩
    · simp only [c2, decide_false] at h2
      go_enter Try.func16, Try.ntmps16
      go_wp2_with (go_at_call 19; refine (pair_flo _ _ (by omega) (by omega) _).mono ?_; rintro e w' ⟨rfl, rfl⟩)
      go_ret
      exact ⟨ret_bool (by simp [befB, c1, c2]), rfl⟩

def undB (m n p q : Nat) : Bool := decide (m ≤ p) && (decide (n ≤ q) && !(decide (m = p) && decide (n = q)))

theorem leq_flo (m n : Nat) (hm : m ≤ 1073741824) (hn : n ≤ 1073741824) : (FloatKind.f64.format.order (flo m) (flo n) == some .lt || FloatKind.f64.format.order (flo m) (flo n) == some .eq) = decide (m ≤ n) := by
  rw [lss_flo m n hm hn, eql_flo m n hm hn, Bool.eq_iff_iff]
  simp only [Bool.or_eq_true, decide_eq_true_eq]
  omega

set_option maxHeartbeats 400000 in
theorem Under_flo (m n p q : Nat) (hm : m ≤ 1073741824) (hn : n ≤ 1073741824) (hp : p ≤ 1073741824) (hq : q ≤ 1073741824) (w : World) :
    Calls Try.prog 17 #[.complex .f64 (flo m) (flo n), .complex .f64 (flo p) (flo q)] w fun e w' => e = .returned (.bool (undB m n p q)) ∧ w = w' := by
  have h1 := leq_flo m p hm hp
  have h2 := leq_flo n q hn hq
  by_cases c1 : m ≤ p
  · simp only [c1, decide_true] at h1
    by_cases c2 : n ≤ q
    · simp only [c2, decide_true] at h2
      have h3 := eql_flo m p hm hp
      have h4 := eql_flo n q hn hq
      have E : Hid ((FloatKind.f64.format.order (flo m) (flo p) == some .eq) = decide (m = p) ∧ (FloatKind.f64.format.order (flo n) (flo q) == some .eq) = decide (n = q)) := ⟨h3, h4⟩
      clear h3 h4
      go_enter Try.func17, Try.ntmps17
      go_wp2_with (go_at_call 19; refine (pair_flo _ _ (by omega) (by omega) _).mono ?_; rintro e w' ⟨rfl, rfl⟩)
      go_ret
      exact ⟨ret_bool (by rw [E.out.1, E.out.2]; simp [undB, c1, c2]), rfl⟩
    · simp only [c2, decide_false] at h2
      go_enter Try.func17, Try.ntmps17
      go_wp2_with (go_at_call 19; refine (pair_flo _ _ (by omega) (by omega) _).mono ?_; rintro e w' ⟨rfl, rfl⟩)
      go_ret
      exact ⟨ret_bool (by simp [undB, c2]), rfl⟩
  · simp only [c1, decide_false] at h1
    go_enter Try.func17, Try.ntmps17
    go_wp2_with (go_at_call 19; refine (pair_flo _ _ (by omega) (by omega) _).mono ?_; rintro e w' ⟨rfl, rfl⟩)
    go_ret
    exact ⟨ret_bool (by simp [undB, c1]), rfl⟩

set_option maxHeartbeats 400000 in
theorem Two_flo (a b : Nat) (w : World) (ha : a ≤ 1073741824) (hb : b ≤ 1073741824) :
    Calls Try.prog 14 #[.int .i64 a, .int .i64 b] w fun e w' => e = .returned (.tuple #[.complex .f64 (flo a) (flo b), .int .i64 0]) ∧ w = w' := by
  refine (Two_in a b w (by omega) (by omega) (by omega) (by omega)).mono fun e w' ⟨h1, h2⟩ => ⟨?_, h2⟩
  rw [h1, back_flo, back_flo]

theorem add_flo (a b c d : Nat) (ha : a ≤ 1000000) (hb : b ≤ 1000000) (hc : c ≤ 1000000) (hd : d ≤ 1000000) (w : World) :
    (binOp .add 31 (.complex .f64 (flo a) (flo b)) (.complex .f64 (flo c) (flo d))).run Try.prog w = .ok (.complex .f64 (flo (a + c)) (flo (b + d))) w := by
  refine run_complex_sum w .add (.inl rfl) 31 .f64 _ _ _ _ _ _ ?_
  have e1 : floatBits .add .f64 (flo a) (flo c) = some (flo (a + c)) := fl_add a c (Nat.lt_of_le_of_lt (show a + c ≤ 2000000 by omega) (by decide))
  have e2 : floatBits .add .f64 (flo b) (flo d) = some (flo (b + d)) := fl_add b d (Nat.lt_of_le_of_lt (show b + d ≤ 2000000 by omega) (by decide))
  unfold cSumBits
  rw [e1, e2]
  rfl

theorem eqc_flo (a b c d : Nat) (ha : a ≤ 1073741824) (hb : b ≤ 1073741824) (hc : c ≤ 1073741824) (hd : d ≤ 1073741824) :
    ((FloatKind.f64.format.order (flo a) (flo c) == some .eq) && (FloatKind.f64.format.order (flo b) (flo d) == some .eq)) = decide (a = c ∧ b = d) := by
  rw [eql_flo a c ha hc, eql_flo b d hb hd, Bool.eq_iff_iff]
  simp

set_option maxHeartbeats 2000000 in
set_option maxRecDepth 100000 in
theorem DistAdds_core (a b c d x y : Nat) (B1 B2 E U : Bool) (ha : a ≤ 65535) (hb : b ≤ 65535) (hc : c ≤ 65535) (hd : d ≤ 65535) (hx : x ≤ 65535) (hy : y ≤ 65535) (w : World)
    (h1 : befB a b c d = B1) (h2 : befB c d a b = B2) (h3 : undB a b c d = U) (h4 : befB (a + x) (b + y) (c + x) (d + y) = B1) (h5 : undB (a + x) (b + y) (c + x) (d + y) = U)
    (h6 : ((FloatKind.f64.format.order (flo a) (flo c) == some .eq) && (FloatKind.f64.format.order (flo b) (flo d) == some .eq)) = E)
    (h : (B1 = true ∧ B2 = false ∧ E = false) ∨ (B1 = false ∧ B2 = true ∧ E = false ∧ U = false) ∨ (B1 = false ∧ B2 = false ∧ E = true ∧ U = false)) :
    Calls Try.prog 5 #[.int .u16 a, .int .u16 b, .int .u16 c, .int .u16 d, .int .u16 x, .int .u16 y] w fun e w' => e = .returned (.bool true) ∧ w = w' := by
  have s1 := add_flo a b x y (by omega) (by omega) (by omega) (by omega)
  have s2 := add_flo c d x y (by omega) (by omega) (by omega) (by omega)
  rcases h with ⟨rfl, rfl, rfl⟩ | ⟨rfl, rfl, rfl, rfl⟩ | ⟨rfl, rfl, rfl, rfl⟩
  · cases U
    all_goals
      go_enter Try.func5, Try.ntmps5
      go_wp2_with (first | (go_at_call 14; refine (Two_flo _ _ _ (by omega) (by omega)).mono ?_; rintro e w' ⟨rfl, rfl⟩) | (go_at_call 6; refine (awake_true _).mono ?_; rintro e w' ⟨rfl, rfl⟩)| (go_at_call 15; refine (Parts_flo _ _ (by omega) (by omega) _).mono ?_; rintro e w' ⟨rfl, rfl⟩)| (go_at_call 16; refine (Before_flo _ _ _ _ (by omega) (by omega) (by omega) (by omega) _).mono ?_; rintro e w' ⟨rfl, rfl⟩)| (go_at_call 17; refine (Under_flo _ _ _ _ (by omega) (by omega) (by omega) (by omega) _).mono ?_; rintro e w' ⟨rfl, rfl⟩))
      go_ret
      exact ⟨rfl, rfl⟩
  all_goals
    go_enter Try.func5, Try.ntmps5
    go_wp2_with (first | (go_at_call 14; refine (Two_flo _ _ _ (by omega) (by omega)).mono ?_; rintro e w' ⟨rfl, rfl⟩) | (go_at_call 6; refine (awake_true _).mono ?_; rintro e w' ⟨rfl, rfl⟩)| (go_at_call 15; refine (Parts_flo _ _ (by omega) (by omega) _).mono ?_; rintro e w' ⟨rfl, rfl⟩)| (go_at_call 16; refine (Before_flo _ _ _ _ (by omega) (by omega) (by omega) (by omega) _).mono ?_; rintro e w' ⟨rfl, rfl⟩)| (go_at_call 17; refine (Under_flo _ _ _ _ (by omega) (by omega) (by omega) (by omega) _).mono ?_; rintro e w' ⟨rfl, rfl⟩))
    go_ret
    exact ⟨rfl, rfl⟩

theorem DistAdds_walk (a b c d x y : Nat) (ha : a ≤ 65535) (hb : b ≤ 65535) (hc : c ≤ 65535) (hd : d ≤ 65535) (hx : x ≤ 65535) (hy : y ≤ 65535) (w : World) :
    Calls Try.prog 5 #[.int .u16 a, .int .u16 b, .int .u16 c, .int .u16 d, .int .u16 x, .int .u16 y] w fun e w' => e = .returned (.bool true) ∧ w = w' := by
  refine DistAdds_core a b c d x y (befB a b c d) (befB c d a b) (decide (a = c ∧ b = d)) (undB a b c d) ha hb hc hd hx hy w rfl rfl rfl ?_ ?_ (eqc_flo a b c d (by omega) (by omega) (by omega) (by omega)) ?_
  · unfold befB; simp
  · unfold undB; simp
  · unfold befB undB
    by_cases e1 : a < c
    · left; have : ¬ c < a := by omega
      have h2 : ¬ c = a := by omega
      have h3 : ¬ a = c := by omega
      simp [e1, this, h2, h3]
    · by_cases e2 : c < a
      · right; left
        have h2 : ¬ a ≤ c := by omega
        have h3 : ¬ a = c := by omega
        simp [e1, e2, h2, h3]
      · have : a = c := by omega
        subst this
        by_cases e3 : b < d
        · left; have h2 : ¬ d < b := by omega
          have h3 : ¬ b = d := by omega
          simp [e3, h2, h3]
        · by_cases e4 : d < b
          · right; left
            have h2 : ¬ b ≤ d := by omega
            have h3 : ¬ b = d := by omega
            simp [e3, e4, h2, h3]
          · have : b = d := by omega
            subst this
            right; right; simp
end Go.Proofs.Ytpclmpgemlcbpaa
