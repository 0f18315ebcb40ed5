/- Whole numbers as floating-point numbers (float64): exact below 2^53. Plain arithmetic. -/
import Derived.WalkLawsBesides
import Ieee.Arith
namespace Go.Proofs.YtcociflljbaicaaDoor
open Ieee

theorem cut_even_zero (neg : Bool) (n : Nat) : Toward.even.cut neg n 0 = n := by
  unfold Toward.cut
  simp only [Nat.zero_min, Nat.shiftLeft_zero, Nat.div_one, Nat.mod_one]
  simp

/-- A cut that drops only noughts. -/
theorem cut_even_exact (neg : Bool) (n d : Nat) (hn : 0 < n) : Toward.even.cut neg (n * 2 ^ d) d = n := by
  unfold Toward.cut
  have hl : d ≤ (n * 2 ^ d).log2 := by
    rw [Nat.le_log2 (by have := Nat.two_pow_pos d; exact Nat.ne_of_gt (Nat.mul_pos hn this))]
    exact Nat.le_mul_of_pos_left _ hn
  have hm : min d ((n * 2 ^ d).log2 + 2) = d := by omega
  simp only [hm, Nat.one_shiftLeft, Nat.mul_div_cancel _ (Nat.two_pow_pos d), Nat.mul_mod_left]
  have := Nat.two_pow_pos d
  simp

theorem nearest_pos (n : Nat) (h0 : 0 < n) (h : n < 2 ^ 53) : double.nearest false n 0 = (n.log2 + 1022) * 2 ^ 52 + n * 2 ^ (52 - n.log2) := by
  have hl : n.log2 < 53 := (Nat.log2_lt (by omega)).2 h
  have hlast : max ((0 : Int) + n.log2 - (52 : Nat)) double.leastPlace = (n.log2 : Int) - 52 := by
    have : double.leastPlace = -1074 := by decide
    rw [this]; omega
  unfold Format.nearest
  rw [if_neg (by omega)]
  have e : (double.fractionBits : Int) = ((52 : Nat) : Int) := rfl
  simp only [e, hlast]
  have e1 : ((0 : Int) - ((n.log2 : Int) - 52)).toNat = 52 - n.log2 := by omega
  have e2 : ((n.log2 : Int) - 52 - 0).toNat = 0 := by omega
  have e3 : ((n.log2 : Int) - 52 - double.leastPlace).toNat = n.log2 + 1022 := by
    have : double.leastPlace = -1074 := by decide
    rw [this]; omega
  rw [e1, e2, e3, cut_even_zero, Nat.shiftLeft_eq]
  have hb : double.binade = 2 ^ 52 := rfl
  have hi : double.infRung = 2047 * 2 ^ 52 := rfl
  rw [hb, hi]
  have hk : n * 2 ^ (52 - n.log2) < 2 ^ 53 := by
    have h1 : n < 2 ^ (n.log2 + 1) := Nat.lt_log2_self
    calc n * 2 ^ (52 - n.log2) < 2 ^ (n.log2 + 1) * 2 ^ (52 - n.log2) := Nat.mul_lt_mul_of_pos_right h1 (Nat.two_pow_pos _)
      _ = 2 ^ 53 := by rw [← Nat.pow_add]; congr 1; omega
  have hm : min ((n.log2 + 1022) * 2 ^ 52 + n * 2 ^ (52 - n.log2)) (2047 * 2 ^ 52) = (n.log2 + 1022) * 2 ^ 52 + n * 2 ^ (52 - n.log2) := by
    apply Nat.min_eq_left
    generalize n * 2 ^ (52 - n.log2) = K at *
    generalize n.log2 = L at *
    simp only [show (2 : Nat) ^ 52 = 4503599627370496 from rfl, show (2 : Nat) ^ 53 = 9007199254740992 from rfl] at *
    omega
  rw [hm]
  simp [Format.word]

theorem read_nearest (n : Nat) (h0 : 0 < n) (h : n < 2 ^ 53) : double.read (double.nearest false n 0) = .number false (n * 2 ^ (52 - n.log2)) ((n.log2 : Int) - 52) := by
  rw [nearest_pos n h0 h]
  have hl : n.log2 < 53 := (Nat.log2_lt (by omega)).2 h
  have hlo : 2 ^ 52 ≤ n * 2 ^ (52 - n.log2) := by
    have h1 : 2 ^ n.log2 ≤ n := Nat.log2_self_le (by omega)
    calc 2 ^ 52 = 2 ^ n.log2 * 2 ^ (52 - n.log2) := by rw [← Nat.pow_add]; congr 1; omega
      _ ≤ n * 2 ^ (52 - n.log2) := Nat.mul_le_mul_right _ h1
  have hk : n * 2 ^ (52 - n.log2) < 2 ^ 53 := by
    have h1 : n < 2 ^ (n.log2 + 1) := Nat.lt_log2_self
    calc n * 2 ^ (52 - n.log2) < 2 ^ (n.log2 + 1) * 2 ^ (52 - n.log2) := Nat.mul_lt_mul_of_pos_right h1 (Nat.two_pow_pos _)
      _ = 2 ^ 53 := by rw [← Nat.pow_add]; congr 1; omega
  generalize n * 2 ^ (52 - n.log2) = K at *
  generalize n.log2 = L at *
  have hw : double.signWeight = 9223372036854775808 := by decide +kernel
  have hb : double.binade = 4503599627370496 := by decide +kernel
  have hi : double.infRung = 9218868437227405312 := by decide +kernel
  have hp : double.leastPlace = -1074 := by decide
  unfold Format.read
  rw [hw, hb, hi, hp]
  simp only [show (2 : Nat) ^ 52 = 4503599627370496 from rfl, show (2 : Nat) ^ 53 = 9007199254740992 from rfl] at *
  have e1 : ((L + 1022) * 4503599627370496 + K) % 9223372036854775808 = (L + 1022) * 4503599627370496 + K := Nat.mod_eq_of_lt (by omega)
  have e2 : ((L + 1022) * 4503599627370496 + K) / 9223372036854775808 = 0 := Nat.div_eq_of_lt (by omega)
  rw [e1, e2]
  rw [if_neg (by omega), if_pos (by omega)]
  have e3 : ((L + 1022) * 4503599627370496 + K) % 4503599627370496 = K - 4503599627370496 := by omega
  have e4 : ((L + 1022) * 4503599627370496 + K) / 4503599627370496 = L + 1023 := by omega
  rw [e3, e4, Datum.number.injEq]
  exact ⟨rfl, by omega, by omega⟩

/-- What a whole number's word stands for: m * 2 ^ s at the place -s, s at most 1074. -/
theorem read_whole (n : Nat) (h : n < 2 ^ 53) : ∃ m i, double.read (double.nearest false n 0) = .number false m i ∧ (0 < n → i ≤ 0 → m = n * 2 ^ (-i).toNat) ∧ (n = 0 → m = 0) ∧ i ≤ 0 ∧ -1074 ≤ i := by
  rcases Nat.eq_zero_or_pos n with rfl | h0
  · exact ⟨0, -1074, by decide +kernel, by omega, by omega, by omega, by omega⟩
  · have hl : n.log2 < 53 := (Nat.log2_lt (by omega)).2 h
    refine ⟨_, _, read_nearest n h0 h, fun _ _ => ?_, by omega, by omega, by omega⟩
    congr 2
    omega

theorem signed_base (n m : Nat) (i base : Int) (h1 : 0 < n → i ≤ 0 → m = n * 2 ^ (-i).toNat) (h2 : n = 0 → m = 0) (hi : i ≤ 0) (hb : base ≤ i) :
    signed false m (i - base).toNat = ((n * 2 ^ (-base).toNat : Nat) : Int) := by
  unfold signed
  rw [if_neg (by simp), Nat.shiftLeft_eq]
  rcases Nat.eq_zero_or_pos n with rfl | h0
  · rw [h2 rfl]; simp
  · rw [h1 h0 hi, Nat.mul_assoc, ← Nat.pow_add]
    congr 3
    omega

theorem nearest_shift (n s : Nat) (h : n < 2 ^ 53) : double.nearest false (n * 2 ^ s) (-(s : Int)) = double.nearest false n 0 := by
  rcases Nat.eq_zero_or_pos n with rfl | h0
  · simp [Format.nearest]
  · have hl : n.log2 < 53 := (Nat.log2_lt (by omega)).2 h
    have hp : double.leastPlace = -1074 := by decide
    have h2s := Nat.two_pow_pos s
    have hne : n * 2 ^ s ≠ 0 := Nat.ne_of_gt (Nat.mul_pos h0 h2s)
    have hlog : (n * 2 ^ s).log2 = n.log2 + s := by
      apply (Nat.log2_eq_iff hne).2
      constructor
      · rw [Nat.pow_add]; exact Nat.mul_le_mul_right _ (Nat.log2_self_le (by omega))
      · rw [show n.log2 + s + 1 = (n.log2 + 1) + s by omega, Nat.pow_add]; exact Nat.mul_lt_mul_of_pos_right Nat.lt_log2_self h2s
    unfold Format.nearest
    rw [if_neg hne, if_neg (by omega), hlog, hp]
    have e : (double.fractionBits : Int) = ((52 : Nat) : Int) := rfl
    have l1 : max (-(s : Int) + ((n.log2 + s : Nat) : Int) - double.fractionBits) (-1074) = (n.log2 : Int) - 52 := by rw [e]; omega
    have l2 : max ((0 : Int) + (n.log2 : Int) - double.fractionBits) (-1074) = (n.log2 : Int) - 52 := by rw [e]; omega
    simp only [l1, l2]
    have e2 : ((n.log2 : Int) - 52 - 0).toNat = 0 := by omega
    have e1 : ((0 : Int) - ((n.log2 : Int) - 52)).toNat = 52 - n.log2 := by omega
    rw [e2, e1, cut_even_zero]
    by_cases hc : s ≤ 52 - n.log2
    · have a1 : ((n.log2 : Int) - 52 - -(s : Int)).toNat = 0 := by omega
      have a2 : (-(s : Int) - ((n.log2 : Int) - 52)).toNat = 52 - n.log2 - s := by omega
      rw [a1, a2, cut_even_zero, Nat.shiftLeft_eq, Nat.shiftLeft_eq, Nat.mul_assoc, ← Nat.pow_add]
      congr 6
      omega
    · have a1 : ((n.log2 : Int) - 52 - -(s : Int)).toNat = s - (52 - n.log2) := by omega
      have a2 : (-(s : Int) - ((n.log2 : Int) - 52)).toNat = 0 := by omega
      rw [a1, a2, Nat.shiftLeft_zero, Nat.shiftLeft_eq]
      have : n * 2 ^ s = n * 2 ^ (52 - n.log2) * 2 ^ (s - (52 - n.log2)) := by
        rw [Nat.mul_assoc, ← Nat.pow_add]; congr 2; omega
      rw [this, cut_even_exact _ _ _ (Nat.mul_pos h0 (Nat.two_pow_pos _))]

/-! ### The operations -/
def fl (n : Nat) : Nat := double.nearest false n 0

theorem floatOfInt_fl (n : Nat) : floatOfInt .f64 (n : Int) = fl n := by
  have h : decide ((n : Int) < 0) = false := decide_eq_false (by omega)
  simp only [floatOfInt, FloatKind.nearest, FloatKind.encode, Format.write, h, Int.natAbs_natCast]
  rfl

theorem fl_order (m n : Nat) (hm : m < 2 ^ 53) (hn : n < 2 ^ 53) : double.order (fl m) (fl n) = some (compare m n) := by
  obtain ⟨a, i, ha, h1, h2, h3, h4⟩ := read_whole m hm
  obtain ⟨b, j, hb, g1, g2, g3, g4⟩ := read_whole n hn
  unfold fl Format.order
  rw [ha, hb]
  simp only [Datum.order]
  rw [signed_base m a i (min i j) h1 h2 h3 (by omega), signed_base n b j (min i j) g1 g2 g3 (by omega)]
  congr 1
  have := Nat.two_pow_pos (-min i j).toNat
  rcases Nat.lt_trichotomy m n with h | h | h
  · have h' := Nat.mul_lt_mul_of_pos_right h this
    rw [Nat.compare_eq_lt.2 h]
    exact Int.compare_eq_lt.2 (by omega)
  · subst h
    rw [Nat.compare_eq_eq.2 rfl]
    exact Int.compare_eq_eq.2 rfl
  · have h' := Nat.mul_lt_mul_of_pos_right h this
    rw [Nat.compare_eq_gt.2 h]
    exact Int.compare_eq_gt.2 (by omega)

theorem fl_add (m n : Nat) (hm : m + n < 2 ^ 53) : double.add (fl m) (fl n) = some (fl (m + n)) := by
  obtain ⟨a, i, ha, h1, h2, h3, h4⟩ := read_whole m (by omega)
  obtain ⟨b, j, hb, g1, g2, g3, g4⟩ := read_whole n (by omega)
  unfold fl Format.add
  rw [ha, hb]
  simp only [Datum.sum]
  rw [signed_base m a i (min i j) h1 h2 h3 (by omega), signed_base n b j (min i j) g1 g2 g3 (by omega)]
  have e : (((m * 2 ^ (-min i j).toNat : Nat) : Int) + ((n * 2 ^ (-min i j).toNat : Nat) : Int)) = (((m + n) * 2 ^ (-min i j).toNat : Nat) : Int) := by rw [Nat.add_mul]; omega
  rw [e]
  simp only [Option.map_some, Bool.and_self, Int.natAbs_natCast, Format.write]
  congr 1
  have hb : (if (((m + n) * 2 ^ (-min i j).toNat : Nat) : Int) = 0 then false else decide ((((m + n) * 2 ^ (-min i j).toNat : Nat) : Int) < 0)) = false := by
    split
    · rfl
    · exact decide_eq_false (Int.not_lt.2 (Int.natCast_nonneg _))
  rw [hb]
  have := nearest_shift (m + n) (-min i j).toNat hm
  rw [← this]
  congr 1
  omega

theorem fl_toInt (n : Nat) (h : n < 2 ^ 53) : (double.read (fl n)).toInt .zero = some (n : Int) := by
  rcases Nat.eq_zero_or_pos n with rfl | h0
  · decide +kernel
  · have hl : n.log2 < 53 := (Nat.log2_lt (by omega)).2 h
    unfold fl
    rw [read_nearest n h0 h]
    simp only [Datum.toInt, Datum.integral]
    have a1 : ((n.log2 : Int) - 52).toNat = 0 := by omega
    have a2 : (-((n.log2 : Int) - 52)).toNat = 52 - n.log2 := by omega
    rw [a1, a2, Nat.shiftLeft_zero]
    have hc : Toward.zero.cut false (n * 2 ^ (52 - n.log2)) (52 - n.log2) = n := by
      unfold Toward.cut
      have hl2 : 52 - n.log2 ≤ (n * 2 ^ (52 - n.log2)).log2 := by
        rw [Nat.le_log2 (Nat.ne_of_gt (Nat.mul_pos h0 (Nat.two_pow_pos _)))]
        exact Nat.le_mul_of_pos_left _ h0
      have hm : min (52 - n.log2) ((n * 2 ^ (52 - n.log2)).log2 + 2) = 52 - n.log2 := by omega
      simp only [hm, Nat.one_shiftLeft, Nat.mul_div_cancel _ (Nat.two_pow_pos _)]
      simp
    rw [hc]
    simp [signed]

theorem fl_toIntVal (n : Nat) (h : n < 2 ^ 53) : floatToIntVal .f64 (fl n) .i64 = some (n : Int) := by
  unfold floatToIntVal
  have e : (FloatKind.f64.decode (fl n)).toInt .zero = some (n : Int) := fl_toInt n h
  rw [e]
  have h1 : IntKind.i64.min = -9223372036854775808 := rfl
  have h2 : IntKind.i64.max = 9223372036854775807 := rfl
  simp only [h1, h2, show (2 : Nat) ^ 53 = 9007199254740992 from rfl] at *
  rw [if_pos ⟨by omega, by omega⟩]
end Go.Proofs.YtcociflljbaicaaDoor
