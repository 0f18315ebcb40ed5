/- Whole numbers as floating-point numbers (float64), with a sign, and great ones. Plain arithmetic. -/
import Derived.Test.YtcociflljbaicaaDoorF
namespace Go.Proofs.YtcociflljbaicaaDoor
open Ieee

theorem sw_eq : double.signWeight = 9223372036854775808 := by decide
theorem nearest_neg (n : Nat) : double.nearest true n 0 = 9223372036854775808 + double.nearest false n 0 := by
  have hc : ∀ m d, Toward.even.cut true m d = Toward.even.cut false m d := fun _ _ => rfl
  unfold Format.nearest
  split
  · simp [Format.word, sw_eq]
  · simp [Format.word, sw_eq, hc]
theorem nearest_lt (n : Nat) : double.nearest false n 0 < 9223372036854775808 := by
  have hi : double.infRung = 9218868437227405312 := by decide
  unfold Format.nearest
  split
  · simp [Format.word]
  · simp only [Format.word, hi, Bool.false_eq_true, if_false]
    omega
theorem read_flip (x : Nat) (h : x < 9223372036854775808) : double.read (9223372036854775808 + x) = (double.read x).opposite := by
  unfold Format.read
  rw [sw_eq]
  have e1 : (9223372036854775808 + x) / 9223372036854775808 % 2 = 1 := by omega
  have e2 : (9223372036854775808 + x) % 9223372036854775808 = x := by omega
  have e3 : x / 9223372036854775808 % 2 = 0 := by omega
  have e4 : x % 9223372036854775808 = x := by omega
  simp only [e1, e2, e3, e4]
  split
  · rfl
  · split
    · rfl
    · split <;> rfl
theorem rung_min (L k : Nat) (h : L < 64) (hk : k ≤ 9007199254740992) : min ((L + 1022) * 4503599627370496 + k) 9218868437227405312 = (L + 1022) * 4503599627370496 + k :=
  Nat.min_eq_left (by omega)
theorem read_rung (L k : Nat) (h : L < 64) (h1 : 53 ≤ L) (k1 : 4503599627370496 ≤ k) (k2 : k ≤ 9007199254740992) : ∃ m i, double.read ((L + 1022) * 4503599627370496 + k) = .number false m i ∧ 4503599627370496 ≤ m ∧ 0 ≤ i := by
  have c4 : double.binade = 4503599627370496 := by decide
  have c5 : double.infRung = 9218868437227405312 := by decide
  have c3 : double.leastPlace = -1074 := by decide
  obtain ⟨R, hR⟩ : ∃ R, R = (L + 1022) * 4503599627370496 + k := ⟨_, rfl⟩
  have r1 : R < 9218868437227405312 := by omega
  have r2 : 4503599627370496 ≤ R := by omega
  have r3 : 1076 ≤ R / 4503599627370496 := by omega
  rw [← hR]
  unfold Format.read
  rw [sw_eq, c4, c5, c3]
  have d1 : R / 9223372036854775808 % 2 = 0 := by omega
  have d2 : R % 9223372036854775808 = R := by omega
  simp only [d1, d2]
  rw [if_neg (by omega), if_pos r1]
  exact ⟨_, _, rfl, Nat.le_add_right _ _, by omega⟩
theorem read_great (n : Nat) (h1 : 2 ^ 53 ≤ n) (h2 : n < 2 ^ 64) : ∃ m i, double.read (double.nearest false n 0) = .number false m i ∧ 4503599627370496 ≤ m ∧ 0 ≤ i := by
  have hn0 : n ≠ 0 := by have : 0 < 2 ^ 53 := Nat.two_pow_pos _; omega
  have hl1 : 53 ≤ n.log2 := (Nat.le_log2 hn0).2 h1
  have hl2 : n.log2 < 64 := (Nat.log2_lt (by omega)).2 h2
  have hlast : max ((0 : Int) + n.log2 - double.fractionBits) double.leastPlace = (n.log2 : Int) - 52 := by
    have : double.leastPlace = -1074 := by decide
    have e : (double.fractionBits : Int) = ((52 : Nat) : Int) := rfl
    rw [this, e]; omega
  have hcut : ∃ k, Toward.even.cut false n (n.log2 - 52) = k ∧ 4503599627370496 ≤ k ∧ k ≤ 9007199254740992 := by
    refine ⟨_, rfl, ?_⟩
    unfold Toward.cut
    have hm : min (n.log2 - 52) (n.log2 + 2) = n.log2 - 52 := by omega
    simp only [hm, Nat.one_shiftLeft]
    have hp := Nat.two_pow_pos (n.log2 - 52)
    have a1 : 4503599627370496 ≤ n / 2 ^ (n.log2 - 52) := by
      rw [Nat.le_div_iff_mul_le hp, show (4503599627370496 : Nat) = 2 ^ 52 from rfl, ← Nat.pow_add]
      rw [show 52 + (n.log2 - 52) = n.log2 by omega]
      exact Nat.log2_self_le hn0
    have a2 : n / 2 ^ (n.log2 - 52) < 9007199254740992 := by
      rw [Nat.div_lt_iff_lt_mul hp, show (9007199254740992 : Nat) = 2 ^ 53 from rfl, ← Nat.pow_add]
      rw [show 53 + (n.log2 - 52) = n.log2 + 1 by omega]
      exact Nat.lt_log2_self
    have a3 : ∀ b : Bool, b.toNat ≤ 1 := fun b => by cases b <;> decide
    have := a3 (decide (2 ^ (n.log2 - 52) < 2 * (n % 2 ^ (n.log2 - 52))) || 2 ^ (n.log2 - 52) == 2 * (n % 2 ^ (n.log2 - 52)) && n / 2 ^ (n.log2 - 52) % 2 == 1)
    omega
  obtain ⟨k, hk, k1, k2⟩ := hcut
  have hw : double.nearest false n 0 = (n.log2 + 1022) * 4503599627370496 + k := by
    unfold Format.nearest
    rw [if_neg (by omega)]
    simp only [hlast]
    have b1 : ((0 : Int) - ((n.log2 : Int) - 52)).toNat = 0 := by omega
    have b2 : ((n.log2 : Int) - 52 - 0).toNat = n.log2 - 52 := by omega
    have b3 : double.leastPlace = -1074 := by decide
    have b4 : double.binade = 4503599627370496 := by decide
    have b5 : double.infRung = 9218868437227405312 := by decide
    have b6 : ((n.log2 : Int) - 52 - -1074).toNat = n.log2 + 1022 := by omega
    rw [b1, b2, Nat.shiftLeft_zero, hk, b3, b4, b5, b6]
    simp only [Format.word, Bool.false_eq_true, if_false]
    exact rung_min _ _ hl2 k2
  rw [hw]
  exact read_rung _ _ hl2 hl1 k1 k2
/-- A whole number as a float64's word. -/
def fi (n : Int) : Nat := floatOfInt .f64 n
theorem fi_pos (n : Nat) : fi n = fl n := floatOfInt_fl n
theorem fi_neg (n : Nat) (h : 0 < n) : fi (-(n : Int)) = 9223372036854775808 + fl n := by
  have h : decide (-(n : Int) < 0) = true := decide_eq_true (by omega)
  unfold fi fl
  rw [← nearest_neg]
  simp only [floatOfInt, FloatKind.nearest, FloatKind.encode, Format.write, h, Int.natAbs_neg, Int.natAbs_natCast]
  rfl
theorem read_fi (n : Int) (h0 : -9007199254740992 < n) (h1 : n < 9007199254740992) : ∃ m i, double.read (fi n) = .number (decide (n < 0)) m i ∧ i ≤ 0 ∧ -1074 ≤ i ∧ ∀ base, base ≤ i → signed (decide (n < 0)) m (i - base).toNat = n * ((2 ^ (-base).toNat : Nat) : Int) := by
  by_cases hn : n < 0
  · obtain ⟨k, rfl⟩ : ∃ k : Nat, n = -(k : Int) := ⟨n.natAbs, by omega⟩
    obtain ⟨m, i, hr, g1, g2, g3, g4⟩ := read_whole k (by omega)
    refine ⟨m, i, ?_, g3, g4, fun base hb => ?_⟩
    · rw [fi_neg k (by omega)]
      unfold fl
      rw [read_flip _ (nearest_lt k), hr, decide_eq_true hn]
      rfl
    · have := signed_base k m i base g1 g2 g3 hb
      unfold signed at this ⊢
      rw [decide_eq_true hn]
      simp only [Bool.false_eq_true, if_false, if_true] at this ⊢
      rw [this, Int.natCast_mul, Int.neg_mul]
  · obtain ⟨k, rfl⟩ : ∃ k : Nat, n = (k : Int) := ⟨n.natAbs, by omega⟩
    obtain ⟨m, i, hr, g1, g2, g3, g4⟩ := read_whole k (by omega)
    refine ⟨m, i, ?_, g3, g4, fun base hb => ?_⟩
    · rw [fi_pos k, decide_eq_false hn]
      exact hr
    · rw [decide_eq_false hn, signed_base k m i base g1 g2 g3 hb, Int.natCast_mul]
theorem cmp_scale (m n : Int) (p : Nat) (hp : 0 < p) : compare (m * (p : Int)) (n * (p : Int)) = compare m n := by
  have hp' : (0 : Int) < p := by omega
  rcases Int.lt_trichotomy m n with h | h | h
  · rw [Int.compare_eq_lt.2 h, Int.compare_eq_lt.2 (Int.mul_lt_mul_of_pos_right h hp')]
  · rw [h, Int.compare_eq_eq.2 rfl, Int.compare_eq_eq.2 rfl]
  · rw [Int.compare_eq_gt.2 h, Int.compare_eq_gt.2 (Int.mul_lt_mul_of_pos_right h hp')]
theorem fi_order (m n : Int) (h0 : -9007199254740992 < m) (h1 : m < 9007199254740992) (h2 : -9007199254740992 < n) (h3 : n < 9007199254740992) :
    double.order (fi m) (fi n) = some (compare m n) := by
  obtain ⟨a, i, ha, a1, a2, a3⟩ := read_fi m h0 h1
  obtain ⟨b, j, hb, b1, b2, b3⟩ := read_fi n h2 h3
  unfold Format.order
  rw [ha, hb]
  simp only [Datum.order]
  rw [a3 (min i j) (by omega), b3 (min i j) (by omega), cmp_scale _ _ _ (Nat.two_pow_pos _)]
theorem big_part (m s : Nat) (h : 4503599627370496 ≤ m) (hs : 32 ≤ s) : 19342813113834066795298816 ≤ m * 2 ^ s := by
  calc 19342813113834066795298816 = 4503599627370496 * 2 ^ 32 := by decide
    _ ≤ m * 2 ^ 32 := Nat.mul_le_mul_right _ h
    _ ≤ m * 2 ^ s := Nat.mul_le_mul_left _ (Nat.pow_le_pow_right (by decide) hs)
/-- The bound of a place's part. -/
def fM : Nat := fi 1048576
def fm : Nat := fi (-1048576)
theorem read_fM : double.read fM = .number false 4503599627370496 (-32) := by decide +kernel
theorem read_fm : double.read fm = .number true 4503599627370496 (-32) := by decide +kernel
theorem signed_great (neg : Bool) (m : Nat) (i : Int) (hm : 4503599627370496 ≤ m) (hi : 0 ≤ i) : ∃ v : Nat, 19342813113834066795298816 ≤ v ∧ signed neg m (i - min i (-32)).toNat = if neg then -(v : Int) else v := by
  have e : min i (-32) = -32 := by omega
  refine ⟨m * 2 ^ (i - min i (-32)).toNat, big_part m _ hm (by omega), ?_⟩
  unfold signed
  cases neg <;> simp [Nat.shiftLeft_eq]
theorem fi_great (n : Int) (h0 : 9007199254740992 ≤ n) (h1 : n < 9223372036854775808) : double.order (fi n) fM = some .gt ∧ double.order (fi n) fm = some .gt := by
  obtain ⟨k, rfl⟩ : ∃ k : Nat, n = (k : Int) := ⟨n.natAbs, by omega⟩
  obtain ⟨m, i, hr, hm, hi⟩ := read_great k (by omega) (by omega)
  obtain ⟨v, hv, hs⟩ := signed_great false m i hm hi
  have e : min i (-32) = -32 := by omega
  have hr' : double.read (fi k) = .number false m i := by rw [fi_pos]; exact hr
  unfold Format.order
  rw [hr', read_fM, read_fm]
  simp only [Datum.order]
  rw [hs, e]
  have u1 : signed false 4503599627370496 ((-32 : Int) - -32).toNat = 4503599627370496 := by decide
  have u2 : signed true 4503599627370496 ((-32 : Int) - -32).toNat = -4503599627370496 := by decide
  rw [u1, u2]
  simp only [Bool.false_eq_true, if_false]
  exact ⟨congrArg some (Int.compare_eq_gt.2 (by omega)), congrArg some (Int.compare_eq_gt.2 (by omega))⟩
theorem fi_least (n : Int) (h0 : n ≤ -9007199254740992) (h1 : -9223372036854775808 ≤ n) : double.order (fi n) fM = some .lt ∧ double.order (fi n) fm = some .lt := by
  obtain ⟨k, rfl⟩ : ∃ k : Nat, n = -(k : Int) := ⟨n.natAbs, by omega⟩
  obtain ⟨m, i, hr, hm, hi⟩ := read_great k (by omega) (by omega)
  obtain ⟨v, hv, hs⟩ := signed_great true m i hm hi
  have e : min i (-32) = -32 := by omega
  have hr' : double.read (fi (-(k : Int))) = .number true m i := by
    rw [fi_neg k (by omega)]
    unfold fl
    rw [read_flip _ (nearest_lt k), hr]
    rfl
  unfold Format.order
  rw [hr', read_fM, read_fm]
  simp only [Datum.order]
  rw [hs, e]
  have u1 : signed false 4503599627370496 ((-32 : Int) - -32).toNat = 4503599627370496 := by decide
  have u2 : signed true 4503599627370496 ((-32 : Int) - -32).toNat = -4503599627370496 := by decide
  rw [u1, u2]
  simp only [if_true]
  exact ⟨congrArg some (Int.compare_eq_lt.2 (by omega)), congrArg some (Int.compare_eq_lt.2 (by omega))⟩
/-- How any whole number stands to the two bounds. -/
theorem fi_bound (n : Int) (h0 : -9223372036854775808 ≤ n) (h1 : n < 9223372036854775808) : double.order (fi n) fM = some (compare n 1048576) ∧ double.order (fi n) fm = some (compare n (-1048576)) := by
  by_cases a : 9007199254740992 ≤ n
  · rw [(fi_great n a h1).1, (fi_great n a h1).2, Int.compare_eq_gt.2 (by omega), Int.compare_eq_gt.2 (by omega)]
    exact ⟨rfl, rfl⟩
  · by_cases b : n ≤ -9007199254740992
    · rw [(fi_least n b h0).1, (fi_least n b h0).2, Int.compare_eq_lt.2 (by omega), Int.compare_eq_lt.2 (by omega)]
      exact ⟨rfl, rfl⟩
    · exact ⟨fi_order n 1048576 (by omega) (by omega) (by omega) (by omega), fi_order n (-1048576) (by omega) (by omega) (by omega) (by omega)⟩
theorem fi_toInt (n : Int) (h0 : -9007199254740992 < n) (h1 : n < 9007199254740992) : floatToIntVal .f64 (fi n) .i64 = some n := by
  by_cases hn : n < 0
  · obtain ⟨k, rfl⟩ : ∃ k : Nat, n = -(k : Int) := ⟨n.natAbs, by omega⟩
    have h := fl_toInt k (by omega)
    have hx : (double.read (fi (-(k : Int)))).toInt .zero = some (-(k : Int)) := by
      rw [fi_neg k (by omega)]
      unfold fl at h ⊢
      rw [read_flip _ (nearest_lt k)]
      revert h
      cases double.read (double.nearest false k 0) with
      | number s m i => 
        intro h
        have hc : ∀ a b c d, Toward.zero.cut a c d = Toward.zero.cut b c d := fun _ _ _ _ => rfl
        simp only [Datum.opposite, Datum.toInt, Datum.integral, Option.some.injEq] at h ⊢
        rw [hc (!s) s]
        unfold signed at h ⊢
        cases s <;> simp at h ⊢ <;> omega
      | infinity s => intro h; simp [Datum.toInt, Datum.integral] at h
      | nan s f => intro h; simp [Datum.toInt, Datum.integral] at h
    unfold floatToIntVal
    have e : (FloatKind.f64.decode (fi (-(k : Int)))).toInt .zero = some (-(k : Int)) := hx
    rw [e]
    have h1 : IntKind.i64.min = -9223372036854775808 := rfl
    have h2 : IntKind.i64.max = 9223372036854775807 := rfl
    simp only [h1, h2]
    rw [if_pos ⟨by omega, by omega⟩]
  · obtain ⟨k, rfl⟩ : ∃ k : Nat, n = (k : Int) := ⟨n.natAbs, by omega⟩
    rw [fi_pos]
    exact fl_toIntVal k (by omega)
end Go.Proofs.YtcociflljbaicaaDoor
