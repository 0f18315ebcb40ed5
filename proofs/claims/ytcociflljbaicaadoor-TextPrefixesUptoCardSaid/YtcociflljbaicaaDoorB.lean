/- Prefixes in plain numbers: what is sound, by the program and by the reference. -/
import Derived.Test.YtcociflljbaicaaDoorM
import Derived.Laws.BitsLemmas
namespace Go.Proofs.YtcociflljbaicaaDoor
open Go.RowKit (wrap64)
open Go.Lib Go.Proofs.YtcociflljbaicaaDoor.PTextPrefixes Go.Proofs.YtcociflljbaicaaDoorW.PrintWords Go.Proofs.YtcociflljbaicaaDoorW.PrintMore

/-- A sound prefix: no bit behind its length. -/
def snd (a : Nat) (n : Int) : Bool := decide (0 ≤ n) && decide (n ≤ 32) && decide (a % 2 ^ (32 - n.toNat) = 0)
theorem mul_mod32 (a i : Nat) (h : i ≤ 32) : a * 2 ^ i % 4294967296 = 2 ^ i * (a % 2 ^ (32 - i)) := by
  have e : 4294967296 = 2 ^ i * 2 ^ (32 - i) := by rw [← Nat.pow_add, show i + (32 - i) = 32 by omega]
  rw [e, Nat.mul_comm a, Nat.mul_mod_mul_left]
theorem u64_wraps (n : Int) (h0 : 0 ≤ n) (h1 : n < 2 ^ 64) : IntKind.u64.wrap n = n := by
  simp only [IntKind.wrap, IntKind.signed, IntKind.bits]
  simp
  omega
theorem sound_plain (a : Nat) (ha : a < 4294967296) (n : Int) : text_sound.f (a : Int) n = some (snd a n) := by
  unfold text_sound.f snd
  by_cases h0 : 0 ≤ n
  · by_cases h1 : n ≤ 32
    · rw [if_pos h0, if_pos h1, if_pos h0]
      obtain ⟨i, rfl⟩ := Int.eq_ofNat_of_zero_le h0
      have hi : i ≤ 32 := by omega
      have hle : a * 2 ^ i < 18446744073709551616 := by
        have h2 : 2 ^ i ≤ 2 ^ 32 := Nat.pow_le_pow_right (by decide) hi
        calc a * 2 ^ i ≤ a * 2 ^ 32 := Nat.mul_le_mul_left _ h2
          _ < 4294967296 * 2 ^ 32 := Nat.mul_lt_mul_of_pos_right ha (by decide)
          _ = 18446744073709551616 := by decide
      have e1 : IntKind.u64.wrap (a : Int) = a := u64_wraps _ (by omega) (by omega)
      have e2 : shl .u64 (a : Int) (i : Int) = ((a * 2 ^ i : Nat) : Int) := by
        unfold shl
        rw [show min (i : Int).toNat IntKind.u64.bits = i by simp [IntKind.bits]; omega]
        rw [show ((a : Int) * 2 ^ i) = ((a * 2 ^ i : Nat) : Int) by simp]
        exact u64_wraps _ (by omega) (by omega)
      have e3 := bits_mask .u64 64 (by decide) u64_wraps 32 (by decide) ((a * 2 ^ i : Nat) : Int) (by omega) (by omega)
      rw [e1, e2]
      rw [show ((2 : Int) ^ 32 - 1) = 4294967295 by decide] at e3
      rw [e3]
      have e4 := mul_mod32 a i hi
      have e5 : (((a * 2 ^ i : Nat) : Int) % 2 ^ 32) = ((a * 2 ^ i % 4294967296 : Nat) : Int) := by simp
      rw [e5, e4]
      congr 1
      have hp : 0 < 2 ^ i := Nat.two_pow_pos i
      rw [Bool.eq_iff_iff]
      simp only [beq_iff_eq, Bool.and_eq_true, decide_eq_true_eq, Int.toNat_natCast]
      constructor
      · intro h
        have h' : 2 ^ i * (a % 2 ^ (32 - i)) = 0 := by exact_mod_cast h
        exact ⟨⟨h0, h1⟩, by rcases Nat.mul_eq_zero.1 h' with h | h <;> omega⟩
      · intro h
        rw [h.2]
        simp
    · rw [if_pos h0, if_neg h1]
      simp [h1]
  · rw [if_neg h0]
    simp [h0]
theorem ok_loop (a : Nat) (ha : a < 4294967296) (n : Int) : ∀ (d i : Nat), i + d = 32 → causewayref06_PrefixOk.l0 (d + 1) (i : Int) (a : Int) n = some (decide (a % 2 ^ (32 - i) = 0))
  | 0, i, h => by
    obtain rfl : i = 32 := by omega
    simp [causewayref06_PrefixOk.l0, Nat.mod_one]
  | d + 1, i, h => by
    have ih := ok_loop a ha n d (i + 1) (by omega)
    rw [causewayref06_PrefixOk.l0]
    have w1 : wrap64 (31 - (i : Int)) = ((31 - i : Nat) : Int) := by
      rw [show (31 - (i : Int)) = ((31 - i : Nat) : Int) by omega]
      unfold wrap64
      omega
    have w2 : wrap64 ((i : Int) + 1) = ((i + 1 : Nat) : Int) := by
      unfold wrap64
      omega
    rw [if_pos (by omega), w1, w2, if_pos (by omega)]
    have e : shr .u32 (a : Int) ((31 - i : Nat) : Int) = ((a / 2 ^ (31 - i) : Nat) : Int) := by
      unfold shr
      rw [show min ((31 - i : Nat) : Int).toNat IntKind.u32.bits = 31 - i by simp [IntKind.bits]; omega]
      simp
    rw [e, show Int.tmod ((a / 2 ^ (31 - i) : Nat) : Int) 2 = ((a / 2 ^ (31 - i) % 2 : Nat) : Int) from rfl]
    have e3 : 32 - i = (31 - i) + 1 := by omega
    have e4 : 32 - (i + 1) = 31 - i := by omega
    have e5 : a % 2 ^ (32 - i) = a % 2 ^ (31 - i) + 2 ^ (31 - i) * (a / 2 ^ (31 - i) % 2) := by
      rw [e3, Nat.mod_pow_succ]
    have hp : 0 < 2 ^ (31 - i) := Nat.two_pow_pos _
    by_cases hb : a / 2 ^ (31 - i) % 2 = 1
    · rw [if_pos (by rw [hb]; rfl)]
      rw [hb, Nat.mul_one] at e5
      rw [decide_eq_false (by omega)]
    · have hb0 : a / 2 ^ (31 - i) % 2 = 0 := by omega
      rw [if_neg (by rw [hb0]; decide), ih, e4, e5, hb0]
      simp
theorem prefixOk_plain (a : Nat) (ha : a < 4294967296) (n : Int) : causewayref06_PrefixOk.f 40 (a : Int) n = some (snd a n) := by
  unfold causewayref06_PrefixOk.f snd
  by_cases h0 : n < 0
  · rw [if_pos h0, causewayref06_PrefixOk.j0, if_pos rfl]
    simp
    omega
  · rw [if_neg h0, causewayref06_PrefixOk.j0]
    by_cases h1 : n > 32
    · rw [decide_eq_true h1, if_pos rfl]
      simp
      omega
    · rw [decide_eq_false h1, if_neg (by decide)]
      obtain ⟨i, rfl⟩ := Int.eq_ofNat_of_zero_le (show 0 ≤ n by omega)
      have := ok_loop a ha i (32 - i) i (by omega)
      have hm : ∀ k j r, causewayref06_PrefixOk.l0 k (i : Int) (a : Int) (i : Int) = some r → causewayref06_PrefixOk.l0 (k + j) (i : Int) (a : Int) (i : Int) = some r := by
        intro k j r h
        induction j with
        | zero => exact h
        | succ j ih => exact (causewayref06_PrefixOk.mono_l (k + j)).2 _ _ _ _ ih
      have h2 := hm _ (39 - (32 - i + 1)) _ this
      rw [show 32 - i + 1 + (39 - (32 - i + 1)) = 39 by omega] at h2
      rw [h2]
      have c1 : decide ((0 : Int) ≤ (i : Int)) = true := decide_eq_true (by omega)
      have c2 : decide ((i : Int) ≤ 32) = true := decide_eq_true (by omega)
      rw [c1, c2]
      simp
end Go.Proofs.YtcociflljbaicaaDoor
