/- The bits of a word, rising: plain. -/
import Derived.Test.YthhinchifegofaaDoorH
namespace Go.Proofs.YthhinchifegofaaDoor

/-- The places of a word that are one, rising. -/
def placesL (x : Nat) : List Nat := (List.range 64).filter fun i => x.testBit i
theorem clear_low (n t : Nat) (ht : n.testBit t = true) (hl : ∀ i, i < t → n.testBit i = false) (i : Nat) : (n &&& (n - 1)).testBit i = (n.testBit i && decide (i ≠ t)) := by
  have hn : n % 2 ^ t = 0 := by
    apply Nat.eq_of_testBit_eq
    intro j
    rw [Nat.testBit_mod_two_pow, Nat.zero_testBit]
    by_cases h : j < t
    · rw [hl j h]; simp
    · simp [h]
  obtain ⟨q, rfl⟩ : ∃ q, n = 2 ^ t * q := ⟨n / 2 ^ t, by have := Nat.div_add_mod n (2 ^ t); omega⟩
  have hq : q.testBit 0 = true := by
    rw [Nat.testBit_two_pow_mul] at ht
    simpa using ht
  have hodd : q % 2 = 1 := by simpa [Nat.testBit_zero] using hq
  obtain ⟨m, rfl⟩ : ∃ m, q = 2 * m + 1 := ⟨q / 2, by omega⟩
  have hp : 0 < 2 ^ t := Nat.two_pow_pos t
  have e : 2 ^ t * (2 * m + 1) - 1 = 2 ^ t * (2 * m) + (2 ^ t - 1) := by
    rw [Nat.mul_add, Nat.mul_one]
    omega
  rw [Nat.testBit_and, e, Nat.testBit_two_pow_mul_add _ (by omega), Nat.testBit_two_pow_mul]
  by_cases h : i < t
  · have h2 : ¬ t ≤ i := by omega
    simp [h2]
  · rw [if_neg h]
    have h2 : t ≤ i := by omega
    simp only [h2, decide_true, Bool.true_and]
    by_cases h3 : i = t
    · subst h3
      simp [Nat.testBit_zero]
    · obtain ⟨j, hj⟩ : ∃ j, i - t = j + 1 := ⟨i - t - 1, by omega⟩
      rw [hj, Nat.testBit_succ, Nat.testBit_succ, show (2 * m + 1) / 2 = m by omega, show 2 * m / 2 = m by omega]
      simp [h3]
theorem filter_first {p : Nat → Bool} {t : Nat} : ∀ {n a : Nat}, a ≤ t → t < a + n → p t = true → (∀ i, i < t → p i = false) → (List.range' a n).filter p = t :: (List.range' a n).filter (fun i => p i && decide (i ≠ t))
  | 0, a, h1, h2, _, _ => by omega
  | n + 1, a, h1, h2, hp, hl => by
    rw [List.range'_succ, List.filter_cons, List.filter_cons]
    by_cases h : a = t
    · subst h
      rw [hp]
      simp only [if_true, ne_eq, not_true_eq_false, decide_false, Bool.and_false, Bool.false_eq_true, if_false]
      congr 1
      apply List.filter_congr
      intro i hi
      rw [List.mem_range'_1] at hi
      have : i ≠ a := by omega
      simp [this]
    · rw [hl a (by omega)]
      simp only [Bool.false_eq_true, if_false, Bool.false_and]
      exact filter_first (by omega) (by omega) hp hl
theorem places_step (x t : Nat) (h64 : t < 64) (ht : x.testBit t = true) (hl : ∀ i, i < t → x.testBit i = false) : placesL x = t :: placesL (x &&& (x - 1)) := by
  unfold placesL
  rw [List.range_eq_range']
  rw [filter_first (p := fun i => x.testBit i) (Nat.zero_le t) (by omega) ht hl]
  congr 1
  apply List.filter_congr
  intro i _
  rw [clear_low x t ht hl i]
theorem places_zero : placesL 0 = [] := by simp [placesL]
end Go.Proofs.YthhinchifegofaaDoor
