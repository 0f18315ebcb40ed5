/- The lowest one of a word, by the library's table. -/
import Derived.Test.YthhinchifegofaaDoorG
namespace Go.Proofs.YthhinchifegofaaDoor
open Go.RowKit

/-- The library's table of places. -/
def tzTab : List Nat := [0, 1, 56, 2, 57, 49, 28, 3, 61, 58, 42, 50, 38, 29, 17, 4, 62, 47, 59, 36, 45, 43, 51, 22, 53, 39, 33, 30, 24, 18, 12, 5, 63, 55, 48, 27, 60, 41, 37, 16, 46, 35, 44, 21, 52, 32, 23, 11, 54, 26, 40, 15, 34, 20, 31, 10, 25, 14, 19, 9, 13, 8, 7, 6]
/-- The table lies in its block. -/
structure TabW (w : World) : Prop where
  at' : ∀ (i k : Nat), tzTab[i]? = some k → w.cell? ⟨0, i, none⟩ = some (.int .u8 k)
theorem TabW.below {w w' : World} (h : TabW w) (hb : Below w.heap.size w w') : TabW w' :=
  ⟨fun i k hk => (hb.cell (World.block_lt_of_cell? w _ (h.at' i k hk))).trans (h.at' i k hk)⟩

theorem tz_tab : ∀ k : Nat, k < 64 → tzTab[(2 ^ k * 285870213051353865 % 18446744073709551616) / 288230376151711744]? = some k := by decide +kernel

/-- The lowest one of a word that is not nought. -/
theorem low_one (x : Nat) (hx : x ≠ 0) (hlt : x < 2 ^ 64) : ∃ k, k < 64 ∧ x.testBit k = true ∧ (∀ i, i < k → x.testBit i = false) ∧ x &&& (2 ^ 64 - x) = 2 ^ k := by
  obtain ⟨i0, hi0⟩ := Nat.exists_testBit_of_ne_zero hx
  have hex : ∃ k, x.testBit k = true ∧ ∀ i, i < k → x.testBit i = false := by
    have key : ∀ n i, i < n → x.testBit i = true → ∃ k, x.testBit k = true ∧ ∀ i, i < k → x.testBit i = false := by
      intro n
      induction n with
      | zero => intro i h; omega
      | succ n ih =>
        intro i hi ht
        by_cases h : ∃ j, j < i ∧ x.testBit j = true
        · obtain ⟨j, hj, hjt⟩ := h
          exact ih j (by omega) hjt
        · refine ⟨i, ht, fun j hj => ?_⟩
          cases hb : x.testBit j
          · rfl
          · exact (h ⟨j, hj, hb⟩).elim
    exact key (i0 + 1) i0 (by omega) hi0
  obtain ⟨k, hk, hlow⟩ := hex
  have hk64 : k < 64 := by
    by_cases h : k < 64
    · exact h
    · have hp : 2 ^ 64 ≤ 2 ^ k := Nat.pow_le_pow_right (by decide) (by omega)
      rw [Nat.testBit_lt_two_pow (Nat.lt_of_lt_of_le hlt hp)] at hk
      cases hk
  refine ⟨k, hk64, hk, hlow, ?_⟩
  have e : 2 ^ 64 - x = 2 ^ 64 - ((x - 1) + 1) := by omega
  have hd : ∀ i, (x - 1).testBit i = if i < k then true else if i = k then false else x.testBit i := by
    -- x = 2^k * (2m + 1)
    have hmod : x % 2 ^ k = 0 := by
      apply Nat.eq_of_testBit_eq
      intro i
      rw [Nat.testBit_mod_two_pow]
      by_cases h : i < k
      · simp [h, hlow i h]
      · simp [h]
    have hodd : x / 2 ^ k % 2 = 1 := by
      rw [Nat.testBit_eq_decide_div_mod_eq] at hk
      simpa using hk
    have hp : 0 < 2 ^ k := Nat.pow_pos (by decide)
    have hx1 : x = 2 ^ k * (x / 2 ^ k) := by
      have := Nat.div_add_mod x (2 ^ k)
      omega
    have hx2 : x - 1 = 2 ^ k * (x / 2 ^ k - 1) + (2 ^ k - 1) := by
      obtain ⟨m, hm⟩ : ∃ m, x / 2 ^ k = m + 1 := by
        generalize x / 2 ^ k = y at hodd
        exact ⟨y - 1, by omega⟩
      rw [hm] at hx1 ⊢
      rw [Nat.mul_add, Nat.mul_one] at hx1
      rw [Nat.add_sub_cancel]
      omega
    intro i
    rw [hx2, Nat.testBit_two_pow_mul_add _ (by omega)]
    by_cases h : i < k
    · simp [h, Nat.testBit_two_pow_sub_one]
    · rw [if_neg h, if_neg h]
      by_cases hik : i = k
      · subst hik
        rw [if_pos rfl, Nat.sub_self, Nat.testBit_zero]
        simp
        generalize x / 2 ^ i = y at hodd
        omega
      · rw [if_neg hik]
        have h1 : x.testBit i = (x / 2 ^ k).testBit (i - k) := by
          rw [Nat.testBit_div_two_pow]
          congr 1
          omega
        rw [h1]
        obtain ⟨j, hj⟩ : ∃ j, i - k = j + 1 := ⟨i - k - 1, by omega⟩
        rw [hj, Nat.testBit_succ, Nat.testBit_succ]
        congr 1
        generalize x / 2 ^ k = y at hodd
        omega
  apply Nat.eq_of_testBit_eq
  intro i
  rw [Nat.testBit_and, Nat.testBit_two_pow, e, Nat.testBit_two_pow_sub_succ (by omega), hd i]
  by_cases h : i < k
  · have : ¬ k = i := by omega
    simp [hlow i h, this]
  · by_cases hik : i = k
    · subst hik
      simp [hk, hk64]
    · have : ¬ k = i := by omega
      simp [h, hik, this]
      intro h1 h2
      exact h1

/-- The place of the lowest one; 64 if there is none. -/
def isTz (x : UInt64) (k : Nat) : Prop := (x = 0 ∧ k = 64) ∨ (k < 64 ∧ x.toNat.testBit k = true ∧ ∀ i, i < k → x.toNat.testBit i = false)

set_option maxHeartbeats 1000000 in
theorem Tz_some (x : UInt64) (hx : x ≠ 0) (w : World) (hT : TabW w) :
    ∃ k, (k < 64 ∧ x.toNat.testBit k = true ∧ ∀ i, i < k → x.toNat.testBit i = false) ∧ Calls Tryd.prog 24 #[.int .u64 (u x)] w fun e w' => e = .returned (.int .i64 k) ∧ w = w' := by
  have hx0 : x.toNat ≠ 0 := fun h => hx (UInt64.toNat_inj.1 (by simpa using h))
  obtain ⟨k, hk, hb, hl, he⟩ := low_one x.toNat hx0 (UInt64.toNat_lt x)
  refine ⟨k, ⟨hk, hb, hl⟩, ?_⟩
  have ht := tz_tab k hk
  obtain ⟨i, hi⟩ : ∃ i, (2 ^ k * 285870213051353865 % 18446744073709551616) / 288230376151711744 = i := ⟨_, rfl⟩
  rw [hi] at ht
  have hcell := hT.at' i k ht
  have hi64 : i < 64 := by rw [← hi]; omega
  obtain ⟨n1, hn1⟩ := ex_int (IntKind.u64.wrap (-(u x)))
  obtain ⟨a1, ha1⟩ := ex_int (bits .and .u64 (u x) n1)
  obtain ⟨m1, hm1⟩ := ex_int (IntKind.u64.wrap (a1 * 285870213051353865))
  have kn : n1 = ((2 ^ 64 - x.toNat : Nat) : Int) := by
    rw [← hn1]
    have := UInt64.toNat_lt x
    simp [IntKind.wrap, IntKind.signed, go_sem, u]
    omega
  have ka : a1 = ((2 ^ k : Nat) : Int) := by
    rw [← ha1, kn, ← he]
    exact u64_and_nat _ _ (UInt64.toNat_lt x) (by have := UInt64.toNat_lt x; omega)
  have km : m1 / 288230376151711744 = (i : Int) := by
    rw [← hm1, ka, ← hi]
    simp [IntKind.wrap, IntKind.signed, go_sem]
  have hne : (u x == 0) = false := by
    simp [u, hx0]
  clear kn ka hT
  go_enter Tryd.func24, Tryd.ntmps24
  go_wp2
  go_ret
  exact ⟨rfl, rfl⟩
end Go.Proofs.YthhinchifegofaaDoor
