/- Sets by their nodes: the plain laws. -/
import Derived.Test.YthhinchifegofaaDoorC
namespace Go.Proofs.YthhinchifegofaaDoor
open Go.RowKit

/-- Is node n in s? -/
def hasB (s : Bt) (n : Nat) : Bool := if n < 64 then s.1.toNat.testBit n else s.2.toNat.testBit (n - 64)

theorem bit_nat (k : Nat) (h : k < 64) : (bit k).toNat = 2 ^ k := by
  have h2 : 2 ^ k < 2 ^ 64 := Nat.pow_lt_pow_right (by decide) h
  unfold bit
  rw [UInt64.toNat_ofNat', Nat.mod_eq_of_lt h2]
theorem not_bit (x : UInt64) (i : Nat) (h : i < 64) : (~~~x).toNat.testBit i = !x.toNat.testBit i := by
  have e : (~~~x).toNat = 2 ^ 64 - (x.toNat + 1) := by
    rw [UInt64.toNat_not]
    have := UInt64.toNat_lt x
    simp only [UInt64.size]
    omega
  rw [e, Nat.testBit_two_pow_sub_succ (UInt64.toNat_lt x)]
  simp [h]

theorem has_or (a b : Bt) (i : Nat) : hasB (orB a b) i = (hasB a i || hasB b i) := by
  unfold hasB orB
  split <;> simp [UInt64.toNat_or, Nat.testBit_or]
theorem has_and (a b : Bt) (i : Nat) : hasB (andB a b) i = (hasB a i && hasB b i) := by
  unfold hasB andB
  split <;> simp [UInt64.toNat_and, Nat.testBit_and]
theorem has_minus (a b : Bt) (i : Nat) (h : i < 128) : hasB (minusB a b) i = (hasB a i && !hasB b i) := by
  unfold hasB minusB
  split
  · simp only [UInt64.toNat_and, Nat.testBit_and]
    rw [not_bit _ _ (by omega)]
  · simp only [UInt64.toNat_and, Nat.testBit_and]
    rw [not_bit _ _ (by omega)]
theorem has_add (s : Bt) (n i : Nat) (hn : n < 128) : hasB (addB s n) i = (hasB s i || decide (n = i)) := by
  unfold hasB addB
  by_cases h1 : n < 64 <;> by_cases h2 : i < 64
  · simp only [h1, h2, if_true, UInt64.toNat_or, Nat.testBit_or, bit_nat n h1, Nat.testBit_two_pow]
  · have : ¬ (n = i) := by omega
    simp [h1, h2, this]
  · have : ¬ (n = i) := by omega
    simp [h1, h2, this]
  · simp only [h1, h2, if_false, UInt64.toNat_or, Nat.testBit_or, bit_nat (n - 64) (by omega), Nat.testBit_two_pow]
    congr 1
    rw [decide_eq_decide]
    omega
theorem has_none (i : Nat) : hasB (0, 0) i = false := by
  unfold hasB
  split <;> simp

theorem word_ext (a b : UInt64) (h : ∀ i, i < 64 → a.toNat.testBit i = b.toNat.testBit i) : a = b := by
  apply UInt64.toNat_inj.1
  apply Nat.eq_of_testBit_eq
  intro i
  by_cases hi : i < 64
  · exact h i hi
  · have hp : 2 ^ 64 ≤ 2 ^ i := Nat.pow_le_pow_right (by decide) (by omega)
    rw [Nat.testBit_lt_two_pow (Nat.lt_of_lt_of_le (UInt64.toNat_lt a) hp), Nat.testBit_lt_two_pow (Nat.lt_of_lt_of_le (UInt64.toNat_lt b) hp)]
theorem bt_ext (a b : Bt) (h : ∀ i, i < 128 → hasB a i = hasB b i) : a = b := by
  apply Prod.ext
  · apply word_ext
    intro i hi
    have := h i (by omega)
    simpa [hasB, hi] using this
  · apply word_ext
    intro i hi
    have := h (i + 64) (by omega)
    simpa [hasB, show ¬ (i + 64 < 64) by omega] using this

theorem add_has (s : Bt) (n : Nat) (hn : n < 128) (h : hasB s n = true) : addB s n = s := by
  apply bt_ext
  intro i _
  rw [has_add s n i hn]
  by_cases e : n = i
  · subst e; simp [h]
  · simp [e]

theorem inN_lt {n : Int} (h : inN n = true) : 0 ≤ n ∧ n.toNat < 128 := by
  simp [inN] at h
  omega

theorem ofB_spec : ∀ (L : List Int) (s : Bt), (∀ n ∈ L, inN n = true) → ∃ s', ofB L s = some s' ∧ ∀ i, i < 128 → hasB s' i = (hasB s i || decide ((i : Int) ∈ L))
  | [], s, _ => ⟨s, rfl, by simp⟩
  | n :: L, s, h => by
    obtain ⟨hn0, hn⟩ := inN_lt (h n (by simp))
    obtain ⟨s', h1, h2⟩ := ofB_spec L (addB s n.toNat) (fun m hm => h m (by simp [hm]))
    refine ⟨s', by simp [ofB, h n (by simp), h1], ?_⟩
    intro i hi
    rw [h2 i hi, has_add _ _ _ hn]
    have : decide (n.toNat = i) = decide ((i : Int) = n) := by rw [decide_eq_decide]; omega
    rw [this, Bool.or_assoc]
    simp

/-- The nodes below k that a test takes, rising. -/
def listP (p : Nat → Bool) (k : Nat) : List Int := ((List.range k).filter p).map Int.ofNat
theorem listP_succ (p : Nat → Bool) (k : Nat) : listP p (k + 1) = listP p k ++ (if p k then [(k : Int)] else []) := by
  unfold listP
  rw [List.range_succ, List.filter_append, List.map_append]
  cases h : p k <;> simp [h]
theorem mem_listP (p : Nat → Bool) (i k : Nat) (hi : i < k) : decide ((i : Int) ∈ listP p k) = p i := by
  unfold listP
  cases h : p i
  · simp
    intro x hx hp e
    have : x = i := by omega
    subst this
    rw [h] at hp
    cases hp
  · simp
    exact ⟨i, ⟨hi, h⟩, rfl⟩
theorem listP_in (p : Nat → Bool) : ∀ n ∈ listP p 128, inN n = true := by
  intro n hn
  simp [listP] at hn
  obtain ⟨m, ⟨hm, _⟩, rfl⟩ := hn
  simp [inN]
  omega
theorem listP_len (p : Nat → Bool) (k : Nat) : (listP p k).length ≤ k := by
  unfold listP
  rw [List.length_map]
  have := List.length_filter_le p (List.range k)
  simpa using this

/-- The set that a test takes. -/
theorem of_listP (p : Nat → Bool) (t : Bt) (h : ∀ i, i < 128 → hasB t i = p i) : ofB (listP p 128) (0, 0) = some t := by
  obtain ⟨s', h1, h2⟩ := ofB_spec (listP p 128) (0, 0) (listP_in p)
  rw [h1]
  congr 1
  apply bt_ext
  intro i hi
  rw [h2 i hi, has_none, mem_listP p i 128 hi, h i hi]
  rfl
theorem ofB_append : ∀ (L M : List Int) (s : Bt), ofB (L ++ M) s = (ofB L s).bind fun t => ofB M t
  | [], M, s => rfl
  | n :: L, M, s => by
    simp only [List.cons_append, ofB]
    split
    · exact ofB_append L M _
    · rfl

/-- What With and Without answer. -/
def withR (s : Bt) (n : Int) : Bt × Nat := if inN n then (addB s n.toNat, 0) else ((0, 0), 2)
def withoutR (s : Bt) (n : Int) : Bt × Nat := if inN n then (minusB s (addB (0, 0) n.toNat), 0) else ((0, 0), 2)
theorem of_one (n : Int) : ofR [n] (0, 0) = withR (0, 0) n := by
  unfold ofR withR ofB
  by_cases h : inN n = true
  · simp [h, ofB]
  · simp [h]
theorem or_add (s : Bt) (n : Nat) : orB s (addB (0, 0) n) = addB s n := by
  unfold orB addB
  split <;> simp
theorem refWith_eq (s : Bt) (n : Int) : ofR (listP (hasB s) 128 ++ [n]) (0, 0) = withR s n := by
  unfold ofR withR
  rw [ofB_append, of_listP (hasB s) s (fun _ _ => rfl)]
  by_cases h : inN n = true
  · simp [h, ofB]
  · simp [h, ofB]
theorem refWithout_eq (s : Bt) (n : Int) (h : inN n = true) : ofB (listP (fun i => hasB s i && decide ((i : Int) ≠ n)) 128) (0, 0) = some (minusB s (addB (0, 0) n.toNat)) := by
  obtain ⟨h0, h1⟩ := inN_lt h
  apply of_listP
  intro i hi
  rw [has_minus _ _ _ hi, has_add _ _ _ h1, has_none, Bool.false_or]
  congr 1
  rw [← decide_not, decide_eq_decide]
  omega
end Go.Proofs.YthhinchifegofaaDoor
