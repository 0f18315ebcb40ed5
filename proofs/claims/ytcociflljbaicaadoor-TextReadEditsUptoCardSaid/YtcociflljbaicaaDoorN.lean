/- Numerals: plain laws. No program stands in it. -/
import Derived.Lib.ItoaNum
import Derived.Lib.AtoiAllCases
namespace Go.Proofs.YtcociflljbaicaaDoor
open Go.Lib

def dig (c : UInt8) : Prop := 48 ≤ c.toNat ∧ c.toNat ≤ 57
instance (c : UInt8) : Decidable (dig c) := by unfold dig; infer_instance
def dstep (a : Nat) (c : UInt8) : Nat := a * 10 + (c.toNat - 48)
def decVal (acc : Nat) (l : List UInt8) : Nat := l.foldl dstep acc
theorem decVal_nil (acc : Nat) : decVal acc [] = acc := rfl
theorem decVal_cons (acc : Nat) (c : UInt8) (r : List UInt8) : decVal acc (c :: r) = decVal (acc * 10 + (c.toNat - 48)) r := by
  unfold decVal
  rw [List.foldl_cons]
  unfold dstep
  with_reducible rfl
theorem decVal_append (l m : List UInt8) : ∀ acc, decVal acc (l ++ m) = decVal (decVal acc l) m := by
  induction l with
  | nil => intro acc; rfl
  | cons c l ih =>
    intro acc
    rw [List.cons_append, decVal_cons, decVal_cons]
    exact ih _
theorem decVal_le (l : List UInt8) : ∀ acc, acc ≤ decVal acc l := by
  induction l with
  | nil => intro acc; exact Nat.le_refl _
  | cons c l ih =>
    intro acc
    rw [decVal_cons]
    exact Nat.le_trans (by omega) (ih _)
theorem decVal_lt (l : List UInt8) (h : ∀ c ∈ l, dig c) (acc : Nat) : decVal acc l < (acc + 1) * 10 ^ l.length := by
  induction l generalizing acc with
  | nil =>
    show acc < (acc + 1) * 1
    omega
  | cons c l ih =>
    have hc := h c List.mem_cons_self
    have hc' : c.toNat - 48 ≤ 9 := by
      unfold dig at hc
      omega
    have h1 := ih (fun x hx => h x (List.mem_cons_of_mem _ hx)) (acc * 10 + (c.toNat - 48))
    have h2 : (acc * 10 + (c.toNat - 48) + 1) * 10 ^ l.length ≤ ((acc + 1) * 10) * 10 ^ l.length := Nat.mul_le_mul_right _ (by omega)
    have h3 : (acc + 1) * 10 ^ (l.length + 1) = ((acc + 1) * 10) * 10 ^ l.length := by
      rw [Nat.pow_succ, Nat.mul_comm (10 ^ l.length) 10, Nat.mul_assoc]
    show decVal (acc * 10 + (c.toNat - 48)) l < (acc + 1) * 10 ^ (l.length + 1)
    rw [h3]
    exact Nat.lt_of_lt_of_le h1 h2

theorem ofNat_dig (d : Nat) (h : d < 10) : (UInt8.ofNat (48 + d)).toNat = 48 + d := by
  rw [UInt8.toNat_ofNat']
  exact Nat.mod_eq_of_lt (by omega)
theorem decDigits_dig (u : Nat) : ∀ c ∈ decDigits u, dig c := by
  induction u using Nat.strongRecOn with
  | _ u ih =>
    intro c hc
    rw [decDigits] at hc
    split at hc
    · rename_i h
      simp only [List.mem_singleton] at hc
      subst hc
      unfold dig
      rw [ofNat_dig u h]
      omega
    · rename_i h
      rcases List.mem_append.1 hc with hc | hc
      · exact ih (u / 10) (by omega) c hc
      · simp only [List.mem_singleton] at hc
        subst hc
        unfold dig
        rw [ofNat_dig _ (by omega)]
        omega
theorem decDigits_val (u : Nat) : decVal 0 (decDigits u) = u := by
  induction u using Nat.strongRecOn with
  | _ u ih =>
    rw [decDigits]
    split
    · rename_i h
      simp only [decVal_nil, decVal_cons]
      rw [ofNat_dig u h]
      omega
    · rename_i h
      rw [decVal_append, ih (u / 10) (by omega)]
      simp only [decVal_nil, decVal_cons]
      rw [ofNat_dig _ (by omega)]
      omega
theorem decDigits_ne (u : Nat) : decDigits u ≠ [] := by
  rw [decDigits]
  split <;> simp
/-- The first digit of a number that is not 0 is not 0. -/
theorem decDigits_head (u : Nat) (h0 : 0 < u) : ∃ c r, decDigits u = c :: r ∧ c.toNat ≠ 48 := by
  induction u using Nat.strongRecOn with
  | _ u ih =>
    rw [decDigits]
    split
    · rename_i h
      refine ⟨UInt8.ofNat (48 + u), [], rfl, ?_⟩
      rw [ofNat_dig u h]
      omega
    · rename_i h
      obtain ⟨c, r, e, hc⟩ := ih (u / 10) (by omega) (by omega)
      exact ⟨c, r ++ [UInt8.ofNat (48 + u % 10)], by rw [e]; rfl, hc⟩
theorem u8_back (c : UInt8) (h : dig c) : UInt8.ofNat (48 + (c.toNat - 48)) = c := by
  unfold dig at h
  rw [show 48 + (c.toNat - 48) = c.toNat by omega]
  exact UInt8.ofNat_toNat
/-- Digits without a zero ahead are the digits of their number. -/
theorem decDigits_of (l : List UInt8) (hd : ∀ c ∈ l, dig c) (hne : l ≠ []) (h0 : ∀ c r, l = c :: r → c.toNat = 48 → r = []) : decDigits (decVal 0 l) = l := by
  have key : ∀ (n : Nat) (l : List UInt8), l.length = n → (∀ c ∈ l, dig c) → l ≠ [] → (∀ c r, l = c :: r → c.toNat = 48 → r = []) → decDigits (decVal 0 l) = l := by
    intro n
    induction n with
    | zero => intro l hl _ hne _; exact absurd (List.eq_nil_of_length_eq_zero hl) hne
    | succ n ih =>
      intro l hl hd hne h0
      have hdc := List.dropLast_concat_getLast hne
      generalize l.getLast hne = c at hdc
      generalize l.dropLast = m at hdc
      subst hdc
      have hc : dig c := hd c (by simp)
      cases m with
      | nil =>
        simp only [List.nil_append, decVal_nil, decVal_cons]
        unfold dig at hc
        rw [decDigits, dif_pos (by omega)]
        congr 1
        rw [show 0 * 10 + (c.toNat - 48) = c.toNat - 48 by omega]
        exact u8_back c hc
      | cons a r =>
        have ha : a.toNat ≠ 48 := fun e => by
          have := h0 a (r ++ [c]) rfl e
          simp at this
        have hm := ih (a :: r) (by simp at hl ⊢; exact hl) (fun x hx => hd x (List.mem_append_left _ hx)) (by simp) (fun x y e e' => by
          injection e with e1 e2
          subst e1
          exact absurd e' ha)
        have hpos : 1 ≤ decVal 0 (a :: r) := by
          have hda := hd a (by simp)
          unfold dig at hda
          simp only [decVal_nil, decVal_cons]
          exact Nat.le_trans (by omega) (decVal_le r _)
        rw [decVal_append]
        simp only [decVal_nil, decVal_cons] at hm hpos ⊢
        generalize decVal (0 * 10 + (a.toNat - 48)) r = V at hm hpos ⊢
        have hc' := hc
        unfold dig at hc'
        rw [decDigits, dif_neg (by omega), show (V * 10 + (c.toNat - 48)) / 10 = V by omega, show (V * 10 + (c.toNat - 48)) % 10 = c.toNat - 48 by omega, hm, u8_back c hc]
  exact key l.length l rfl hd hne h0

/-- The parse of digits whose number a uint64 holds. -/
theorem parse_dig (l : List UInt8) (hd : ∀ c ∈ l, dig c) : ∀ acc, decVal acc l < 18446744073709551616 → parseUint10 acc l = .ok (decVal acc l) := by
  induction l with
  | nil => intro acc _; rfl
  | cons c l ih =>
    intro acc h
    have hc := hd c (by simp)
    unfold dig at hc
    simp only [decVal_nil, decVal_cons] at h ⊢
    have h1 := decVal_le l (acc * 10 + (c.toNat - 48))
    unfold parseUint10
    rw [if_pos hc, if_neg (by omega), if_neg (by omega)]
    exact ih (fun x hx => hd x (List.mem_cons_of_mem _ hx)) _ h

/-- Atoi of Itoa. -/
theorem atoi_itoa (n : Int) (h0 : 0 ≤ n) (h1 : n < 9223372036854775808) : atoiAll (itoa n) = .ok n := by
  have hn : ¬ n < 0 := by omega
  unfold itoa
  rw [if_neg hn]
  have hd := decDigits_dig n.toNat
  have hne := decDigits_ne n.toNat
  have hv := decDigits_val n.toNat
  cases hl : decDigits n.toNat with
  | nil => exact absurd hl hne
  | cons c r =>
    rw [hl] at hd hv
    have hc := hd c (by simp)
    unfold dig at hc
    have hp := parse_dig (c :: r) hd 0 (by rw [hv]; omega)
    rw [hv] at hp
    have hm : parseMag (c :: r) = .ok n.toNat := by
      unfold parseMag
      rw [if_neg (by simp)]
      exact hp
    unfold atoiAll
    simp only
    rw [if_neg (by omega), hm]
    simp only
    rw [if_neg (by omega), if_neg (by omega), if_neg (by omega)]
    congr 1
    omega
theorem itoa_inj {m n : Int} (h : itoa m = itoa n) : m = n := by
  have hv : ∀ u, decVal 0 (decDigits u) = u := decDigits_val
  have hm : ∀ u (l : List UInt8), decDigits u ≠ 45 :: l := by
    intro u l e
    have := decDigits_dig u 45 (by rw [e]; simp)
    unfold dig at this
    exact absurd this.1 (by decide)
  unfold itoa at h
  by_cases h1 : m < 0 <;> by_cases h2 : n < 0
  · rw [if_pos h1, if_pos h2] at h
    injection h with _ h
    have := congrArg (decVal 0) h
    rw [hv, hv] at this
    omega
  · rw [if_pos h1, if_neg h2] at h
    exact absurd h.symm (hm _ _)
  · rw [if_neg h1, if_pos h2] at h
    exact absurd h (hm _ _)
  · rw [if_neg h1, if_neg h2] at h
    have := congrArg (decVal 0) h
    rw [hv, hv] at this
    omega
theorem itoa_ne (n : Int) : itoa n ≠ [] := by
  unfold itoa
  split
  · simp
  · exact decDigits_ne _
end Go.Proofs.YtcociflljbaicaaDoor
