/- The references of numerals, as functions: Digits, Number, Read, Text. -/
import Derived.Test.YtpapknmkiampgaaND
import Derived.Test.YtpapknmkiampgaaPHeapPlaysx1
import Derived.Laws.Strings
namespace Go.Proofs.Ytpapknmkiampgaa
open Go.RowKit (wrap64)
open Go.Lib Go.Proofs.Ytpapknmkiampgaa.PHeapPlays Go.Proofs.YtpapknmkiampgaaW.PrintWords Go.Proofs.YtpapknmkiampgaaW.PrintMore

theorem ba_ext {a b : ByteArray} (h : a.data.toList = b.data.toList) : a = b := by
  cases a; cases b
  congr 1
  exact Array.toList_inj.1 h
theorem u64_wrap (x : Int) (h0 : 0 ≤ x) (h1 : x < 18446744073709551616) : IntKind.u64.wrap x = x := by
  simp only [IntKind.wrap, IntKind.signed, IntKind.bits]
  simp
  omega
theorem u64_low (d : Nat) (h : d < 10) : IntKind.u64.wrap (48 + Int.tmod (d : Int) 10) % 256 = 48 + (d : Int) := by
  have : Int.tmod (d : Int) 10 = d := by
    rw [Int.tmod_eq_emod_of_nonneg (by omega)]
    omega
  rw [this, u64_wrap _ (by omega) (by omega)]
  omega
theorem dig_step (x0 : Int) (k u : Nat) (x3 : ByteArray) (h0 : 0 < u) (h : u < 18446744073709551616) (hs : x3.size ≤ 1000) :
    causewayref01_Digits.l0 (k + 1) x0 x3 (u : Int) = causewayref01_Digits.l0 k x0 ((⟨#[UInt8.ofNat (48 + u % 10)]⟩ : ByteArray) ++ x3) ((u / 10 : Nat) : Int) := by
  have e1 : IntKind.u64.wrap (48 + Int.tmod (u : Int) 10) % 256 = ((48 + u % 10 : Nat) : Int) := by
    have : Int.tmod (u : Int) 10 = ((u % 10 : Nat) : Int) := by
      rw [Int.tmod_eq_emod_of_nonneg (by omega)]
      omega
    rw [this, u64_wrap _ (by omega) (by omega)]
    omega
  have e2 : IntKind.u64.wrap (Int.tdiv (u : Int) 10) = ((u / 10 : Nat) : Int) := by
    rw [Int.tdiv_eq_ediv_of_nonneg (by omega), u64_wrap _ (by omega) (by omega)]
    omega
  have e3 : strOfNums [((48 + u % 10 : Nat) : Int)] = (⟨#[UInt8.ofNat (48 + u % 10)]⟩ : ByteArray) := by
    simp only [strOfNums, List.map_cons, List.map_nil, Int.toNat_natCast]
  simp only [causewayref01_Digits.l0]
  rw [if_pos (by omega), e1, e2]
  simp only [Option.bind_some]
  rw [e3, if_pos ?_]
  rw [show (⟨#[UInt8.ofNat (48 + u % 10)]⟩ : ByteArray).size = 1 from rfl]
  omega
theorem dig_loop (x0 : Int) (u : Nat) : ∀ (x3 : ByteArray), 0 < u → u < 18446744073709551616 → x3.size + nDigits u ≤ 1000 →
    ∃ k, ∀ j, causewayref01_Digits.l0 (k + j) x0 x3 (u : Int) = causewayref01_Digits.l0 j x0 ((⟨(decDigits u).toArray⟩ : ByteArray) ++ x3) 0 := by
  induction u using Nat.strongRecOn with
  | _ u ih =>
    intro x3 h0 h hs
    have hn := nDigits_pos u
    by_cases hu : u < 10
    · refine ⟨1, fun j => ?_⟩
      rw [Nat.add_comm 1 j, dig_step x0 j u x3 h0 h (by omega), show u / 10 = 0 by omega, show u % 10 = u by omega, decDigits_one hu]
      rfl
    · have hb := nDigits_big hu
      have hdd : decDigits u = decDigits (u / 10) ++ [UInt8.ofNat (48 + u % 10)] := by rw [decDigits, dif_neg hu]
      obtain ⟨k, hk⟩ := ih (u / 10) (by omega) ((⟨#[UInt8.ofNat (48 + u % 10)]⟩ : ByteArray) ++ x3) (by omega) (by omega) (by
        rw [ByteArray.size_append, show (⟨#[UInt8.ofNat (48 + u % 10)]⟩ : ByteArray).size = 1 from rfl]
        omega)
      refine ⟨k + 1, fun j => ?_⟩
      rw [show k + 1 + j = (k + j) + 1 by omega, dig_step x0 (k + j) u x3 h0 h (by omega), hk j]
      congr 1
      apply ba_ext
      rw [hdd]
      simp
theorem nd20 (u : Nat) (h : u < 18446744073709551616) : nDigits u ≤ 20 := by
  by_cases h0 : u < 10
  · rw [nDigits_small h0]; omega
  · have h1 := decDigits_val u
    have h2 := decDigits_length u
    obtain ⟨c, r, e, hc⟩ := decDigits_head u (by omega)
    have hd := decDigits_dig u
    rw [e] at h1 h2 hd
    have hcd := hd c (by simp)
    unfold dig at hcd
    by_cases hl : nDigits u ≤ 20
    · exact hl
    · exfalso
      have key : ∀ (l : List UInt8) (acc : Nat), acc * 10 ^ l.length ≤ decVal acc l := by
        intro l
        induction l with
        | nil => intro acc; rw [decVal_nil]; simp
        | cons x l ih =>
          intro acc
          rw [decVal_cons]
          refine Nat.le_trans ?_ (ih _)
          rw [List.length_cons, Nat.pow_succ, Nat.mul_comm (10 ^ l.length) 10, ← Nat.mul_assoc]
          exact Nat.mul_le_mul_right _ (by omega)
      have h3 := key r (c.toNat - 48)
      rw [decVal_cons, show 0 * 10 + (c.toNat - 48) = c.toNat - 48 by omega] at h1
      rw [h1] at h3
      rw [List.length_cons] at h2
      have h4 : 10 ^ 20 ≤ 10 ^ r.length := Nat.pow_le_pow_right (by omega) (by omega)
      have h5 : 1 * 10 ^ r.length ≤ (c.toNat - 48) * 10 ^ r.length := Nat.mul_le_mul_right _ (by omega)
      have h6 : (10 : Nat) ^ 20 = 100000000000000000000 := by decide
      omega
theorem digits_any (n : Int) (h0 : -9223372036854775808 ≤ n) (h1 : n < 9223372036854775808) : ∃ k, causewayref01_Digits.f k n = some ⟨(itoa n).toArray⟩ := by
  unfold causewayref01_Digits.f
  by_cases hz : n = 0
  · subst hz
    refine ⟨0, ?_⟩
    have h48 : itoa 0 = [48] := by
      unfold itoa
      rw [if_neg (by omega), show (0 : Int).toNat = 0 from rfl, decDigits_one (by omega)]
      rfl
    rw [if_pos rfl, h48]
  · simp only [if_neg hz]
    have hw : ∀ m : Int, IntKind.u64.wrap m = m % 18446744073709551616 := by
      intro m
      simp only [IntKind.wrap, IntKind.signed, IntKind.bits]
      simp
    by_cases hn : n < 0
    · simp only [if_pos hn]
      rw [hw, hw, show (-(n % 18446744073709551616)) % 18446744073709551616 = ((n.natAbs : Nat) : Int) by omega]
      obtain ⟨k, hk⟩ := dig_loop n n.natAbs ⟨#[]⟩ (by omega) (by omega) (by have := nd20 n.natAbs (by omega); show 0 + _ ≤ _; omega)
      refine ⟨k + 1 + 1, ?_⟩
      simp only [causewayref01_Digits.j0]
      rw [hk 1]
      simp only [causewayref01_Digits.l0]
      rw [if_neg (by omega), if_pos hn, if_pos ?_]
      · congr 1
        apply ba_ext
        unfold itoa
        rw [if_pos hn]
        simp
      · have := nd20 n.natAbs (by omega)
        have h2 := decDigits_length n.natAbs
        show 1 + ((⟨(decDigits n.natAbs).toArray⟩ : ByteArray) ++ ⟨#[]⟩).size ≤ _
        rw [ByteArray.size_append]
        show 1 + ((decDigits n.natAbs).toArray.size + 0) ≤ _
        rw [List.size_toArray, h2]
        omega
    · simp only [if_neg hn]
      rw [hw, show n % 18446744073709551616 = ((n.toNat : Nat) : Int) by omega]
      obtain ⟨k, hk⟩ := dig_loop n n.toNat ⟨#[]⟩ (by omega) (by omega) (by have := nd20 n.toNat (by omega); show 0 + _ ≤ _; omega)
      refine ⟨k + 1 + 1, ?_⟩
      simp only [causewayref01_Digits.j0]
      rw [hk 1]
      simp only [causewayref01_Digits.l0]
      rw [if_neg (by omega), if_neg hn]
      congr 1
      apply ba_ext
      unfold itoa
      rw [if_neg hn]
      simp

/-! ### Number -/
end Go.Proofs.Ytpapknmkiampgaa
