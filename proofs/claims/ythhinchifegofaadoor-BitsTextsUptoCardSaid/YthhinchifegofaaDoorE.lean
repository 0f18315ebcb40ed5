/- The walks of the lookups. -/
import Derived.Test.YthhinchifegofaaDoorD
namespace Go.Proofs.YthhinchifegofaaDoor
open Go.RowKit

/-- A fact that the walk does not see. -/
structure Veil (p : Prop) : Prop where
  out : p

def hasI (s : Bt) (n : Int) : Bool := inN n && hasB s n.toNat

theorem has_word (x : UInt64) (k : Nat) : (bits .and .u64 (u x / 2 ^ k) 1 == 1) = x.toNat.testBit k := by
  have e : u x / 2 ^ k = ((x.toNat / 2 ^ k : Nat) : Int) := by
    unfold u
    simp
  have hlt : x.toNat / 2 ^ k < 18446744073709551616 := Nat.lt_of_le_of_lt (Nat.div_le_self _ _) (UInt64.toNat_lt x)
  have h := u64_and_nat (x.toNat / 2 ^ k) 1 hlt (by decide)
  rw [e, show (1 : Int) = ((1 : Nat) : Int) from rfl, h, Nat.and_one_is_mod, Nat.testBit_eq_decide_div_mod_eq, Bool.eq_iff_iff, beq_iff_eq, decide_eq_true_eq]
  omega
theorem hasI_low (s : Bt) (n : Int) (hin : inN n = true) (h : n < 64) : hasI s n = s.1.toNat.testBit n.toNat := by
  have := inN_lt hin
  unfold hasI hasB
  rw [hin, if_pos (by omega)]
  rfl
theorem hasI_high (s : Bt) (n m : Int) (hin : inN n = true) (h : ¬ n < 64) (hm : n - 64 = m) : hasI s n = s.2.toNat.testBit m.toNat := by
  have := inN_lt hin
  unfold hasI hasB
  rw [hin, if_neg (by omega), show n.toNat - 64 = m.toNat by omega]
  rfl

set_option maxHeartbeats 1000000 in
theorem refHas_low (s : Bt) (n : Int) (hin : inN n = true) (h64 : n < 64) (w : World) :
    Calls Tryd.prog 26 #[bv s, .int .i64 n] w fun e w' => e = .returned (.bool (hasI s n)) ∧ Below w.heap.size w w' := by
  have hh := inN_lt hin
  have h0 : 0 ≤ n := hh.1
  have h1 : n ≤ 127 := by omega
  have h0' : decide (n < 0) = false := by simpa using h0
  obtain ⟨m, hm⟩ : ∃ m, n - 0 = m := ⟨_, rfl⟩
  have hm0 : 0 ≤ m := by omega
  have hm1 : m ≤ 63 := by omega
  have hq : n.tdiv 64 = 0 := by rw [Int.tdiv_eq_ediv_of_nonneg h0]; omega
  have hr : n.tmod 64 = m := by rw [Int.tmod_eq_emod_of_nonneg h0]; omega
  obtain ⟨R, hR⟩ : ∃ R, hasI s n = R := ⟨_, rfl⟩
  rw [hR]
  have key : Veil (R = decide (s.1.toNat / 2 ^ m.toNat % 2 = 1)) := by
    refine ⟨?_⟩
    rw [← hR, hasI_low s n hin h64, show n.toNat = m.toNat by omega, Nat.testBit_eq_decide_div_mod_eq]
  go_enter Tryd.func26, Tryd.ntmps26
  go_wp2
  go_loop [5, 6] (fun v i => ∃ k q : Nat, (k : Int) ≤ m ∧ (q ≤ 18446744073709551615 ∧ Veil (q = s.1.toNat / 2 ^ k)) ∧ i = .int .i64 k ∧ v = .int .u64 q) (fun _ i => m.toNat - (intOf i).toNat)
  case atStart => exact ⟨0, s.1.toNat, by omega, ⟨by have := UInt64.toNat_lt s.1; omega, ⟨by simp⟩⟩, rfl, rfl⟩
  case round =>
    obtain ⟨k, q, hk, ⟨hq1, hqk⟩, rfl, rfl⟩ := hrel
    have e1 : IntKind.u64.wrap ((q : Int).tdiv 2) = ((q / 2 : Nat) : Int) := by rw [← wrap_nat (q / 2) (by omega)]; rfl
    have e2 : IntKind.u64.wrap ((q : Int).tmod 2) = ((q % 2 : Nat) : Int) := by rw [← wrap_nat (q % 2) (by omega)]; rfl
    by_cases hlt : (k : Int) < m
    · go_wp2
      go_round
      case rel => exact ⟨k + 1, q / 2, by omega, ⟨by omega, ⟨by rw [hqk.out, Nat.div_div_eq_div_mul, Nat.pow_succ]⟩⟩, by go_num, rfl⟩
      case measure => simp [intOf]; omega
    · go_wp2
      go_ret
      have hkm : k = m.toNat := by omega
      refine ⟨ret_bool ?_, (Below.refl _ _).alloc (Nat.le_refl _) _⟩
      rw [key.out, ← hkm, ← hqk.out, Bool.eq_iff_iff, beq_iff_eq, decide_eq_true_eq]
      omega

set_option maxHeartbeats 1000000 in
theorem refHas_high (s : Bt) (n : Int) (hin : inN n = true) (h64 : ¬ n < 64) (w : World) :
    Calls Tryd.prog 26 #[bv s, .int .i64 n] w fun e w' => e = .returned (.bool (hasI s n)) ∧ Below w.heap.size w w' := by
  have hh := inN_lt hin
  have h0 : 0 ≤ n := hh.1
  have h1 : n ≤ 127 := by omega
  have h0' : decide (n < 0) = false := by simpa using h0
  obtain ⟨m, hm⟩ : ∃ m, n - 64 = m := ⟨_, rfl⟩
  have hm0 : 0 ≤ m := by omega
  have hm1 : m ≤ 63 := by omega
  have hq : n.tdiv 64 = 1 := by rw [Int.tdiv_eq_ediv_of_nonneg h0]; omega
  have hr : n.tmod 64 = m := by rw [Int.tmod_eq_emod_of_nonneg h0]; omega
  obtain ⟨R, hR⟩ : ∃ R, hasI s n = R := ⟨_, rfl⟩
  rw [hR]
  have key : Veil (R = decide (s.2.toNat / 2 ^ m.toNat % 2 = 1)) := by
    refine ⟨?_⟩
    rw [← hR, hasI_high s n m hin h64 hm, Nat.testBit_eq_decide_div_mod_eq]
  go_enter Tryd.func26, Tryd.ntmps26
  go_wp2
  go_loop [5, 6] (fun v i => ∃ k q : Nat, (k : Int) ≤ m ∧ (q ≤ 18446744073709551615 ∧ Veil (q = s.2.toNat / 2 ^ k)) ∧ i = .int .i64 k ∧ v = .int .u64 q) (fun _ i => m.toNat - (intOf i).toNat)
  case atStart => exact ⟨0, s.2.toNat, by omega, ⟨by have := UInt64.toNat_lt s.2; omega, ⟨by simp⟩⟩, rfl, rfl⟩
  case round =>
    obtain ⟨k, q, hk, ⟨hq1, hqk⟩, rfl, rfl⟩ := hrel
    have e1 : IntKind.u64.wrap ((q : Int).tdiv 2) = ((q / 2 : Nat) : Int) := by rw [← wrap_nat (q / 2) (by omega)]; rfl
    have e2 : IntKind.u64.wrap ((q : Int).tmod 2) = ((q % 2 : Nat) : Int) := by rw [← wrap_nat (q % 2) (by omega)]; rfl
    by_cases hlt : (k : Int) < m
    · go_wp2
      go_round
      case rel => exact ⟨k + 1, q / 2, by omega, ⟨by omega, ⟨by rw [hqk.out, Nat.div_div_eq_div_mul, Nat.pow_succ]⟩⟩, by go_num, rfl⟩
      case measure => simp [intOf]; omega
    · go_wp2
      go_ret
      have hkm : k = m.toNat := by omega
      refine ⟨ret_bool ?_, (Below.refl _ _).alloc (Nat.le_refl _) _⟩
      rw [key.out, ← hkm, ← hqk.out, Bool.eq_iff_iff, beq_iff_eq, decide_eq_true_eq]
      omega

set_option maxHeartbeats 1000000 in
theorem refHas_any (s : Bt) (n : Int) (w : World) :
    Calls Tryd.prog 26 #[bv s, .int .i64 n] w fun e w' => e = .returned (.bool (hasI s n)) ∧ Below w.heap.size w w' := by
  by_cases h0 : 0 ≤ n
  · have h0' : decide (n < 0) = false := by simpa using h0
    by_cases h1 : n ≤ 127
    · have hin : inN n = true := by simp [inN, h0, h1]
      by_cases h64 : n < 64
      · exact refHas_low s n hin h64 w
      · exact refHas_high s n hin h64 w
    · have hin : inN n = false := by simp [inN]; omega
      go_enter Tryd.func26, Tryd.ntmps26
      go_wp2
      go_ret
      exact ⟨ret_bool (by simp [hasI, hin]), (Below.refl _ _).alloc (Nat.le_refl _) _⟩
  · have h0' : decide (n < 0) = true := by simp; omega
    have hin : inN n = false := by simp [inN]; omega
    go_enter Tryd.func26, Tryd.ntmps26
    go_wp2
    go_ret
    exact ⟨ret_bool (by simp [hasI, hin]), (Below.refl _ _).alloc (Nat.le_refl _) _⟩
end Go.Proofs.YthhinchifegofaaDoor
