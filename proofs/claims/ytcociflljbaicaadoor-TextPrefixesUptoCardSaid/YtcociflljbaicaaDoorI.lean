/- The reference's ReadPrefix answers as the program's. -/
import Derived.Test.YtcociflljbaicaaDoorH
namespace Go.Proofs.YtcociflljbaicaaDoor
open Go.RowKit (wrap64)
open Go.Lib Go.Proofs.YtcociflljbaicaaDoor.PTextPrefixes Go.Proofs.YtcociflljbaicaaDoorW.PrintWords Go.Proofs.YtcociflljbaicaaDoorW.PrintMore

theorem oct_len3 (a k : Nat) : (oct a k).length ≤ 3 := by
  unfold oct
  have h : a / 2 ^ k % 256 < 256 := Nat.mod_lt _ (by decide)
  generalize a / 2 ^ k % 256 = v at h
  have : ∀ v : Nat, v < 256 → (itoa (v : Int)).length ≤ 3 := by decide +kernel
  exact this v h
theorem itoa_len2 (n : Int) (h : 0 ≤ n ∧ n ≤ 32) : (itoa n).length ≤ 2 := by
  obtain ⟨v, rfl⟩ := Int.eq_ofNat_of_zero_le h.1
  have : ∀ v : Nat, v < 33 → (itoa (v : Int)).length ≤ 2 := by decide +kernel
  exact this v (by omega)
theorem pfx_len (a : Nat) (n : Int) (h : snd a n = true) : (pfxL a n).length ≤ 18 := by
  have h0 := oct_len3 a 24
  have h1 := oct_len3 a 16
  have h2 := oct_len3 a 8
  have h3 := oct_len3 a 0
  have h4 := itoa_len2 n (snd_bd h)
  simp [pfxL]
  omega
theorem itoa_no47 (n : Int) (h : 0 ≤ n) : ∀ c ∈ itoa n, c ≠ 47 := by
  obtain ⟨v, rfl⟩ := Int.eq_ofNat_of_zero_le h
  intro c hc e
  subst e
  change (47 : UInt8) ∈ itoa ((v : Nat) : Int) at hc
  rw [itoa_nonneg] at hc
  have := decDigits_dig _ _ hc
  revert this
  unfold dig
  decide
theorem good_halves (a : Nat) (n : Int) (h : snd a n = true) : cutA 47 [] (pfxL a n) = [adrL a, itoa n] := by
  rw [pfxL_eq, cutA_hit _ _ _ _ (adr_no a), cutA_plain _ _ _ (itoa_no47 n (snd_bd h).1)]
  simp
theorem good_bytes (a : Nat) : cutA 46 [] (adrL a) = [oct a 24, oct a 16, oct a 8, oct a 0] := by
  unfold adrL
  rw [cutA_hit _ _ _ _ (oct_no _ _ _ (by decide)), cutA_hit _ _ _ _ (oct_no _ _ _ (by decide)), cutA_hit _ _ _ _ (oct_no _ _ _ (by decide)), cutA_plain _ _ _ (oct_no _ _ _ (by decide))]
  simp
theorem pfx_inj {a a' : Nat} {n n' : Int} (ha : a < 4294967296) (ha' : a' < 4294967296) (h : snd a n = true) (h' : snd a' n' = true) (e : pfxL a n = pfxL a' n') : a = a' ∧ n = n' := by
  have e1 := good_halves a n h
  rw [e, good_halves a' n' h'] at e1
  simp only [List.cons.injEq, and_true] at e1
  have e2 := good_bytes a
  rw [← e1.1, good_bytes a'] at e2
  simp only [List.cons.injEq, and_true] at e2
  obtain ⟨o1, o2, o3, o4⟩ := e2
  have i1 := itoa_inj o1
  have i2 := itoa_inj o2
  have i3 := itoa_inj o3
  have i4 := itoa_inj o4
  have i5 := itoa_inj e1.2
  refine ⟨?_, i5.symm⟩
  simp only [Nat.reducePow] at i1 i2 i3 i4
  omega
theorem RP.unique {l : List UInt8} {a a' : Nat} {n n' e e' : Int} (h : RP l a n e) (h' : RP l a' n' e') : a = a' ∧ n = n' ∧ e = e' := by
  rcases h with ⟨h1, h2, h3, h4⟩ | ⟨h1, h2, h3, h4⟩ <;> rcases h' with ⟨k1, k2, k3, k4⟩ | ⟨k1, k2, k3, k4⟩
  · have := pfx_inj h3 k3 h2 k2 (h4 ▸ k4)
    exact ⟨this.1, this.2, by omega⟩
  · exact absurd h4 (k4 a n h3 h2)
  · exact absurd k4 (h4 a' n' k3 k2)
  · exact ⟨by omega, by omega, by omega⟩

theorem rl_step (k : Nat) (x4 ys : List ByteArray) (A i : Nat) (hA : A < 16777216) (hi : i < 4) (hy : ys.length = 4) (q : Int) (b : Bool) (hn : causewayref01_Number.f k (ys.getD i ByteArray.empty) = some (q, b)) :
    causewayref07_ReadPrefix.l0 (k + 1) x4 ys (A : Int) (i : Int) = if b = true ∧ 0 ≤ q ∧ q ≤ 255 then causewayref07_ReadPrefix.l0 k x4 ys ((A * 256 + q.toNat : Nat) : Int) ((i + 1 : Nat) : Int) else some (0, 0, 11) := by
  rw [causewayref07_ReadPrefix.l0, if_pos (by omega), if_pos (by omega), if_pos (by omega)]
  unfold rdOf
  rw [Int.toNat_natCast, hn]
  simp only [Option.bind_some]
  by_cases hb : b = true
  · rw [if_pos hb]
    by_cases h0 : q < 0
    · rw [if_pos h0, if_neg (by omega)]
    · rw [if_neg h0]
      by_cases h1 : q > 255
      · rw [if_pos h1, if_neg (by omega)]
      · rw [if_neg h1, if_pos ⟨hb, by omega, by omega⟩]
        have w1 : wrap64 (wrap64 ((A : Int) * 256) + q) = ((A * 256 + q.toNat : Nat) : Int) := by
          unfold wrap64
          omega
        have w2 : wrap64 ((i : Int) + 1) = ((i + 1 : Nat) : Int) := by unfold wrap64; omega
        rw [w1, w2]
  · rw [if_neg hb, if_neg (fun h => hb h.1)]
theorem rl_end (k : Nat) (hk : 40 ≤ k) (h0 h1 : ByteArray) (ys : List ByteArray) (A : Nat) (hA : A < 4294967296) (q : Int) (b : Bool) (hn : causewayref01_Number.f k h1 = some (q, b)) :
    causewayref07_ReadPrefix.l0 (k + 1) [h0, h1] ys (A : Int) ((4 : Nat) : Int) = if b = true ∧ snd A q = true then some ((A : Int), q, 0) else some (0, 0, 11) := by
  rw [causewayref07_ReadPrefix.l0, if_neg (by omega), if_pos (by simp)]
  unfold rdOf
  rw [show [h0, h1].getD (1 : Int).toNat ByteArray.empty = h1 from rfl, hn]
  simp only [Option.bind_some]
  have hp := lift_k (causewayref06_PrefixOk.mono (A : Int) q) (prefixOk_plain A hA q) k hk
  rw [show ((A : Int)) % 4294967296 = (A : Int) by omega, hp]
  cases b <;> simp
theorem num_get (y : List UInt8) : ∃ k q b, (∀ j, k ≤ j → causewayref01_Number.f j (bs y) = some (q, b)) ∧ NumR y q b := by
  obtain ⟨k, q, b, h1, h2⟩ := num_any (bs y)
  exact ⟨k, q, b, lift_k (causewayref01_Number.mono (bs y)) h1, h2⟩
end Go.Proofs.YtcociflljbaicaaDoor
