/- Cutting the text of a prefix: plain lists. -/
import Derived.Test.YtcociflljbaicaaDoorC
import Derived.Lib.SplitLaws
namespace Go.Proofs.YtcociflljbaicaaDoor
open Go.Lib

theorem index_hit (s : UInt8) (y : List UInt8) : ∀ (x : List UInt8), (∀ c ∈ x, c ≠ s) → index (x ++ s :: y) [s] = (x.length : Int)
  | [], _ => by simp [index]
  | b :: x, h => by
    have ih := index_hit s y x fun c hc => h c (List.mem_cons_of_mem _ hc)
    have hb : (s == b) = false := beq_eq_false_iff_ne.2 fun e => h b List.mem_cons_self e.symm
    rw [List.cons_append, index]
    simp only [List.isPrefixOf, hb, Bool.false_and]
    rw [ih]
    rw [if_neg (by decide), if_neg (by simp)]
    simp
theorem cut_hit (s : UInt8) (x y : List UInt8) (h : ∀ c ∈ x, c ≠ s) : cut (x ++ s :: y) [s] = (x, y, true) := by
  unfold cut
  rw [index_hit s y x h, if_pos (by omega)]
  simp
theorem splitK_hit (s : UInt8) (k : Nat) (x y : List UInt8) (h : ∀ c ∈ x, c ≠ s) : splitK [s] 0 (k + 1) (x ++ s :: y) = x :: splitK [s] 0 k y := by
  rw [splitK, index_hit s y x h, if_neg (by simp)]
  simp
theorem bs_self (x : ByteArray) : bs x.data.toList = x := by
  apply ba_ext
  rfl
theorem map_bs {ws : List ByteArray} {L : List (List UInt8)} (h : ws.map (·.data.toList) = L) : ws = L.map bs := by
  rw [← h, List.map_map]
  conv => lhs; rw [← List.map_id ws]
  apply List.map_congr_left
  intro x _
  exact (bs_self x).symm
theorem oct_no (a k : Nat) (s : UInt8) (hs : s.toNat < 48) : ∀ c ∈ oct a k, c ≠ s := by
  intro c hc e
  subst e
  unfold oct at hc
  rw [itoa_nonneg] at hc
  have := decDigits_dig _ _ hc
  unfold dig at this
  omega
/-- The address part. -/
def adrL (a : Nat) : List UInt8 := oct a 24 ++ 46 :: (oct a 16 ++ 46 :: (oct a 8 ++ 46 :: oct a 0))
theorem pfxL_eq (a : Nat) (n : Int) : pfxL a n = adrL a ++ 47 :: itoa n := by simp [pfxL, adrL]
theorem adr_no (a : Nat) : ∀ c ∈ adrL a, c ≠ 47 := by
  intro c hc
  simp only [adrL, List.mem_append, List.mem_cons] at hc
  rcases hc with h | rfl | h | rfl | h | rfl | h
  · exact oct_no _ _ _ (by decide) c h
  · decide
  · exact oct_no _ _ _ (by decide) c h
  · decide
  · exact oct_no _ _ _ (by decide) c h
  · decide
  · exact oct_no _ _ _ (by decide) c h
theorem cut_pfx (a : Nat) (n : Int) : cut (pfxL a n) [47] = (adrL a, itoa n, true) := by
  rw [pfxL_eq]
  exact cut_hit _ _ _ (adr_no a)
theorem oct_count (a k : Nat) : (oct a k).count 46 = 0 := List.count_eq_zero.2 fun h => oct_no a k 46 (by decide) 46 h rfl
theorem adr_count (a : Nat) : count (adrL a) [46] = 3 := by
  rw [count_one]
  simp [adrL, List.count_append, oct_count]
theorem adr_split (a : Nat) : splitK [46] 0 3 (adrL a) = [oct a 24, oct a 16, oct a 8, oct a 0] := by
  unfold adrL
  rw [splitK_hit _ _ _ _ (oct_no _ _ _ (by decide)), splitK_hit _ _ _ _ (oct_no _ _ _ (by decide)), splitK_hit _ _ _ _ (oct_no _ _ _ (by decide)), splitK]
theorem adr_words (a : Nat) : splitB (bs [46]) 0 (countB (bs (adrL a)) (bs [46])) (bs (adrL a)) = [bs (oct a 24), bs (oct a 16), bs (oct a 8), bs (oct a 0)] := by
  have e : countB (bs (adrL a)) (bs [46]) = 3 := adr_count a
  rw [e]
  exact map_bs (L := [oct a 24, oct a 16, oct a 8, oct a 0]) ((splitB_data _ _ _ _).trans (adr_split a))
theorem oct_atoi (a k : Nat) : atoiAll (bs (oct a k)).data.toList = .ok ((a / 2 ^ k % 256 : Nat) : Int) := by
  have h : a / 2 ^ k % 256 < 256 := Nat.mod_lt _ (by decide)
  show atoiAll (itoa ((a / 2 ^ k % 256 : Nat) : Int)) = _
  generalize a / 2 ^ k % 256 = v at h
  exact atoi_itoa (v : Int) (by omega) (by omega)

/-- A byte behind an address. -/
def put8 (A : Nat) (n : Int) : Nat := A * 256 % 4294967296 + (n % 256).toNat
theorem put8_lt (A : Nat) (n : Int) : put8 A n < 4294967296 := by unfold put8; omega
theorem put8_val (A : Nat) (n : Int) : Go.bits .or .u32 (IntKind.u32.wrap ((A : Int) * 256)) (Go.bits .and .u32 (IntKind.u32.wrap n) 255) = (put8 A n : Int) := by
  have h1 := bits_mask .u32 32 (by decide) wraps_u32 8 (by decide) (IntKind.u32.wrap n) (by rw [IntKind.wrap_u32]; omega) (by rw [IntKind.wrap_u32]; omega)
  rw [show ((2 : Int) ^ 8 - 1) = 255 by decide] at h1
  rw [h1, bits_join .u32 32 (by decide) wraps_u32 8 _ _ (by rw [IntKind.wrap_u32]; omega) (by rw [IntKind.wrap_u32]; omega) (by rw [IntKind.wrap_u32]; omega) (by omega) (by omega) (by omega), IntKind.wrap_u32, IntKind.wrap_u32]
  unfold put8
  omega
/-- The address behind i bytes. -/
def part (a i : Nat) : Nat := a / 2 ^ (32 - 8 * i)
theorem part_next (a : Nat) (ha : a < 4294967296) (i : Nat) (hi : i < 4) : put8 (part a i) ((a / 2 ^ (24 - 8 * i) % 256 : Nat) : Int) = part a (i + 1) := by
  have h : i = 0 ∨ i = 1 ∨ i = 2 ∨ i = 3 := by omega
  unfold put8 part
  rcases h with rfl | rfl | rfl | rfl <;> simp <;> omega
end Go.Proofs.YtcociflljbaicaaDoor
