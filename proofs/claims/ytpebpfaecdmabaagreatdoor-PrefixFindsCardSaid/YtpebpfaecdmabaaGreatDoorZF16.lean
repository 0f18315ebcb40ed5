/- Parts of this proof, joined. -/
import Derived.Test.YtpebpfaecdmabaaGreatDoorZF15
import Derived.Test.YtpebpfaecdmabaaGreatDoorZF06
import Derived.Test.YtpebpfaecdmabaaGreatDoorZF09
import Derived.Test.YtpebpfaecdmabaaGreatDoorZF00
/- Plain laws of prefixes: what the printed functions answer, in one form for both sides. -/
namespace Go.Proofs.YtpebpfaecdmabaaGreatDoor.PL
open Go Go.RowKit Go.Proofs.YtpebpfaecdmabaaGreatDoorW.PrintWords Go.Proofs.YtpebpfaecdmabaaGreatDoorW.PrintLast Go.Proofs.YtpebpfaecdmabaaGreatDoorW.PrintMore PPrefixFinds

/-- The weight of the bits that a prefix of a length leaves open. -/
def wt (n : Int) : Int := 2 ^ (32 - n).toNat
def okP (a n : Int) : Bool := decide (0 ≤ n ∧ n ≤ 32 ∧ a % wt n = 0)
def befP (a n b m : Int) : Bool := decide (a < b ∨ (a = b ∧ n < m))
def covP (a n b m : Int) : Bool := okP a n && (okP b m && (decide (n ≤ m) && decide (a / wt n = b / wt n)))

theorem wt_pos (n : Int) : 0 < wt n := Int.pow_pos (by decide)
theorem mask_f {n : Int} (h0 : 0 ≤ n) (h1 : n ≤ 32) : prefix_mask.f n = some (2 ^ 32 - wt n) := by
  obtain ⟨k, rfl⟩ := Int.eq_ofNat_of_zero_le h0
  have : ∀ k : Fin 33, prefix_mask.f (k.val : Int) = some (2 ^ 32 - wt (k.val : Int)) := by decide +kernel
  exact this ⟨k, by omega⟩
theorem not_mask (k : Fin 33) : ~~~(BitVec.ofInt 32 (2 ^ 32 - wt (k.val : Int))) = BitVec.ofNat 32 (2 ^ (32 - k.val) - 1) := by
  revert k; decide +kernel
theorem is_mask (k : Fin 33) : BitVec.ofInt 32 (2 ^ 32 - wt (k.val : Int)) = BitVec.ofNat 32 ((2 ^ k.val - 1) <<< (32 - k.val)) := by
  revert k; decide +kernel
theorem wt_nat {k : Nat} (h : k ≤ 32) : wt (k : Int) = ((2 ^ (32 - k) : Nat) : Int) := by
  unfold wt
  rw [show (32 - (k : Int)).toNat = 32 - k by omega]
  simp
theorem andNot_mask {a n : Int} (ha : 0 ≤ a) (hb : a < 4294967296) (h0 : 0 ≤ n) (h1 : n ≤ 32) : bits .andNot .u32 a (2 ^ 32 - wt n) = a % wt n := by
  obtain ⟨k, rfl⟩ := Int.eq_ofNat_of_zero_le h0
  obtain ⟨a, rfl⟩ := Int.eq_ofNat_of_zero_le ha
  have hk : k ≤ 32 := by omega
  rw [wt_nat hk]
  have hm := not_mask ⟨k, by omega⟩
  simp only [wt_nat hk] at hm
  show IntKind.u32.wrap ((BitVec.ofInt 32 _ &&& ~~~(BitVec.ofInt 32 _)).toNat : Int) = _
  rw [hm, BitVec.toNat_and]
  have hp : 2 ^ (32 - k) ≤ 2 ^ 32 := Nat.pow_le_pow_right (by decide) (by omega)
  have hpos := Nat.two_pow_pos (32 - k)
  rw [BitVec.ofInt_natCast, BitVec.toNat_ofNat, BitVec.toNat_ofNat, Nat.mod_eq_of_lt (show a < 2 ^ 32 by omega), Nat.mod_eq_of_lt (by omega), Nat.and_two_pow_sub_one_eq_mod, IntKind.wrap_u32]
  have : a % 2 ^ (32 - k) ≤ a := Nat.mod_le _ _
  generalize 2 ^ (32 - k) = z at *
  rw [← Int.natCast_emod]
  omega
theorem nat_mask {a k : Nat} (hk : k ≤ 32) (ha : a < 2 ^ 32) : a &&& ((2 ^ k - 1) <<< (32 - k)) = a / 2 ^ (32 - k) * 2 ^ (32 - k) := by
  have h : a &&& ((2 ^ k - 1) <<< (32 - k)) = ((a >>> (32 - k)) &&& (2 ^ k - 1)) <<< (32 - k) := by
    apply Nat.eq_of_testBit_eq
    intro i
    simp only [Nat.testBit_and, Nat.testBit_shiftLeft, Nat.testBit_shiftRight]
    by_cases hi : 32 - k ≤ i
    · rw [show 32 - k + (i - (32 - k)) = i by omega]
      simp [hi]
    · simp [hi]
  rw [h, Nat.and_two_pow_sub_one_eq_mod, Nat.shiftRight_eq_div_pow, Nat.shiftLeft_eq]
  congr 1
  apply Nat.mod_eq_of_lt
  rw [Nat.div_lt_iff_lt_mul (Nat.two_pow_pos _), ← Nat.pow_add, show k + (32 - k) = 32 by omega]
  exact ha
theorem and_mask {a n : Int} (ha : 0 ≤ a) (hb : a < 4294967296) (h0 : 0 ≤ n) (h1 : n ≤ 32) : bits .and .u32 a (2 ^ 32 - wt n) = a / wt n * wt n := by
  obtain ⟨k, rfl⟩ := Int.eq_ofNat_of_zero_le h0
  obtain ⟨a, rfl⟩ := Int.eq_ofNat_of_zero_le ha
  have hk : k ≤ 32 := by omega
  rw [wt_nat hk]
  have hm := is_mask ⟨k, by omega⟩
  simp only [wt_nat hk] at hm
  show IntKind.u32.wrap ((BitVec.ofInt 32 _ &&& BitVec.ofInt 32 _).toNat : Int) = _
  have hp : (2 ^ k - 1) <<< (32 - k) < 2 ^ 32 := by
    rw [Nat.shiftLeft_eq]
    have h2 := Nat.two_pow_pos k
    have h3 := Nat.two_pow_pos (32 - k)
    have h4 : 2 ^ k * 2 ^ (32 - k) = 2 ^ 32 := by rw [← Nat.pow_add, show k + (32 - k) = 32 by omega]
    rw [← h4]
    exact Nat.mul_lt_mul_of_pos_right (by omega) h3
  rw [hm, BitVec.toNat_and, BitVec.ofInt_natCast, BitVec.toNat_ofNat, BitVec.toNat_ofNat, Nat.mod_eq_of_lt (show a < 2 ^ 32 by omega), Nat.mod_eq_of_lt hp, nat_mask hk (by omega), IntKind.wrap_u32]
  have h5 : a / 2 ^ (32 - k) * 2 ^ (32 - k) ≤ a := Nat.div_mul_le_self _ _
  generalize 2 ^ (32 - k) = z at *
  rw [← Int.natCast_ediv, ← Int.natCast_mul]
  omega
theorem Check_f {a n : Int} (ha : 0 ≤ a) (hb : a < 4294967296) : prefix_Check.f a n = some (if okP a n = true then 0 else 2) := by
  unfold prefix_Check.f okP
  by_cases h0 : n < 0
  · rw [if_pos h0, if_neg (by simp; omega)]
  · by_cases h1 : n > 32
    · rw [if_neg h0, if_pos h1, if_neg (by simp; omega)]
    · rw [if_neg h0, if_neg h1, mask_f (by omega) (by omega), Option.bind_some, andNot_mask ha hb (by omega) (by omega)]
      by_cases h2 : a % wt n = 0
      · rw [if_pos h2, if_pos (by simp; exact ⟨by omega, by omega, h2⟩)]
      · rw [if_neg h2, if_neg (by simp; intro _ _; exact h2)]
theorem wrap_id {x : Int} (h0 : -9223372036854775808 ≤ x) (h1 : x < 9223372036854775808) : wrap64 x = x := by unfold wrap64; omega
theorem mod_bit (a : Nat) (m : Nat) : (a % 2 ^ (m + 1) = 0) ↔ ((a / 2 ^ m) % 2 ≠ 1 ∧ a % 2 ^ m = 0) := by
  rw [Nat.mod_pow_succ]
  have h2 := Nat.two_pow_pos m
  have h3 := Nat.mod_two_eq_zero_or_one (a / 2 ^ m)
  constructor
  · intro h
    rcases h3 with h3 | h3
    · exact ⟨by omega, by omega⟩
    · rw [h3] at h; omega
  · rintro ⟨h, h'⟩
    have : a / 2 ^ m % 2 = 0 := by omega
    rw [this, h']; simp
theorem ok_l0 (a : Nat) (n : Int) : ∀ (d k : Nat) (i : Int), i + d = 32 → 0 ≤ i → d < k → causewayref06_PrefixOk.l0 k i a n = some (decide (a % 2 ^ d = 0))
  | 0, k, i, h, h0, hk => by
    obtain ⟨k, rfl⟩ : ∃ m, k = m + 1 := ⟨k - 1, by omega⟩
    simp only [causewayref06_PrefixOk.l0]
    rw [if_neg (by omega)]
    simp [Nat.mod_one]
  | d + 1, k, i, h, h0, hk => by
    obtain ⟨k, rfl⟩ : ∃ m, k = m + 1 := ⟨k - 1, by omega⟩
    simp only [causewayref06_PrefixOk.l0]
    rw [if_pos (by omega), wrap_id (x := 31 - i) (by omega) (by omega), if_pos (by omega), wrap_id (x := i + 1) (by omega) (by omega)]
    have hs : shr .u32 (a : Int) (31 - i) = ((a / 2 ^ d : Nat) : Int) := by
      unfold shr
      rw [show (31 - i).toNat = d by omega, Nat.min_eq_left (by show d ≤ 32; omega)]
      simp
    rw [hs]
    have hm := mod_bit a d
    have ht : (((a / 2 ^ d : Nat) : Int).tmod 2 = 1) ↔ (a / 2 ^ d) % 2 = 1 := by
      rw [Int.tmod_eq_emod_of_nonneg (Int.natCast_nonneg _)]; omega
    by_cases hb : (a / 2 ^ d) % 2 = 1
    · rw [if_pos (ht.2 hb)]
      congr 1
      symm
      rw [decide_eq_false_iff_not, hm]
      exact fun h => h.1 hb
    · rw [if_neg (fun h => hb (ht.1 h)), ok_l0 a n d k (i + 1) (by omega) (by omega) (by omega)]
      congr 1
      rw [decide_eq_decide, hm]
      exact ⟨fun h => ⟨hb, h⟩, fun h => h.2⟩
theorem Ok_f {a n : Int} (ha : 0 ≤ a) : causewayref06_PrefixOk.f 40 a n = some (okP a n) := by
  obtain ⟨a, rfl⟩ := Int.eq_ofNat_of_zero_le ha
  unfold causewayref06_PrefixOk.f okP
  by_cases h0 : n < 0
  · rw [if_pos h0]
    simp only [causewayref06_PrefixOk.j0]
    simp
    omega
  · rw [if_neg h0]
    by_cases h1 : n > 32
    · simp only [causewayref06_PrefixOk.j0]
      simp [h1]
      omega
    · simp only [causewayref06_PrefixOk.j0]
      rw [decide_eq_false h1, if_neg (by decide), ok_l0 a n (32 - n).toNat 39 n (by omega) (by omega) (by omega)]
      congr 1
      rw [decide_eq_decide]
      unfold wt
      have : ((a : Int) % 2 ^ (32 - n).toNat = 0) ↔ a % 2 ^ (32 - n).toNat = 0 := by
        rw [show (2 : Int) ^ (32 - n).toNat = ((2 ^ (32 - n).toNat : Nat) : Int) by simp, ← Int.natCast_emod]; omega
      rw [this]
      exact ⟨fun h => ⟨by omega, by omega, h⟩, fun h => h.2.2⟩
theorem RCheck_f {a n : Int} (ha : 0 ≤ a) : causewayref12_Check.f 40 a n = some (if okP a n = true then 0 else 2) := by
  unfold causewayref12_Check.f
  rw [Ok_f ha]
  simp only [Option.bind_some]
  split <;> rfl
theorem cmpI (a b : Int) : cmp_Compare_int.f a b = some (if a < b then -1 else if a > b then 1 else 0) := by
  unfold cmp_Compare_int.f cmp_isNaN_int.f
  simp
  split
  · rfl
  · split <;> rfl
theorem cmpU (a b : Int) : cmp_Compare_uint32.f a b = some (if a < b then -1 else if a > b then 1 else 0) := by
  unfold cmp_Compare_uint32.f cmp_isNaN_uint32.f
  simp
  split
  · rfl
  · split <;> rfl
def sgnP (a n b m : Int) : Int := if a < b then -1 else if a > b then 1 else if n < m then -1 else if n > m then 1 else 0
theorem Or_f (x y : Int) : cmp_Or_int.f 5 [x, y] = some (if x = 0 then y else x) := by
  simp only [cmp_Or_int.f, cmp_Or_int.l0, rd, List.length_cons, List.length_nil]
  simp [wrap64]
  by_cases hx : x = 0
  · simp [hx]
    intro h; exact h.symm
  · simp [hx]
theorem compare_f (a n b m : Int) : prefix_compare.f 5 a n b m = some (sgnP a n b m) := by
  unfold prefix_compare.f
  rw [cmpU, Option.bind_some, cmpI, Option.bind_some, Or_f]
  simp only [Option.bind_some]
  congr 1
  unfold sgnP
  by_cases h1 : a < b
  · simp [h1]
  · by_cases h2 : a > b
    · simp [h1, h2]
    · simp [h1, h2]
theorem sgn_lt (a n b m : Int) : decide (sgnP a n b m < 0) = befP a n b m := by
  unfold sgnP befP
  rw [decide_eq_decide]
  split
  · rename_i h; exact ⟨fun _ => .inl h, fun _ => by decide⟩
  · split
    · exact ⟨fun h => by omega, fun h => by omega⟩
    · split
      · exact ⟨fun h => by omega, fun h => by decide⟩
      · split
        · exact ⟨fun h => by omega, fun h => by omega⟩
        · exact ⟨fun h => by omega, fun h => by omega⟩
theorem Before_f (a n b m : Int) : prefix_Before.f 5 a n b m = some (befP a n b m) := by
  unfold prefix_Before.f
  rw [compare_f, Option.bind_some, sgn_lt]
theorem RBefore_f (a n b m : Int) : causewayref12_Before.f a n b m = some (befP a n b m) := by
  unfold causewayref12_Before.f causewayref06_PrefixAhead.f befP
  by_cases h1 : a < b
  · simp [h1]
  · by_cases h2 : a = b
    · simp [h2]
    · simp [h1, h2]
theorem bit_f (a : Nat) (d : Nat) (i : Int) (hd : i + d = 31) (h0 : 0 ≤ i) : causewayref12_bit.f a i = some (((a / 2 ^ d) % 2 : Nat) : Int) := by
  unfold causewayref12_bit.f
  rw [wrap_id (x := 31 - i) (by omega) (by omega), if_pos (by omega)]
  have hs : shr .u32 (a : Int) (31 - i) = ((a / 2 ^ d : Nat) : Int) := by
    unfold shr
    rw [show (31 - i).toNat = d by omega, Nat.min_eq_left (by show d ≤ 32; omega)]
    simp
  rw [hs]
  congr 1
  show IntKind.u32.wrap ((BitVec.ofInt 32 _ &&& BitVec.ofInt 32 _).toNat : Int) = _
  rw [BitVec.toNat_and, BitVec.ofInt_natCast, show BitVec.ofInt 32 1 = BitVec.ofNat 32 1 from rfl, BitVec.toNat_ofNat, BitVec.toNat_ofNat, Nat.mod_eq_of_lt (show 1 < 2 ^ 32 by decide), Nat.and_one_is_mod, IntKind.wrap_u32]
  omega
theorem cov_l0 (a b : Nat) (n m : Int) (hn : n ≤ 32) : ∀ (d k : Nat) (i : Int), i + d = n → 0 ≤ i → d < k → a / 2 ^ (32 - i).toNat = b / 2 ^ (32 - i).toNat → causewayref12_Covers.l0 k i a n b m = some (decide (a / 2 ^ (32 - n).toNat = b / 2 ^ (32 - n).toNat))
  | 0, k, i, h, h0, hk, he => by
    obtain ⟨k, rfl⟩ : ∃ m, k = m + 1 := ⟨k - 1, by omega⟩
    simp only [causewayref12_Covers.l0]
    rw [if_neg (by omega)]
    have : i = n := by omega
    subst this
    rw [decide_eq_true he]
  | d + 1, k, i, h, h0, hk, he => by
    obtain ⟨k, rfl⟩ : ∃ m, k = m + 1 := ⟨k - 1, by omega⟩
    simp only [causewayref12_Covers.l0]
    obtain ⟨e, hE⟩ : ∃ e : Nat, i + e = 31 := ⟨(31 - i).toNat, by omega⟩
    rw [if_pos (by omega), bit_f a e i hE h0, bit_f b e i hE h0, wrap_id (x := i + 1) (by omega) (by omega)]
    simp only [Option.bind_some]
    rw [show (32 - i).toNat = e + 1 by omega, Nat.pow_succ, ← Nat.div_div_eq_div_mul, ← Nat.div_div_eq_div_mul] at he
    by_cases hb : a / 2 ^ e % 2 = b / 2 ^ e % 2
    · rw [if_pos (by rw [hb]), cov_l0 a b n m hn d k (i + 1) (by omega) (by omega) (by omega) (by rw [show (32 - (i + 1)).toNat = e by omega]; omega)]
    · rw [if_neg (by omega)]
      congr 1
      symm
      rw [decide_eq_false_iff_not]
      intro hx
      apply hb
      obtain ⟨q, hq⟩ : ∃ q : Nat, e = (32 - n).toNat + q := ⟨e - (32 - n).toNat, by omega⟩
      rw [hq, Nat.pow_add, ← Nat.div_div_eq_div_mul, ← Nat.div_div_eq_div_mul, hx]
theorem RCovers_f {a n b m : Int} (ha : 0 ≤ a) (ha2 : a < 4294967296) (hb : 0 ≤ b) (hb2 : b < 4294967296) : causewayref12_Covers.f 40 a n b m = some (covP a n b m) := by
  unfold causewayref12_Covers.f
  rw [RCheck_f ha, Option.bind_some, RCheck_f hb]
  unfold covP
  by_cases h1 : okP a n = true
  · rw [if_pos h1, if_pos rfl, Option.bind_some, h1]
    by_cases h2 : okP b m = true
    · rw [if_pos h2, if_pos rfl, h2]
      have h1' := h1
      unfold okP at h1'
      simp only [decide_eq_true_eq] at h1'
      simp only [causewayref12_Covers.j0]
      by_cases h3 : n ≤ m
      · rw [decide_eq_false (by omega), if_neg (by decide), decide_eq_true h3]
        obtain ⟨a, rfl⟩ := Int.eq_ofNat_of_zero_le ha
        obtain ⟨b, rfl⟩ := Int.eq_ofNat_of_zero_le hb
        rw [cov_l0 a b n m h1'.2.1 n.toNat 39 0 (by omega) (by omega) (by omega) (by
          rw [show ((32 : Int) - 0).toNat = 32 by decide, Nat.div_eq_of_lt (by omega), Nat.div_eq_of_lt (by omega)])]
        congr 1
        simp only [Bool.true_and]
        rw [decide_eq_decide]
        unfold wt
        rw [show (2 : Int) ^ (32 - n).toNat = ((2 ^ (32 - n).toNat : Nat) : Int) by simp, ← Int.natCast_ediv, ← Int.natCast_ediv]
        omega
      · rw [decide_eq_true (show n > m by omega), if_pos rfl, decide_eq_false h3]; rfl
    · rw [if_neg h2, if_neg (by decide), Bool.eq_false_iff.2 h2]; rfl
  · rw [if_neg h1, if_neg (by decide), Bool.eq_false_iff.2 h1]; rfl
end Go.Proofs.YtpebpfaecdmabaaGreatDoor.PL
/- Contracts of both sides' Check, Before, Covers. -/
namespace Go.Proofs.YtpebpfaecdmabaaGreatDoor
open Go Go.RowKit PL

abbrev pfx (a n : Int) : Value := .agg #[.int .u32 a, .int .i64 n]
def okE (a n : Int) : Int := if okP a n = true then 0 else 2
theorem Check_pfx {a n : Int} (ha : 0 ≤ a) (ha2 : a < 4294967296) (w : World) : Calls Tryz.prog 12 #[pfx a n] w fun e w' => e = .returned (.int .i64 (okE a n)) ∧ Below w.heap.size w w' :=
  PPrefixFinds.prefix_Check.calls a n (okE a n) w (Check_f ha ha2)
theorem RCheck_pfx {a n : Int} (ha : 0 ≤ a) (w : World) : Calls Tryz.prog 16 #[pfx a n] w fun e w' => e = .returned (.int .i64 (okE a n)) ∧ Below w.heap.size w w' :=
  PPrefixFinds.causewayref12_Check.calls 40 a n (okE a n) w (RCheck_f ha)
theorem Before_pfx (a n b m : Int) (w : World) : Calls Tryz.prog 21 #[pfx a n, pfx b m] w fun e w' => e = .returned (.bool (befP a n b m)) ∧ Below w.heap.size w w' :=
  PPrefixFinds.prefix_Before.calls 5 a n b m _ w (Before_f a n b m)
theorem RBefore_pfx (a n b m : Int) (w : World) : Calls Tryz.prog 23 #[pfx a n, pfx b m] w fun e w' => e = .returned (.bool (befP a n b m)) ∧ Below w.heap.size w w' :=
  PPrefixFinds.causewayref12_Before.calls a n b m _ w (RBefore_f a n b m)
theorem RCovers_pfx {a n b m : Int} (ha : 0 ≤ a) (ha2 : a < 4294967296) (hb : 0 ≤ b) (hb2 : b < 4294967296) (w : World) : Calls Tryz.prog 18 #[pfx a n, pfx b m] w fun e w' => e = .returned (.bool (covP a n b m)) ∧ Below w.heap.size w w' :=
  PPrefixFinds.causewayref12_Covers.calls 40 a n b m _ w (RCovers_f ha ha2 hb hb2)
theorem compare_pfx (a n b m : Int) (w : World) : Calls Tryz.prog 15 #[pfx a n, pfx b m] w fun e w' => e = .returned (.int .i64 (sgnP a n b m)) ∧ Below w.heap.size w w' :=
  PPrefixFinds.prefix_compare.calls 5 a n b m _ w (compare_f a n b m)
theorem mask_int {n : Int} (h0 : 0 ≤ n) (h1 : n ≤ 32) (w : World) : Calls Tryz.prog 17 #[.int .i64 n] w fun e w' => e = .returned (.int .u32 (4294967296 - wt n)) ∧ Below w.heap.size w w' :=
  (PPrefixFinds.prefix_mask.calls n _ w (mask_f h0 h1)).mono fun _ _ h => ⟨h.1, h.2.below⟩
end Go.Proofs.YtpebpfaecdmabaaGreatDoor
/- Slices of records of some cells each. No program stands in it. -/
namespace Go.Proofs.YtpebpfaecdmabaaGreatDoor
open Go.RowKit

theorem recs_at {α : Type} (f : α → List Value) (k : Nat) (hf : ∀ x, (f x).length = k) (os : List α) : ∀ (i : Nat) (hi : i < os.length) (j : Nat), j < k → (os.flatMap f)[i * k + j]? = (f os[i])[j]? := by
  induction os with
  | nil => intro i hi; simp at hi
  | cons o os ih =>
    intro i hi j hj
    rw [List.flatMap_cons]
    cases i with
    | zero =>
      rw [List.getElem?_append_left (by rw [hf]; omega)]
      simp
    | succ i =>
      have hk : (i + 1) * k + j = k + (i * k + j) := by rw [Nat.succ_mul]; omega
      rw [List.getElem?_append_right (by rw [hf]; omega)]
      have := ih i (by simpa using hi) j hj
      simp only [List.getElem_cons_succ]
      rw [← this]
      congr 1
      rw [hf]
      omega
theorem recs_len {α : Type} (f : α → List Value) (k : Nat) (hf : ∀ x, (f x).length = k) (os : List α) : (os.flatMap f).length = os.length * k := by
  induction os with
  | nil => simp
  | cons o os ih => rw [List.flatMap_cons, List.length_append, ih, hf, List.length_cons, Nat.succ_mul]; omega
/-- v reads as the records rs of k cells each. -/
def RecS {α : Type} (f : α → List Value) (k : Nat) (w : World) (v : Value) (rs : List α) : Prop := SlR w k v rs.length (rs.flatMap f)
theorem RecS.below {α : Type} {f : α → List Value} {k : Nat} {w w' : World} {v : Value} {rs : List α} (h : RecS f k w v rs) (b : Below w.heap.size w w') : RecS f k w' v rs := SlR.below h b
theorem RecS.form {α : Type} {f : α → List Value} {k : Nat} {w : World} {v : Value} {rs : List α} (h : RecS f k w v rs) : ∃ a cap, v = .slice a rs.length cap ∧ rs.length ≤ 9223372036854775807 ∧ RecS f k w (.slice a rs.length cap) rs := SlR.form h
theorem RecS.at_ {α : Type} {f : α → List Value} {k : Nat} (hf : ∀ x, (f x).length = k) (hk : 0 < k) {w : World} {a : Option Addr} {n cap : Nat} {rs : List α} (h : RecS f k w (.slice a n cap) rs) (i : Nat) (hi : i < rs.length) :
    ∃ b off, a = some ⟨b, off, none⟩ ∧ ∀ j u, (f rs[i])[j]? = some u → w.cell? ⟨b, off + i * k + j, none⟩ = some u := by
  obtain ⟨_, _, a', cap', he, _, hc⟩ := h
  injection he with e1 e2 e3
  subst e1
  rcases hc with hc | ⟨b, off, rfl, hc⟩
  · have h1 := recs_len f k hf rs
    rw [hc] at h1
    have : 0 < rs.length * k := Nat.mul_pos (by omega) hk
    simp at h1
    omega
  · refine ⟨b, off, rfl, fun j u hu => ?_⟩
    have hj : j < k := by rw [← hf rs[i]]; exact (List.getElem?_eq_some_iff.1 hu).1
    have h1 := recs_at f k hf rs i hi j hj
    rw [hu] at h1
    have := hc _ _ h1
    rwa [← Nat.add_assoc] at this
end Go.Proofs.YtpebpfaecdmabaaGreatDoor
/- Tables of routes: plain laws. -/
namespace Go.Proofs.YtpebpfaecdmabaaGreatDoor
open Go Go.RowKit PL

/-- A route: its prefix's address and length, its metric, its owners and its next hops. -/
structure Rt where
  a : Int
  n : Int
  m : Int
  o : UInt64
  p : UInt64
  h : UInt64
  k : UInt64
def Rt.cs (r : Rt) : List Value := [.int .u32 r.a, .int .i64 r.n, .int .i64 r.m, .int .u64 (u r.o), .int .u64 (u r.p), .int .u64 (u r.h), .int .u64 (u r.k)]
abbrev rtv (r : Rt) : Value := .agg #[.int .u32 r.a, .int .i64 r.n, .int .i64 r.m, .int .u64 (u r.o), .int .u64 (u r.p), .int .u64 (u r.h), .int .u64 (u r.k)]
def Rt.zero : Rt := ⟨0, 0, 0, 0, 0, 0, 0⟩
/-- The address is of its kind. -/
def Rt.in32 (r : Rt) : Prop := 0 ≤ r.a ∧ r.a < 4294967296
theorem Rt.len (r : Rt) : r.cs.length = 7 := rfl
abbrev RtS (w : World) (v : Value) (rs : List Rt) : Prop := RecS Rt.cs 7 w v rs
/-- Is a route sound? -/
def sdR (r : Rt) : Bool := okP r.a r.n && (decide (0 ≤ r.m) && (decide (r.m < 1073741824) && !(r.o == 0 && r.p == 0)))
/-- Is the place i of a table sound? -/
def sdI (rs : List Rt) (i : Nat) : Bool := match rs[i]? with
  | none => true
  | some r => sdR r && (match i with
    | 0 => true
    | i + 1 => match rs[i]? with
      | none => true
      | some q => befP q.a q.n r.a r.n)
def sdT (rs : List Rt) : Bool := (List.range rs.length).all (sdI rs)
def sdE (rs : List Rt) : Int := if sdT rs = true then 0 else 1
theorem sdT_false {rs : List Rt} {i : Nat} (hi : i < rs.length) (h : sdI rs i = false) : sdT rs = false := by
  unfold sdT
  rw [List.all_eq_false]
  exact ⟨i, by simpa using hi, by simp [h]⟩
theorem sdT_true {rs : List Rt} (h : ∀ i, i < rs.length → sdI rs i = true) : sdT rs = true := by
  unfold sdT
  rw [List.all_eq_true]
  exact fun i hi => h i (by simpa using hi)
theorem sdT_at {rs : List Rt} (h : sdT rs = true) (i : Nat) (hi : i < rs.length) : sdI rs i = true := by
  unfold sdT at h
  rw [List.all_eq_true] at h
  exact h i (by simpa using hi)
theorem sdI_zero {rs : List Rt} (hi : 0 < rs.length) : sdI rs 0 = sdR rs[0] := by
  unfold sdI
  rw [List.getElem?_eq_getElem hi]
  simp
theorem sdI_succ {rs : List Rt} {i : Nat} (hi : i + 1 < rs.length) : sdI rs (i + 1) = (sdR rs[i + 1] && befP rs[i].a rs[i].n rs[i + 1].a rs[i + 1].n) := by
  unfold sdI
  rw [List.getElem?_eq_getElem hi]
  simp only
  rw [List.getElem?_eq_getElem (show i < rs.length by omega)]
theorem sdT_sd {rs : List Rt} (h : sdT rs = true) (i : Nat) (hi : i < rs.length) : sdR rs[i] = true := by
  have := sdT_at h i hi
  cases i with
  | zero => rwa [sdI_zero hi] at this
  | succ i =>
    rw [sdI_succ hi, Bool.and_eq_true] at this
    exact this.1
/-- The order of prefixes. -/
def ltP (a n b m : Int) : Prop := a < b ∨ (a = b ∧ n < m)
theorem ltP_trans {a n b m c k : Int} (h : ltP a n b m) (h' : ltP b m c k) : ltP a n c k := by unfold ltP at *; omega
theorem bef_lt (a n b m : Int) : befP a n b m = true ↔ ltP a n b m := by unfold befP ltP; simp
theorem sdT_lt {rs : List Rt} (h : sdT rs = true) : ∀ (d i : Nat) (hj : i + d + 1 < rs.length), ltP rs[i].a rs[i].n rs[i + d + 1].a rs[i + d + 1].n
  | 0, i, hj => by
    have := sdT_at h (i + 1) hj
    rw [sdI_succ hj, Bool.and_eq_true] at this
    exact (bef_lt _ _ _ _).1 this.2
  | d + 1, i, hj => by
    have h1 := sdT_lt h d i (by omega)
    have := sdT_at h (i + (d + 1) + 1) hj
    rw [sdI_succ hj, Bool.and_eq_true] at this
    exact ltP_trans h1 ((bef_lt _ _ _ _).1 this.2)
theorem sdT_lt' {rs : List Rt} (h : sdT rs = true) (i j : Nat) (hj : j < rs.length) (hij : i < j) : ltP rs[i].a rs[i].n rs[j].a rs[j].n := by
  obtain ⟨d, rfl⟩ : ∃ d, j = i + d + 1 := ⟨j - i - 1, by omega⟩
  exact sdT_lt h d i hj
/-- Where a prefix stands in a sound table, or would stand. -/
structure SpotP (rs : List Rt) (a n : Int) (i : Nat) (f : Bool) : Prop where
  le : i ≤ rs.length
  lo : ∀ (m : Nat) (h : m < rs.length), m < i → ltP rs[m].a rs[m].n a n
  hi : ∀ (m : Nat) (h : m < rs.length), i ≤ m → ¬ ltP rs[m].a rs[m].n a n
  hit : f = true ↔ ∃ h : i < rs.length, rs[i].a = a ∧ rs[i].n = n
theorem SpotP.none {rs : List Rt} {a n : Int} {i : Nat} (h : SpotP rs a n i false) (hs : sdT rs = true) (j : Nat) (hj : j < rs.length) : ¬ (rs[j].a = a ∧ rs[j].n = n) := by
  rintro ⟨e1, e2⟩
  by_cases h1 : j < i
  · have := h.lo j hj h1
    unfold ltP at this; omega
  · by_cases h2 : i = j
    · subst h2
      exact absurd (h.hit.2 ⟨hj, e1, e2⟩) (by decide)
    · have hi : i < rs.length := by omega
      have h3 := sdT_lt' hs i j hj (by omega)
      have h4 := h.hi i hi (Nat.le_refl _)
      rw [e1, e2] at h3
      exact h4 h3
end Go.Proofs.YtpebpfaecdmabaaGreatDoor
/- Contracts: sound of a route, Sound of a table. -/
namespace Go.Proofs.YtpebpfaecdmabaaGreatDoor
open Go Go.RowKit PL

theorem eq_b0 (o p : UInt64) (w : World) : (Op.equalIn 10000 28 (.agg #[.int .u64 (u o), .int .u64 (u p)]) (.agg #[.int .u64 0, .int .u64 0])).run Tryz.prog w = .ok ((o, p) == ((0 : UInt64), (0 : UInt64))) w := Bs.eq_bt4 o p 0 0 w
theorem okE_yes {a n : Int} (h : okP a n = true) : okE a n = 0 := by unfold okE; rw [if_pos h]
theorem okE_no {a n : Int} (h : okP a n = false) : okE a n = 2 := by unfold okE; rw [h]; rfl
set_option maxHeartbeats 4000000 in
set_option maxRecDepth 100000 in
theorem sound_any (r : Rt) (w : World) (hr : r.in32) : Calls Tryz.prog 20 #[rtv r] w fun e w' => e = .returned (.bool (sdR r)) ∧ Below w.heap.size w w' := by
  obtain ⟨a, n, m, o, p, h, k⟩ := r
  obtain ⟨ha, ha2⟩ := hr
  have hA := (Below.refl _ w).alloc (Nat.le_refl _) (.cells #[.int .u32 a, .int .i64 n, .int .i64 m, .int .u64 (u o), .int .u64 (u p), .int .u64 (u h), .int .u64 (u k)] 30)
  have c0 := box_new w #[.int .u32 a, .int .i64 n, .int .i64 m, .int .u64 (u o), .int .u64 (u p), .int .u64 (u h), .int .u64 (u k)] 30 0 _ rfl
  have c1 := box_new w #[.int .u32 a, .int .i64 n, .int .i64 m, .int .u64 (u o), .int .u64 (u p), .int .u64 (u h), .int .u64 (u k)] 30 1 _ rfl
  have c2 := box_new w #[.int .u32 a, .int .i64 n, .int .i64 m, .int .u64 (u o), .int .u64 (u p), .int .u64 (u h), .int .u64 (u k)] 30 2 _ rfl
  have c3 := box_new w #[.int .u32 a, .int .i64 n, .int .i64 m, .int .u64 (u o), .int .u64 (u p), .int .u64 (u h), .int .u64 (u k)] 30 3 _ rfl
  have c4 := box_new w #[.int .u32 a, .int .i64 n, .int .i64 m, .int .u64 (u o), .int .u64 (u p), .int .u64 (u h), .int .u64 (u k)] 30 4 _ rfl
  have he := eq_b0 o p
  go_enter Tryz.func20, Tryz.ntmps20
  go_wp2_with fail
  clear c0 c1
  refine (Check_pfx ha ha2 _).mono ?_
  rintro e w2 ⟨rfl, hb⟩
  have c2' := (hb.cell (World.block_lt_of_cell? _ _ c2)).trans c2
  have c3' := (hb.cell (World.block_lt_of_cell? _ _ c3)).trans c3
  have c4' := (hb.cell (World.block_lt_of_cell? _ _ c4)).trans c4
  have hB := hA.trans (hb.mono hA.size)
  clear c2 c3 c4 hb hA
  cases ho : okP a n
  · rw [okE_no ho]
    go_wp2_with fail
    go_ret
    exact ⟨by simp [sdR, ho], hB⟩
  · rw [okE_yes ho]
    by_cases h1 : 0 ≤ m
    · by_cases h2 : m < 1073741824
      · go_wp2_with fail
        go_ret
        exact ⟨by unfold sdR; rw [ho, show decide (0 ≤ m) = true from decide_eq_true h1, show decide (m < 1073741824) = true from decide_eq_true h2]; rfl, hB⟩
      · go_wp2_with fail
        go_ret
        exact ⟨by unfold sdR; rw [ho, show decide (0 ≤ m) = true from decide_eq_true h1, show decide (m < 1073741824) = false from decide_eq_false (by omega)]; rfl, hB⟩
    · go_wp2_with fail
      go_ret
      exact ⟨by unfold sdR; rw [ho, show decide (0 ≤ m) = false from decide_eq_false (by omega)]; rfl, hB⟩
theorem RtS.row {w : World} {b : Option Addr} {n cap : Nat} {rs : List Rt} (h : RtS w (.slice b n cap) rs) (i : Nat) (hi : i < rs.length) : ∃ k off, b = some ⟨k, off, none⟩ ∧
    w.cell? ⟨k, off + i * 7, none⟩ = some (.int .u32 rs[i].a) ∧ w.cell? ⟨k, off + i * 7 + 1, none⟩ = some (.int .i64 rs[i].n) ∧ w.cell? ⟨k, off + i * 7 + 2, none⟩ = some (.int .i64 rs[i].m) ∧
    w.cell? ⟨k, off + i * 7 + 3, none⟩ = some (.int .u64 (u rs[i].o)) ∧ w.cell? ⟨k, off + i * 7 + 4, none⟩ = some (.int .u64 (u rs[i].p)) ∧ w.cell? ⟨k, off + i * 7 + 5, none⟩ = some (.int .u64 (u rs[i].h)) ∧ w.cell? ⟨k, off + i * 7 + 6, none⟩ = some (.int .u64 (u rs[i].k)) := by
  obtain ⟨k, off, rfl, hc⟩ := h.at_ Rt.len (by decide) i hi
  exact ⟨k, off, rfl, hc 0 _ rfl, hc 1 _ rfl, hc 2 _ rfl, hc 3 _ rfl, hc 4 _ rfl, hc 5 _ rfl, hc 6 _ rfl⟩
theorem sound_is (r : Rt) (w : World) (hr : r.in32) {x : Bool} (hx : sdR r = x) : Calls Tryz.prog 20 #[rtv r] w fun e w' => e = .returned (.bool x) ∧ Below w.heap.size w w' := by
  rw [← hx]; exact sound_any r w hr
theorem Before_is {a n b m : Int} {x : Bool} (hx : befP a n b m = x) (w : World) : Calls Tryz.prog 21 #[pfx a n, pfx b m] w fun e w' => e = .returned (.bool x) ∧ Below w.heap.size w w' := by
  rw [← hx]; exact Before_pfx a n b m w
theorem sdE_no {rs : List Rt} {i : Nat} (hi : i < rs.length) (h : sdI rs i = false) : sdE rs = 1 := by
  unfold sdE; rw [sdT_false hi h]; rfl
theorem sdI_f {rs : List Rt} {i : Nat} {r : Rt} (hi : i < rs.length) (e : rs[i] = r) (h : sdR r = false) : sdI rs i = false := by
  subst e
  cases i with
  | zero => rw [sdI_zero hi, h]
  | succ i => rw [sdI_succ hi, h]; rfl
theorem sdI_0 {rs : List Rt} {r : Rt} (hi : 0 < rs.length) (e : rs[0] = r) (h : sdR r = true) : ∀ j, j < 1 → sdI rs j = true := by
  intro j hj
  obtain rfl : j = 0 := by omega
  subst e
  rw [sdI_zero hi, h]
theorem sdI_s {rs : List Rt} {i : Nat} {r s : Rt} {x : Bool} (hi : i + 1 < rs.length) (e : rs[i + 1] = r) (e2 : rs[i] = s) (h : sdR r = true) (hb : befP s.a s.n r.a r.n = x) : sdI rs (i + 1) = x := by
  subst e; subst e2
  rw [sdI_succ hi, h, hb]; rfl
theorem all_next {f : Nat → Bool} {i : Nat} (h : ∀ j, j < i → f j = true) (hi : f i = true) : ∀ j, j < i + 1 → f j = true := by
  intro j hj
  by_cases e : j = i
  · rw [e]; exact hi
  · exact h j (by omega)
set_option maxHeartbeats 4000000 in
set_option maxRecDepth 100000 in
theorem Sound_any (v : Value) (rs : List Rt) (w : World) (h : RtS w v rs) (hl : rs.length ≤ 4398046511104) (hr : ∀ r ∈ rs, r.in32) : Calls Tryz.prog 9 #[v] w fun e w' => e = .returned (.int .i64 (sdE rs)) ∧ Below w.heap.size w w' := by
  obtain ⟨b, cap, rfl, _, hc⟩ := h.form
  go_enter Tryz.func9, Tryz.ntmps9
  go_wp2_with fail
  go_loopw [7] (fun x wr => ∃ i : Nat, x = .int .i64 i ∧ i ≤ rs.length ∧ (∀ j, j < i → sdI rs j = true) ∧ Below w.heap.size w wr) (fun x _ => rs.length - (kO x).toNat)
  case atStart => exact ⟨0, rfl, Nat.zero_le _, fun j hj => by omega, Below.refl _ _⟩
  case round =>
    obtain ⟨i, rfl, hi, hall, hb⟩ := hrel
    by_cases hlt : i < rs.length
    · obtain ⟨K, off, rfl, r0, r1, r2, r3, r4, r5, r6⟩ := RtS.row (RecS.below hc hb) i hlt
      have hri := hr rs[i] (List.getElem_mem hlt)
      generalize hq : rs[i] = r at *
      have hb2 := (Below.refl _ wr).alloc (Nat.le_refl _) (.cells #[.int .u32 r.a, .int .i64 r.n, .int .i64 r.m, .int .u64 (u r.o), .int .u64 (u r.p), .int .u64 (u r.h), .int .u64 (u r.k)] 30)
      have c0 := box_new wr #[.int .u32 r.a, .int .i64 r.n, .int .i64 r.m, .int .u64 (u r.o), .int .u64 (u r.p), .int .u64 (u r.h), .int .u64 (u r.k)] 30 0 (.int .u32 r.a) rfl
      have c1 := box_new wr #[.int .u32 r.a, .int .i64 r.n, .int .i64 r.m, .int .u64 (u r.o), .int .u64 (u r.p), .int .u64 (u r.h), .int .u64 (u r.k)] 30 1 (.int .i64 r.n) rfl
      have c2 := box_new wr #[.int .u32 r.a, .int .i64 r.n, .int .i64 r.m, .int .u64 (u r.o), .int .u64 (u r.p), .int .u64 (u r.h), .int .u64 (u r.k)] 30 2 (.int .i64 r.m) rfl
      have c3 := box_new wr #[.int .u32 r.a, .int .i64 r.n, .int .i64 r.m, .int .u64 (u r.o), .int .u64 (u r.p), .int .u64 (u r.h), .int .u64 (u r.k)] 30 3 (.int .u64 (u r.o)) rfl
      have c4 := box_new wr #[.int .u32 r.a, .int .i64 r.n, .int .i64 r.m, .int .u64 (u r.o), .int .u64 (u r.p), .int .u64 (u r.h), .int .u64 (u r.k)] 30 4 (.int .u64 (u r.p)) rfl
      have c5 := box_new wr #[.int .u32 r.a, .int .i64 r.n, .int .i64 r.m, .int .u64 (u r.o), .int .u64 (u r.p), .int .u64 (u r.h), .int .u64 (u r.k)] 30 5 (.int .u64 (u r.h)) rfl
      have c6 := box_new wr #[.int .u32 r.a, .int .i64 r.n, .int .i64 r.m, .int .u64 (u r.o), .int .u64 (u r.p), .int .u64 (u r.h), .int .u64 (u r.k)] 30 6 (.int .u64 (u r.k)) rfl
      have HA := Lib.hid hall
      have HQ := Lib.hid hq
      clear hall hq hr
      go_upto_region 4 with fail
      have hT2 := RecS.below (RecS.below hc hb) hb2
      have hb3 := hb.trans (hb2.mono hb.size)
      clear r0 r1 r2 r3 r4 r5 r6 hc hb hb2
      generalize wr.heap.size = B at *
      generalize wr.alloc _ = W2 at *
      have q0 := fun n : ExtW W2 => exw_cell c0 n
      have q1 := fun n : ExtW W2 => exw_cell c1 n
      have q2 := fun n : ExtW W2 => exw_cell c2 n
      have q3 := fun n : ExtW W2 => exw_cell c3 n
      have q4 := fun n : ExtW W2 => exw_cell c4 n
      have q5 := fun n : ExtW W2 => exw_cell c5 n
      have q6 := fun n : ExtW W2 => exw_cell c6 n
      clear c0 c1 c2 c3 c4 c5 c6
      cases hsd : sdR r
      · have HSD := Lib.hid hsd
        clear hsd
        refine region_ext (by kernel_rfl) (by kernel_rfl) ?_
        repeat (go_big_quiet_step ((go_at_call 20; exact ext_call (sound_is r _ hri HSD.out))))
        refine wpQuiet_nil ?_
        rintro _ ⟨nq, rfl⟩
        clear q0 q1 q2 q3 q4 q5 q6
        go_wp2_with fail
        go_ret
        exact ⟨by rw [sdE_no hlt (sdI_f hlt HQ.out HSD.out)]; rfl, hb3.trans ((exw_below nq).mono hb3.size)⟩
      · have HSD := Lib.hid hsd
        clear hsd
        cases i with
        | zero =>
          refine region_ext (by kernel_rfl) (by kernel_rfl) ?_
          repeat (go_big_quiet_step ((go_at_call 20; exact ext_call (sound_is r _ hri HSD.out))))
          refine wpQuiet_nil ?_
          rintro _ ⟨nq, rfl⟩
          clear q0 q1 q2 q3 q4 q5 q6
          go_wp2_with fail
          go_roundw
          case rel => exact ⟨1, rfl, hlt, sdI_0 hlt HQ.out HSD.out, hb3.trans ((exw_below nq).mono hb3.size)⟩
          case measure => simp only [kO]; omega
        | succ i =>
          obtain ⟨K2, off2, e2, p0, p1, _⟩ := RtS.row hT2 i (by omega)
          obtain ⟨rfl, rfl⟩ : K2 = K ∧ off2 = off := by injection e2 with e2; injection e2 with e2 e3; exact ⟨e2.symm, e3.symm⟩
          clear e2
          generalize hq2 : rs[i] = s at *
          have HQ2 := Lib.hid hq2
          clear hq2
          have t0 := fun n : ExtW W2 => exw_cell p0 n
          have t1 := fun n : ExtW W2 => exw_cell p1 n
          clear p0 p1
          cases hbf : befP s.a s.n r.a r.n
          · have HBF := Lib.hid hbf
            clear hbf
            refine region_ext (by kernel_rfl) (by kernel_rfl) ?_
            repeat (go_big_quiet_step ((first | (go_at_call 20; exact ext_call (sound_is r _ hri HSD.out)) | (go_at_call 21; exact ext_call (Before_is HBF.out _)))))
            refine wpQuiet_nil ?_
            rintro _ ⟨nq, rfl⟩
            clear q0 q1 q2 q3 q4 q5 q6 t0 t1
            go_wp2_with fail
            go_ret
            exact ⟨by rw [sdE_no hlt (sdI_s hlt HQ.out HQ2.out HSD.out HBF.out)]; rfl, hb3.trans ((exw_below nq).mono hb3.size)⟩
          · have HBF := Lib.hid hbf
            clear hbf
            refine region_ext (by kernel_rfl) (by kernel_rfl) ?_
            repeat (go_big_quiet_step ((first | (go_at_call 20; exact ext_call (sound_is r _ hri HSD.out)) | (go_at_call 21; exact ext_call (Before_is HBF.out _)))))
            refine wpQuiet_nil ?_
            rintro _ ⟨nq, rfl⟩
            clear q0 q1 q2 q3 q4 q5 q6 t0 t1
            go_wp2_with fail
            go_roundw
            case rel => exact ⟨i + 1 + 1, by go_num, hlt, all_next HA.out (sdI_s hlt HQ.out HQ2.out HSD.out HBF.out), hb3.trans ((exw_below nq).mono hb3.size)⟩
            case measure => simp only [kO]; omega
    · have e : i = rs.length := by omega
      subst e
      have hE : sdE rs = 0 := by unfold sdE; rw [if_pos (sdT_true hall)]
      have HE := Lib.hid hE
      clear hE hall
      go_wp2_with fail
      go_ret
      exact ⟨by rw [HE.out]; rfl, hb⟩
end Go.Proofs.YtpebpfaecdmabaaGreatDoor
