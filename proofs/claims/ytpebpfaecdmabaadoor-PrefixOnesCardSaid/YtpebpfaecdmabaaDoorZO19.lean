/- Parts of this proof, joined. -/
import Derived.Test.YtpebpfaecdmabaaDoorZO18
import Derived.Test.YtpebpfaecdmabaaDoorZO13
import Derived.Test.YtpebpfaecdmabaaDoorRows
import Derived.ProofKit
import Derived.LaidMore
import Derived.OpenShut
import Derived.Stop.Joined
import Derived.ChangeSame
/- Plain laws of prefixes: what the printed functions answer, in one form for both sides. -/
namespace Go.Proofs.YtpebpfaecdmabaaDoor.PL
open Go Go.RowKit Go.Proofs.YtpebpfaecdmabaaDoorW.PrintWords Go.Proofs.YtpebpfaecdmabaaDoorW.PrintLast Go.Proofs.YtpebpfaecdmabaaDoorW.PrintMore PPrefixOnes

/-- The weight of the bits that a prefix of a length leaves open. -/
def wt (n : Int) : Int := 2 ^ (32 - n).toNat
def okP (a n : Int) : Bool := decide (0 ≤ n ∧ n ≤ 32 ∧ a % wt n = 0)
def befP (a n b m : Int) : Bool := decide (a < b ∨ (a = b ∧ n < m))
def covP (a n b m : Int) : Bool := okP a n && (okP b m && (decide (n ≤ m) && decide (a / wt n = b / wt n)))

theorem wt_pos (n : Int) : 0 < wt n := Int.pow_pos (by decide)
theorem mask_f {n : Int} (h0 : 0 ≤ n) (h1 : n ≤ 32) : prefix_mask.f n = some (2 ^ 32 - wt n) := by
  obtain ⟨k, rfl⟩ := Int.eq_ofNat_of_zero_le h0
  have : ∀ k : Fin 33, prefix_mask.f (k.val : Int) = some (2 ^ 32 - wt (k.val : Int)) := by decide +kernel
  exact this ⟨k, by omega⟩
theorem not_mask (k : Fin 33) : ~~~(BitVec.ofInt 32 (2 ^ 32 - wt (k.val : Int))) = BitVec.ofNat 32 (2 ^ (32 - k.val) - 1) := by
  revert k; decide +kernel
theorem is_mask (k : Fin 33) : BitVec.ofInt 32 (2 ^ 32 - wt (k.val : Int)) = BitVec.ofNat 32 ((2 ^ k.val - 1) <<< (32 - k.val)) := by
  revert k; decide +kernel
theorem wt_nat {k : Nat} (h : k ≤ 32) : wt (k : Int) = ((2 ^ (32 - k) : Nat) : Int) := by
  unfold wt
  rw [show (32 - (k : Int)).toNat = 32 - k by omega]
  simp
theorem andNot_mask {a n : Int} (ha : 0 ≤ a) (hb : a < 4294967296) (h0 : 0 ≤ n) (h1 : n ≤ 32) : bits .andNot .u32 a (2 ^ 32 - wt n) = a % wt n := by
  obtain ⟨k, rfl⟩ := Int.eq_ofNat_of_zero_le h0
  obtain ⟨a, rfl⟩ := Int.eq_ofNat_of_zero_le ha
  have hk : k ≤ 32 := by omega
  rw [wt_nat hk]
  have hm := not_mask ⟨k, by omega⟩
  simp only [wt_nat hk] at hm
  show IntKind.u32.wrap ((BitVec.ofInt 32 _ &&& ~~~(BitVec.ofInt 32 _)).toNat : Int) = _
  rw [hm, BitVec.toNat_and]
  have hp : 2 ^ (32 - k) ≤ 2 ^ 32 := Nat.pow_le_pow_right (by decide) (by omega)
  have hpos := Nat.two_pow_pos (32 - k)
  rw [BitVec.ofInt_natCast, BitVec.toNat_ofNat, BitVec.toNat_ofNat, Nat.mod_eq_of_lt (show a < 2 ^ 32 by omega), Nat.mod_eq_of_lt (by omega), Nat.and_two_pow_sub_one_eq_mod, IntKind.wrap_u32]
  have : a % 2 ^ (32 - k) ≤ a := Nat.mod_le _ _
  generalize 2 ^ (32 - k) = z at *
  rw [← Int.natCast_emod]
  omega
theorem nat_mask {a k : Nat} (hk : k ≤ 32) (ha : a < 2 ^ 32) : a &&& ((2 ^ k - 1) <<< (32 - k)) = a / 2 ^ (32 - k) * 2 ^ (32 - k) := by
  have h : a &&& ((2 ^ k - 1) <<< (32 - k)) = ((a >>> (32 - k)) &&& (2 ^ k - 1)) <<< (32 - k) := by
    apply Nat.eq_of_testBit_eq
    intro i
    simp only [Nat.testBit_and, Nat.testBit_shiftLeft, Nat.testBit_shiftRight]
    by_cases hi : 32 - k ≤ i
    · rw [show 32 - k + (i - (32 - k)) = i by omega]
      simp [hi]
    · simp [hi]
  rw [h, Nat.and_two_pow_sub_one_eq_mod, Nat.shiftRight_eq_div_pow, Nat.shiftLeft_eq]
  congr 1
  apply Nat.mod_eq_of_lt
  rw [Nat.div_lt_iff_lt_mul (Nat.two_pow_pos _), ← Nat.pow_add, show k + (32 - k) = 32 by omega]
  exact ha
theorem and_mask {a n : Int} (ha : 0 ≤ a) (hb : a < 4294967296) (h0 : 0 ≤ n) (h1 : n ≤ 32) : bits .and .u32 a (2 ^ 32 - wt n) = a / wt n * wt n := by
  obtain ⟨k, rfl⟩ := Int.eq_ofNat_of_zero_le h0
  obtain ⟨a, rfl⟩ := Int.eq_ofNat_of_zero_le ha
  have hk : k ≤ 32 := by omega
  rw [wt_nat hk]
  have hm := is_mask ⟨k, by omega⟩
  simp only [wt_nat hk] at hm
  show IntKind.u32.wrap ((BitVec.ofInt 32 _ &&& BitVec.ofInt 32 _).toNat : Int) = _
  have hp : (2 ^ k - 1) <<< (32 - k) < 2 ^ 32 := by
    rw [Nat.shiftLeft_eq]
    have h2 := Nat.two_pow_pos k
    have h3 := Nat.two_pow_pos (32 - k)
    have h4 : 2 ^ k * 2 ^ (32 - k) = 2 ^ 32 := by rw [← Nat.pow_add, show k + (32 - k) = 32 by omega]
    rw [← h4]
    exact Nat.mul_lt_mul_of_pos_right (by omega) h3
  rw [hm, BitVec.toNat_and, BitVec.ofInt_natCast, BitVec.toNat_ofNat, BitVec.toNat_ofNat, Nat.mod_eq_of_lt (show a < 2 ^ 32 by omega), Nat.mod_eq_of_lt hp, nat_mask hk (by omega), IntKind.wrap_u32]
  have h5 : a / 2 ^ (32 - k) * 2 ^ (32 - k) ≤ a := Nat.div_mul_le_self _ _
  generalize 2 ^ (32 - k) = z at *
  rw [← Int.natCast_ediv, ← Int.natCast_mul]
  omega
theorem Check_f {a n : Int} (ha : 0 ≤ a) (hb : a < 4294967296) : prefix_Check.f a n = some (if okP a n = true then 0 else 2) := by
  unfold prefix_Check.f okP
  by_cases h0 : n < 0
  · rw [if_pos h0, if_neg (by simp; omega)]
  · by_cases h1 : n > 32
    · rw [if_neg h0, if_pos h1, if_neg (by simp; omega)]
    · rw [if_neg h0, if_neg h1, mask_f (by omega) (by omega), Option.bind_some, andNot_mask ha hb (by omega) (by omega)]
      by_cases h2 : a % wt n = 0
      · rw [if_pos h2, if_pos (by simp; exact ⟨by omega, by omega, h2⟩)]
      · rw [if_neg h2, if_neg (by simp; intro _ _; exact h2)]
theorem wrap_id {x : Int} (h0 : -9223372036854775808 ≤ x) (h1 : x < 9223372036854775808) : wrap64 x = x := by unfold wrap64; omega
theorem mod_bit (a : Nat) (m : Nat) : (a % 2 ^ (m + 1) = 0) ↔ ((a / 2 ^ m) % 2 ≠ 1 ∧ a % 2 ^ m = 0) := by
  rw [Nat.mod_pow_succ]
  have h2 := Nat.two_pow_pos m
  have h3 := Nat.mod_two_eq_zero_or_one (a / 2 ^ m)
  constructor
  · intro h
    rcases h3 with h3 | h3
    · exact ⟨by omega, by omega⟩
    · rw [h3] at h; omega
  · rintro ⟨h, h'⟩
    have : a / 2 ^ m % 2 = 0 := by omega
    rw [this, h']; simp
theorem ok_l0 (a : Nat) (n : Int) : ∀ (d k : Nat) (i : Int), i + d = 32 → 0 ≤ i → d < k → causewayref06_PrefixOk.l0 k i a n = some (decide (a % 2 ^ d = 0))
  | 0, k, i, h, h0, hk => by
    obtain ⟨k, rfl⟩ : ∃ m, k = m + 1 := ⟨k - 1, by omega⟩
    simp only [causewayref06_PrefixOk.l0]
    rw [if_neg (by omega)]
    simp [Nat.mod_one]
  | d + 1, k, i, h, h0, hk => by
    obtain ⟨k, rfl⟩ : ∃ m, k = m + 1 := ⟨k - 1, by omega⟩
    simp only [causewayref06_PrefixOk.l0]
    rw [if_pos (by omega), wrap_id (x := 31 - i) (by omega) (by omega), if_pos (by omega), wrap_id (x := i + 1) (by omega) (by omega)]
    have hs : shr .u32 (a : Int) (31 - i) = ((a / 2 ^ d : Nat) : Int) := by
      unfold shr
      rw [show (31 - i).toNat = d by omega, Nat.min_eq_left (by show d ≤ 32; omega)]
      simp
    rw [hs]
    have hm := mod_bit a d
    have ht : (((a / 2 ^ d : Nat) : Int).tmod 2 = 1) ↔ (a / 2 ^ d) % 2 = 1 := by
      rw [Int.tmod_eq_emod_of_nonneg (Int.natCast_nonneg _)]; omega
    by_cases hb : (a / 2 ^ d) % 2 = 1
    · rw [if_pos (ht.2 hb)]
      congr 1
      symm
      rw [decide_eq_false_iff_not, hm]
      exact fun h => h.1 hb
    · rw [if_neg (fun h => hb (ht.1 h)), ok_l0 a n d k (i + 1) (by omega) (by omega) (by omega)]
      congr 1
      rw [decide_eq_decide, hm]
      exact ⟨fun h => ⟨hb, h⟩, fun h => h.2⟩
theorem Ok_f {a n : Int} (ha : 0 ≤ a) : causewayref06_PrefixOk.f 40 a n = some (okP a n) := by
  obtain ⟨a, rfl⟩ := Int.eq_ofNat_of_zero_le ha
  unfold causewayref06_PrefixOk.f okP
  by_cases h0 : n < 0
  · rw [if_pos h0]
    simp only [causewayref06_PrefixOk.j0]
    simp
    omega
  · rw [if_neg h0]
    by_cases h1 : n > 32
    · simp only [causewayref06_PrefixOk.j0]
      simp [h1]
      omega
    · simp only [causewayref06_PrefixOk.j0]
      rw [decide_eq_false h1, if_neg (by decide), ok_l0 a n (32 - n).toNat 39 n (by omega) (by omega) (by omega)]
      congr 1
      rw [decide_eq_decide]
      unfold wt
      have : ((a : Int) % 2 ^ (32 - n).toNat = 0) ↔ a % 2 ^ (32 - n).toNat = 0 := by
        rw [show (2 : Int) ^ (32 - n).toNat = ((2 ^ (32 - n).toNat : Nat) : Int) by simp, ← Int.natCast_emod]; omega
      rw [this]
      exact ⟨fun h => ⟨by omega, by omega, h⟩, fun h => h.2.2⟩
theorem RCheck_f {a n : Int} (ha : 0 ≤ a) : causewayref12_Check.f 40 a n = some (if okP a n = true then 0 else 2) := by
  unfold causewayref12_Check.f
  rw [Ok_f ha]
  simp only [Option.bind_some]
  split <;> rfl
theorem cmpI (a b : Int) : cmp_Compare_int.f a b = some (if a < b then -1 else if a > b then 1 else 0) := by
  unfold cmp_Compare_int.f cmp_isNaN_int.f
  simp
  split
  · rfl
  · split <;> rfl
theorem cmpU (a b : Int) : cmp_Compare_uint32.f a b = some (if a < b then -1 else if a > b then 1 else 0) := by
  unfold cmp_Compare_uint32.f cmp_isNaN_uint32.f
  simp
  split
  · rfl
  · split <;> rfl
def sgnP (a n b m : Int) : Int := if a < b then -1 else if a > b then 1 else if n < m then -1 else if n > m then 1 else 0
theorem Or_f (x y : Int) : cmp_Or_int.f 5 [x, y] = some (if x = 0 then y else x) := by
  simp only [cmp_Or_int.f, cmp_Or_int.l0, rd, List.length_cons, List.length_nil]
  simp [wrap64]
  by_cases hx : x = 0
  · simp [hx]
    intro h; exact h.symm
  · simp [hx]
theorem compare_f (a n b m : Int) : prefix_compare.f 5 a n b m = some (sgnP a n b m) := by
  unfold prefix_compare.f
  rw [cmpU, Option.bind_some, cmpI, Option.bind_some, Or_f]
  simp only [Option.bind_some]
  congr 1
  unfold sgnP
  by_cases h1 : a < b
  · simp [h1]
  · by_cases h2 : a > b
    · simp [h1, h2]
    · simp [h1, h2]
theorem sgn_lt (a n b m : Int) : decide (sgnP a n b m < 0) = befP a n b m := by
  unfold sgnP befP
  rw [decide_eq_decide]
  split
  · rename_i h; exact ⟨fun _ => .inl h, fun _ => by decide⟩
  · split
    · exact ⟨fun h => by omega, fun h => by omega⟩
    · split
      · exact ⟨fun h => by omega, fun h => by decide⟩
      · split
        · exact ⟨fun h => by omega, fun h => by omega⟩
        · exact ⟨fun h => by omega, fun h => by omega⟩
theorem Before_f (a n b m : Int) : prefix_Before.f 5 a n b m = some (befP a n b m) := by
  unfold prefix_Before.f
  rw [compare_f, Option.bind_some, sgn_lt]
theorem RBefore_f (a n b m : Int) : causewayref12_Before.f a n b m = some (befP a n b m) := by
  unfold causewayref12_Before.f causewayref06_PrefixAhead.f befP
  by_cases h1 : a < b
  · simp [h1]
  · by_cases h2 : a = b
    · simp [h2]
    · simp [h1, h2]
theorem Covers_f {a n b m : Int} (ha : 0 ≤ a) (ha2 : a < 4294967296) (hb : 0 ≤ b) (hb2 : b < 4294967296) : prefix_Covers.f a n b m = some (covP a n b m) := by
  unfold prefix_Covers.f
  rw [Check_f ha ha2, Option.bind_some, Check_f hb hb2]
  unfold covP
  by_cases h1 : okP a n = true
  · rw [if_pos h1, if_pos rfl, Option.bind_some, h1]
    by_cases h2 : okP b m = true
    · rw [if_pos h2, if_pos rfl, h2]
      have h1' := h1
      unfold okP at h1'
      simp only [decide_eq_true_eq] at h1'
      by_cases h3 : n ≤ m
      · rw [if_pos h3, mask_f h1'.1 h1'.2.1, Option.bind_some, and_mask hb hb2 h1'.1 h1'.2.1, decide_eq_true h3]
        congr 1
        simp only [Bool.true_and]
        rw [Bool.eq_iff_iff]
        simp only [beq_iff_eq, decide_eq_true_eq]
        have hd := Int.emod_add_mul_ediv a (wt n)
        rw [h1'.2.2, Int.zero_add] at hd
        constructor
        · intro h
          rw [← h, Int.mul_ediv_cancel _ (Int.ne_of_gt (wt_pos n))]
        · intro h
          rw [← h, Int.mul_comm]; exact hd
      · rw [if_neg h3, decide_eq_false h3]; rfl
    · rw [if_neg h2, if_neg (by decide), Bool.eq_false_iff.2 h2]; rfl
  · rw [if_neg h1, if_neg (by decide), Bool.eq_false_iff.2 h1]; rfl
theorem bit_f (a : Nat) (d : Nat) (i : Int) (hd : i + d = 31) (h0 : 0 ≤ i) : causewayref12_bit.f a i = some (((a / 2 ^ d) % 2 : Nat) : Int) := by
  unfold causewayref12_bit.f
  rw [wrap_id (x := 31 - i) (by omega) (by omega), if_pos (by omega)]
  have hs : shr .u32 (a : Int) (31 - i) = ((a / 2 ^ d : Nat) : Int) := by
    unfold shr
    rw [show (31 - i).toNat = d by omega, Nat.min_eq_left (by show d ≤ 32; omega)]
    simp
  rw [hs]
  congr 1
  show IntKind.u32.wrap ((BitVec.ofInt 32 _ &&& BitVec.ofInt 32 _).toNat : Int) = _
  rw [BitVec.toNat_and, BitVec.ofInt_natCast, show BitVec.ofInt 32 1 = BitVec.ofNat 32 1 from rfl, BitVec.toNat_ofNat, BitVec.toNat_ofNat, Nat.mod_eq_of_lt (show 1 < 2 ^ 32 by decide), Nat.and_one_is_mod, IntKind.wrap_u32]
  omega
theorem cov_l0 (a b : Nat) (n m : Int) (hn : n ≤ 32) : ∀ (d k : Nat) (i : Int), i + d = n → 0 ≤ i → d < k → a / 2 ^ (32 - i).toNat = b / 2 ^ (32 - i).toNat → causewayref12_Covers.l0 k i a n b m = some (decide (a / 2 ^ (32 - n).toNat = b / 2 ^ (32 - n).toNat))
  | 0, k, i, h, h0, hk, he => by
    obtain ⟨k, rfl⟩ : ∃ m, k = m + 1 := ⟨k - 1, by omega⟩
    simp only [causewayref12_Covers.l0]
    rw [if_neg (by omega)]
    have : i = n := by omega
    subst this
    rw [decide_eq_true he]
  | d + 1, k, i, h, h0, hk, he => by
    obtain ⟨k, rfl⟩ : ∃ m, k = m + 1 := ⟨k - 1, by omega⟩
    simp only [causewayref12_Covers.l0]
    obtain ⟨e, hE⟩ : ∃ e : Nat, i + e = 31 := ⟨(31 - i).toNat, by omega⟩
    rw [if_pos (by omega), bit_f a e i hE h0, bit_f b e i hE h0, wrap_id (x := i + 1) (by omega) (by omega)]
    simp only [Option.bind_some]
    rw [show (32 - i).toNat = e + 1 by omega, Nat.pow_succ, ← Nat.div_div_eq_div_mul, ← Nat.div_div_eq_div_mul] at he
    by_cases hb : a / 2 ^ e % 2 = b / 2 ^ e % 2
    · rw [if_pos (by rw [hb]), cov_l0 a b n m hn d k (i + 1) (by omega) (by omega) (by omega) (by rw [show (32 - (i + 1)).toNat = e by omega]; omega)]
    · rw [if_neg (by omega)]
      congr 1
      symm
      rw [decide_eq_false_iff_not]
      intro hx
      apply hb
      obtain ⟨q, hq⟩ : ∃ q : Nat, e = (32 - n).toNat + q := ⟨e - (32 - n).toNat, by omega⟩
      rw [hq, Nat.pow_add, ← Nat.div_div_eq_div_mul, ← Nat.div_div_eq_div_mul, hx]
theorem RCovers_f {a n b m : Int} (ha : 0 ≤ a) (ha2 : a < 4294967296) (hb : 0 ≤ b) (hb2 : b < 4294967296) : causewayref12_Covers.f 40 a n b m = some (covP a n b m) := by
  unfold causewayref12_Covers.f
  rw [RCheck_f ha, Option.bind_some, RCheck_f hb]
  unfold covP
  by_cases h1 : okP a n = true
  · rw [if_pos h1, if_pos rfl, Option.bind_some, h1]
    by_cases h2 : okP b m = true
    · rw [if_pos h2, if_pos rfl, h2]
      have h1' := h1
      unfold okP at h1'
      simp only [decide_eq_true_eq] at h1'
      simp only [causewayref12_Covers.j0]
      by_cases h3 : n ≤ m
      · rw [decide_eq_false (by omega), if_neg (by decide), decide_eq_true h3]
        obtain ⟨a, rfl⟩ := Int.eq_ofNat_of_zero_le ha
        obtain ⟨b, rfl⟩ := Int.eq_ofNat_of_zero_le hb
        rw [cov_l0 a b n m h1'.2.1 n.toNat 39 0 (by omega) (by omega) (by omega) (by
          rw [show ((32 : Int) - 0).toNat = 32 by decide, Nat.div_eq_of_lt (by omega), Nat.div_eq_of_lt (by omega)])]
        congr 1
        simp only [Bool.true_and]
        rw [decide_eq_decide]
        unfold wt
        rw [show (2 : Int) ^ (32 - n).toNat = ((2 ^ (32 - n).toNat : Nat) : Int) by simp, ← Int.natCast_ediv, ← Int.natCast_ediv]
        omega
      · rw [decide_eq_true (show n > m by omega), if_pos rfl, decide_eq_false h3]; rfl
    · rw [if_neg h2, if_neg (by decide), Bool.eq_false_iff.2 h2]; rfl
  · rw [if_neg h1, if_neg (by decide), Bool.eq_false_iff.2 h1]; rfl
end Go.Proofs.YtpebpfaecdmabaaDoor.PL
/- Contracts of both sides' Check, Before, Covers. -/
namespace Go.Proofs.YtpebpfaecdmabaaDoor
open Go Go.RowKit PL

abbrev pfx (a n : Int) : Value := .agg #[.int .u32 a, .int .i64 n]
def okE (a n : Int) : Int := if okP a n = true then 0 else 2
theorem Check_pfx {a n : Int} (ha : 0 ≤ a) (ha2 : a < 4294967296) (w : World) : Calls Tryd.prog 6 #[pfx a n] w fun e w' => e = .returned (.int .i64 (okE a n)) ∧ Below w.heap.size w w' :=
  PPrefixOnes.prefix_Check.calls a n (okE a n) w (Check_f ha ha2)
theorem RCheck_pfx {a n : Int} (ha : 0 ≤ a) (w : World) : Calls Tryd.prog 7 #[pfx a n] w fun e w' => e = .returned (.int .i64 (okE a n)) ∧ Below w.heap.size w w' :=
  PPrefixOnes.causewayref12_Check.calls 40 a n (okE a n) w (RCheck_f ha)
theorem Before_pfx (a n b m : Int) (w : World) : Calls Tryd.prog 8 #[pfx a n, pfx b m] w fun e w' => e = .returned (.bool (befP a n b m)) ∧ Below w.heap.size w w' :=
  PPrefixOnes.prefix_Before.calls 5 a n b m _ w (Before_f a n b m)
theorem RBefore_pfx (a n b m : Int) (w : World) : Calls Tryd.prog 9 #[pfx a n, pfx b m] w fun e w' => e = .returned (.bool (befP a n b m)) ∧ Below w.heap.size w w' :=
  PPrefixOnes.causewayref12_Before.calls a n b m _ w (RBefore_f a n b m)
theorem Covers_pfx {a n b m : Int} (ha : 0 ≤ a) (ha2 : a < 4294967296) (hb : 0 ≤ b) (hb2 : b < 4294967296) (w : World) : Calls Tryd.prog 10 #[pfx a n, pfx b m] w fun e w' => e = .returned (.bool (covP a n b m)) ∧ Below w.heap.size w w' :=
  PPrefixOnes.prefix_Covers.calls a n b m _ w (Covers_f ha ha2 hb hb2)
theorem RCovers_pfx {a n b m : Int} (ha : 0 ≤ a) (ha2 : a < 4294967296) (hb : 0 ≤ b) (hb2 : b < 4294967296) (w : World) : Calls Tryd.prog 11 #[pfx a n, pfx b m] w fun e w' => e = .returned (.bool (covP a n b m)) ∧ Below w.heap.size w w' :=
  PPrefixOnes.causewayref12_Covers.calls 40 a n b m _ w (RCovers_f ha ha2 hb hb2)
theorem compare_pfx (a n b m : Int) (w : World) : Calls Tryd.prog 17 #[pfx a n, pfx b m] w fun e w' => e = .returned (.int .i64 (sgnP a n b m)) ∧ Below w.heap.size w w' :=
  PPrefixOnes.prefix_compare.calls 5 a n b m _ w (compare_f a n b m)
theorem mask_int {n : Int} (h0 : 0 ≤ n) (h1 : n ≤ 32) (w : World) : Calls Tryd.prog 15 #[.int .i64 n] w fun e w' => e = .returned (.int .u32 (4294967296 - wt n)) ∧ Below w.heap.size w w' :=
  (PPrefixOnes.prefix_mask.calls n _ w (mask_f h0 h1)).mono fun _ _ h => ⟨h.1, h.2.below⟩
set_option maxHeartbeats 4000000 in
set_option maxRecDepth 100000 in
theorem PrefixOnes_walk (a n b m : Int) (w : World) (hTab : Bs.TabW w) (ha : 0 ≤ a) (ha2 : a < 4294967296) (hb : 0 ≤ b) (hb2 : b < 4294967296) : Calls Tryd.prog 3 #[pfx a n, pfx b m] w fun e w' => e = .returned (.bool true) ∧ Below w.heap.size w w' := by
  have hA := (Below.refl _ w).alloc (Nat.le_refl _) (.cells #[.int .u32 a, .int .i64 n] 24)
  have a0 := box_new w #[.int .u32 a, .int .i64 n] 24 0 _ rfl
  have a1 := box_new w #[.int .u32 a, .int .i64 n] 24 1 _ rfl
  go_enter Tryd.func3, Tryd.ntmps3
  go_upto_region 1 with fail
  have hT := hTab.below hA
  have hs : (w.alloc (.cells #[.int .u32 a, .int .i64 n] 24)).heap.size = w.heap.size + 1 := by simp
  generalize w.alloc (.cells #[.int .u32 a, .int .i64 n] 24) = W at *
  rw [← hs]
  have hA2 := (Below.refl _ W).alloc (Nat.le_refl _) (.cells #[.int .u32 b, .int .i64 m] 24)
  have b0 := box_new W #[.int .u32 b, .int .i64 m] 24 0 _ rfl
  have b1 := box_new W #[.int .u32 b, .int .i64 m] 24 1 _ rfl
  have hT2 := hT.below hA2
  replace a0 := (hA2.cell (World.block_lt_of_cell? _ _ a0)).trans a0
  replace a1 := (hA2.cell (World.block_lt_of_cell? _ _ a1)).trans a1
  have HB := hA.trans (hA2.mono hA.size)
  clear hA hA2 hs hT hTab
  generalize W.heap.size = K at *
  generalize W.alloc _ = W2 at *
  have qa0 := fun n : ExtW W2 => exw_cell a0 n
  have qa1 := fun n : ExtW W2 => exw_cell a1 n
  have qb0 := fun n : ExtW W2 => exw_cell b0 n
  have qb1 := fun n : ExtW W2 => exw_cell b1 n
  clear a0 a1 b0 b1
  refine region_ext (by kernel_rfl) (by kernel_rfl) ?_
  repeat (go_big_quiet_step ((first | (go_at_call 5; exact ext_call (awake_true _ (hT2.below (exw_below _)))) | (go_at_call 6; exact ext_call (Check_pfx ha ha2 _)) | (go_at_call 7; exact ext_call (RCheck_pfx ha _)) | (go_at_call 8; exact ext_call (Before_pfx _ _ _ _ _)) | (go_at_call 9; exact ext_call (RBefore_pfx _ _ _ _ _)) | (go_at_call 10; exact ext_call (Covers_pfx ha ha2 hb hb2 _)) | (go_at_call 11; exact ext_call (RCovers_pfx ha ha2 hb hb2 _)))))
  refine wpQuiet_nil ?_
  rintro _ ⟨nq, rfl⟩
  clear qa0 qa1 qb0 qb1
  go_wp2
  go_ret
  exact ⟨rfl, HB.trans ((exw_below nq).mono HB.size)⟩
end Go.Proofs.YtpebpfaecdmabaaDoor
/- The laid table, read; a prefix among the arguments, opened. -/
namespace Go.Proofs.YtpebpfaecdmabaaDoor
open Go.ChangeShapes Go.WideShapes Go.ChangeAt Go.WideMaps Go.WideElems Go.RowKit

def laidTab {H : Type} : List (String × DataW H) := [("math/bits.deBruijn64tab", Rows.laid_math_bits_deBruijn64tab)]
theorem gTab : Tryd.prog.globalNamed "math/bits.deBruijn64tab" = some 0 := by kernel_rfl
theorem tTab : (Tryd.prog.globals[0]?).map (·.type) = some 143 := by kernel_rfl
theorem tab_data {H : Type} : (Rows.laid_math_bits_deBruijn64tab : DataW H) = .agg (Bs.tzTab.map fun (k : Nat) => .lit (.int .u8 (k : Int))) := rfl

theorem of_laid {W : World} (h : laidMetH Tryd.prog laidTab W) : Bs.TabW W := by
  rw [MakeChecks.laidMetH_plain _ _ _ (by kernel_rfl)] at h
  obtain ⟨ps, ⟨g0, t0, cs0, f0, p0, q0, hg0, ht0, hv0, hd0, _⟩, _, _⟩ := h
  obtain rfl := Option.some.inj (gTab.symm.trans hg0)
  obtain rfl := Option.some.inj (tTab.symm.trans ht0)
  obtain ⟨xs, m1, rfl, hx1, hlen, hn3, hel⟩ := DataW.trod_array Tryd.underlying143 hd0
  rw [tab_data] at hx1
  simp only [Prod.mk.injEq, DataW.agg.injEq] at hx1
  have c5 : Tryd.prog.cellsOf 5 = 1 := by kernel_rfl
  refine ⟨fun i k hk => ?_⟩
  have hi : i < 64 := by
    have := (List.getElem?_eq_some_iff.1 hk).1
    exact Nat.lt_of_lt_of_eq this (by decide)
  have h1 := hel i hi
  rw [c5, Nat.mul_one] at h1
  obtain ⟨x, hx⟩ : ∃ x, xs[i]? = some x := ⟨xs[i], List.getElem?_eq_getElem (by omega)⟩
  rw [hx] at h1
  obtain ⟨n, e1, e2, _⟩ := DataW.trod_int Tryd.underlying5 h1
  have hm : (xs.map (·.1))[i]? = some (.lit (.int .u8 n)) := by rw [List.getElem?_map, hx, e2]; rfl
  rw [← hx1.1, List.getElem?_map, hk] at hm
  have hnk : n = (k : Int) := by simpa using hm.symm
  subst hnk
  rw [World.var?_cell hg0 hv0 i, ← Array.getElem?_toList]
  have h2 : cs0.toList[i]? = (cs0.toList.drop i)[0]? := by rw [List.getElem?_drop]; rfl
  have h3 : ((cs0.toList.drop i).take 1)[0]? = (cs0.toList.drop i)[0]? := by rw [List.getElem?_take]; rfl
  rw [h2, ← h3, e1]
  rfl
theorem c24 : Tryd.prog.cellsOf 24 = 2 := by kernel_rfl
theorem c22 : Tryd.prog.cellsOf 22 = 1 := by kernel_rfl
theorem c3 : Tryd.prog.cellsOf 3 = 1 := by kernel_rfl
set_option maxRecDepth 100000 in
theorem open_pfx {H : Type} {enc : TypeId × Value → H} {W : World} {b : Nat} {v : Value} {d : DataW H} {p : List MemPlace}
    (hok : Value.okWide Tryd.prog W .any b 24 v) (h : DataW.Trod enc Tryd.prog W 0 (fun _ => true) true 24 v d p) : ∃ (a n : Int), 0 ≤ a ∧ a < 4294967296 ∧ v = pfx a n := by
  simp only [Value.okWide, Tryd.underlying24] at hok
  obtain ⟨cs, rfl, _, _⟩ := hok
  obtain ⟨fuel, hf⟩ := h
  obtain ⟨y0, y1, m, _, hl, h0, h1⟩ := trod_struct2 Tryd.underlying24 hf
  obtain ⟨x0, e0, _, w0⟩ := DataW.trod_int Tryd.underlying22 h0
  obtain ⟨x1, e1, _, w1⟩ := DataW.trod_int Tryd.underlying3 h1
  rw [c22] at e0
  rw [c3] at e1
  rw [c24] at hl
  have w0' : 0 ≤ x0 ∧ x0 < 4294967296 := by
    simp [Lit.wf, IntKind.min, IntKind.max, IntKind.signed, IntKind.bits] at w0
    omega
  refine ⟨x0, x1, w0'.1, w0'.2, ?_⟩
  unfold pfx
  congr 1
  apply Array.toList_inj.1
  simp only [Value.cells, List.drop_zero] at hl e0 e1
  have h2 := List.take_append_drop 1 cs.toList
  rw [e0] at h2
  have h3 : (cs.toList.drop 1).take 1 = cs.toList.drop 1 := List.take_of_length_le (by simp; simp at hl; omega)
  rw [← h2, ← h3, e1]
  rfl
end Go.Proofs.YtpebpfaecdmabaaDoor
