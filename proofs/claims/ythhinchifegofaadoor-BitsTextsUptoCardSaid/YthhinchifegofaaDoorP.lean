/- The count of a word's ones, as the library counts it. No program stands in it. -/
import Derived.Test.YthhinchifegofaaDoorU
namespace Go.Proofs.YthhinchifegofaaDoor
open Go.RowKit

/-- The sum of the lowest n digits. -/
def dsum (B : Nat) : Nat → Nat → Nat
  | 0, _ => 0
  | n+1, x => x % B + dsum B n (x / B)
/-- n digits, none above c. -/
def digs (B c : Nat) : Nat → Nat → Prop
  | 0, x => x = 0
  | n+1, x => x % B ≤ c ∧ digs B c n (x / B)
def mask (B : Nat) : Nat → Nat
  | 0 => 0
  | n+1 => (B - 1) + B * B * mask B n

theorem and_split (j lo hi lo' hi' : Nat) (h : lo < 2^j) (h' : lo' < 2^j) : (2^j*hi + lo) &&& (2^j*hi' + lo') = 2^j*(hi &&& hi') + (lo &&& lo') := by
  apply Nat.eq_of_testBit_eq
  intro i
  have hl : lo &&& lo' < 2^j := Nat.lt_of_le_of_lt Nat.and_le_left h
  rw [Nat.testBit_and, Nat.testBit_two_pow_mul_add hi h, Nat.testBit_two_pow_mul_add hi' h', Nat.testBit_two_pow_mul_add _ hl]
  split <;> simp [Nat.testBit_and]

theorem mask_and (k n x : Nat) : (x &&& mask (2^k) (n+1)) = x % 2^k + 2^k * 2^k * ((x / (2^k*2^k)) &&& mask (2^k) n) := by
  have e : (2:Nat)^k * 2^k = 2^(k+k) := (Nat.pow_add 2 k k).symm
  have hp : 0 < (2:Nat)^k := Nat.pow_pos (by decide)
  have h1 : (2:Nat)^k - 1 < 2^(k+k) := by
    have : (2:Nat)^k ≤ 2^(k+k) := Nat.pow_le_pow_right (by decide) (by omega)
    omega
  have h2 : x % 2^(k+k) < 2^(k+k) := Nat.mod_lt _ (Nat.pow_pos (by decide))
  have h3 := and_split (k+k) (x % 2^(k+k)) (x / 2^(k+k)) (2^k - 1) (mask (2^k) n) h2 h1
  rw [Nat.div_add_mod] at h3
  rw [mask, e, Nat.add_comm (2^k - 1), h3, Nat.and_two_pow_sub_one_eq_mod, Nat.add_comm]
  congr 1
  rw [Nat.pow_add, Nat.mod_mul_right_mod]

/-- One step: neighbours are added. -/
def pairUp (B n x : Nat) : Nat := ((x / B) &&& mask B n) + (x &&& mask B n)

theorem pairUp_succ (k n x : Nat) : pairUp (2^k) (n+1) x = (x / 2^k % 2^k + x % 2^k) + 2^k * 2^k * pairUp (2^k) n (x / (2^k*2^k)) := by
  unfold pairUp
  rw [mask_and, mask_and, Nat.mul_add]
  have : x / 2^k / (2^k*2^k) = x / (2^k*2^k) / 2^k := by rw [Nat.div_div_eq_div_mul, Nat.div_div_eq_div_mul, Nat.mul_comm]
  rw [this]
  omega

theorem pairUp_sum (k c : Nat) (hc : 2 * c < 2^k*2^k) : ∀ n x, digs (2^k) c (2*n) x → dsum (2^k*2^k) n (pairUp (2^k) n x) = dsum (2^k) (2*n) x ∧ digs (2^k*2^k) (2*c) n (pairUp (2^k) n x)
  | 0, x => by
    intro h
    exact ⟨rfl, by simp [digs, pairUp, mask]⟩
  | n+1, x => by
    intro h
    have e : 2*(n+1) = 2*n+1+1 := by omega
    rw [e, digs, digs] at h
    obtain ⟨ha, hb, hr⟩ := h
    rw [Nat.div_div_eq_div_mul] at hr
    have ih := pairUp_sum k c hc n _ hr
    rw [pairUp_succ, e, dsum, dsum, dsum, digs, Nat.div_div_eq_div_mul]
    have hlt : x / 2^k % 2^k + x % 2^k < 2^k*2^k := by omega
    rw [Nat.add_mul_mod_self_left, Nat.mod_eq_of_lt hlt, Nat.add_mul_div_left _ _ (by omega), Nat.div_eq_of_lt hlt, Nat.zero_add, ih.1]
    exact ⟨by omega, by omega, ih.2⟩

/-- Where the digits are small the sum may be taken before the mask. -/
theorem pairUp_late : ∀ n y, digs 16 4 (2*n) y → ((y / 16 + y) &&& mask (2^4) n) = pairUp (2^4) n y
  | 0, y => by simp [pairUp, mask]
  | n+1, y => by
    intro h
    have e : 2*(n+1) = 2*n+1+1 := by omega
    rw [e, digs, digs] at h
    obtain ⟨ha, hb, hr⟩ := h
    rw [Nat.div_div_eq_div_mul] at hr
    have ih := pairUp_late n _ hr
    have hr0 : y / (16*16) % 16 ≤ 4 := by
      cases n with
      | zero => have : y / (16*16) = 0 := hr
                omega
      | succ n => have e : 2*(n+1) = 2*n+1+1 := by omega
                  rw [e, digs] at hr
                  exact hr.1
    rw [pairUp_succ, mask_and]
    simp only [show (2:Nat)^4 = 16 from rfl, show (16:Nat)*16 = 256 from rfl] at ha hb hr0 ih ⊢
    obtain ⟨a, b, c, d, hy⟩ : ∃ a b c d, y = a + 16*b + 256*c + 4096*d ∧ a ≤ 4 ∧ b ≤ 4 ∧ c ≤ 4 := ⟨y % 16, y / 16 % 16, y / 256 % 16, y / 4096, by omega, ha, hb, hr0⟩
    have g1 : y / 16 = b + 16*c + 256*d := by omega
    have g2 : y / 256 = c + 16*d := by omega
    have g3 : y / 256 / 16 = d := by omega
    have h1 : (y / 16 + y) % 16 = y / 16 % 16 + y % 16 := by omega
    have h2 : (y / 16 + y) / 256 = y / 256 / 16 + y / 256 := by omega
    rw [h1, h2, ih]

theorem digs_two : ∀ n x, x < 2^n → digs 2 1 n x
  | 0, x, h => by simpa [digs] using h
  | n+1, x, h => ⟨by omega, digs_two n _ (by rw [Nat.pow_succ] at h; omega)⟩

/-- How many ones a word has. -/
def pc (x : UInt64) : Nat := dsum 2 64 x.toNat

theorem mask1 : mask (2^1) 32 = 6148914691236517205 := by decide
theorem mask2 : mask (2^2) 16 = 3689348814741910323 := by decide
theorem mask4 : mask (2^4) 8 = 1085102592571150095 := by decide

theorem dv (b r : Nat) (h : b < 256) : (b + 256*r)/256 = r := by omega
theorem md (b r : Nat) (h : b < 256) : (b + 256*r)%256 = b := by omega
theorem dv_word (b c d e r : Nat) (hb : b < 256) (hc : c < 256) (hd : d < 256) (he : e < 256) : (b + 256*(c + 256*(d + 256*(e + 256*r))))/4294967296 = r := by
  rw [show 4294967296 = 256*256*256*256 from rfl, ← Nat.div_div_eq_div_mul, ← Nat.div_div_eq_div_mul, ← Nat.div_div_eq_div_mul, dv _ _ hb, dv _ _ hc, dv _ _ hd, dv _ _ he]
theorem dv_two (b c r : Nat) (hb : b < 256) (hc : c < 256) : (b + 256*(c + 256*r))/65536 = r := by
  rw [show 65536 = 256*256 from rfl, ← Nat.div_div_eq_div_mul, dv _ _ hb, dv _ _ hc]

theorem fold_laid (b0 b1 b2 b3 b4 b5 b6 b7 z : Nat) (hz : z = b0 + 256*(b1 + 256*(b2 + 256*(b3 + 256*(b4 + 256*(b5 + 256*(b6 + 256*b7)))))))
    (k0 : b0 ≤ 8) (k1 : b1 ≤ 8) (k2 : b2 ≤ 8) (k3 : b3 ≤ 8) (k4 : b4 ≤ 8) (k5 : b5 ≤ 8) (k6 : b6 ≤ 8) (k7 : b7 ≤ 8) :
    (((z + z / 256) + (z + z / 256) / 65536) + ((z + z / 256) + (z + z / 256) / 65536) / 4294967296) % 128 = b0 + b1 + b2 + b3 + b4 + b5 + b6 + b7 := by
  have e1 : z / 256 = b1 + 256*(b2 + 256*(b3 + 256*(b4 + 256*(b5 + 256*(b6 + 256*b7))))) := by rw [hz, dv _ _ (by omega)]
  have a1 : z + z / 256 = (b0 + b1) + 256*((b1 + b2) + 256*((b2 + b3) + 256*((b3 + b4) + 256*((b4 + b5) + 256*((b5 + b6) + 256*((b6 + b7) + 256*b7)))))) := by
    rw [e1, hz]; clear hz e1 k0 k1 k2 k3 k4 k5 k6 k7; omega
  clear e1 hz
  rw [a1]
  clear a1
  have a2 : ((b0 + b1) + 256*((b1 + b2) + 256*((b2 + b3) + 256*((b3 + b4) + 256*((b4 + b5) + 256*((b5 + b6) + 256*((b6 + b7) + 256*b7))))))) / 65536 = (b2 + b3) + 256*((b3 + b4) + 256*((b4 + b5) + 256*((b5 + b6) + 256*((b6 + b7) + 256*b7)))) := dv_two _ _ _ (by omega) (by omega)
  rw [a2]
  clear a2
  have a3 : ((b0 + b1) + 256*((b1 + b2) + 256*((b2 + b3) + 256*((b3 + b4) + 256*((b4 + b5) + 256*((b5 + b6) + 256*((b6 + b7) + 256*b7))))))) + ((b2 + b3) + 256*((b3 + b4) + 256*((b4 + b5) + 256*((b5 + b6) + 256*((b6 + b7) + 256*b7))))) = (b0 + b1 + b2 + b3) + 256*((b1 + b2 + b3 + b4) + 256*((b2 + b3 + b4 + b5) + 256*((b3 + b4 + b5 + b6) + 256*((b4 + b5 + b6 + b7) + 256*((b5 + b6 + b7) + 256*((b6 + b7) + 256*b7)))))) := by
    clear k0 k1 k2 k3 k4 k5 k6 k7; omega
  rw [a3]
  clear a3
  have a4 := dv_word (b0 + b1 + b2 + b3) (b1 + b2 + b3 + b4) (b2 + b3 + b4 + b5) (b3 + b4 + b5 + b6) ((b4 + b5 + b6 + b7) + 256*((b5 + b6 + b7) + 256*((b6 + b7) + 256*b7))) (by omega) (by omega) (by omega) (by omega)
  rw [a4]
  clear a4
  generalize ((b1 + b2 + b3 + b4) + 256*((b2 + b3 + b4 + b5) + 256*((b3 + b4 + b5 + b6) + 256*((b4 + b5 + b6 + b7) + 256*((b5 + b6 + b7) + 256*((b6 + b7) + 256*b7)))))) = p
  generalize ((b5 + b6 + b7) + 256*((b6 + b7) + 256*b7)) = q
  omega

/-- The last steps: the eight bytes are added up. -/
theorem fold_bytes (z : Nat) (h : digs 256 8 8 z) : (((z + z / 256) + (z + z / 256) / 65536) + ((z + z / 256) + (z + z / 256) / 65536) / 4294967296) % 128 = dsum 256 8 z := by
  simp only [digs] at h
  obtain ⟨h0, h1, h2, h3, h4, h5, h6, h7, h8⟩ := h
  have m (x : Nat) : x = x % 256 + 256 * (x / 256) := by omega
  have hz : z = z % 256 + 256*(z / 256 % 256 + 256*(z / 256 / 256 % 256 + 256*(z / 256 / 256 / 256 % 256 + 256*(z / 256 / 256 / 256 / 256 % 256 + 256*(z / 256 / 256 / 256 / 256 / 256 % 256 + 256*(z / 256 / 256 / 256 / 256 / 256 / 256 % 256 + 256*(z / 256 / 256 / 256 / 256 / 256 / 256 / 256 % 256))))))) := by
    have e7 := m (z / 256 / 256 / 256 / 256 / 256 / 256 / 256)
    rw [h8, Nat.mul_zero, Nat.add_zero] at e7
    rw [← e7, ← m, ← m, ← m, ← m, ← m, ← m, ← m]
  rw [fold_laid _ _ _ _ _ _ _ _ z hz h0 h1 h2 h3 h4 h5 h6 h7]
  simp only [dsum, Nat.add_zero, Nat.add_assoc]

theorem dsum_or_and : ∀ n a b, dsum 2 n (a ||| b) + dsum 2 n (a &&& b) = dsum 2 n a + dsum 2 n b
  | 0, _, _ => rfl
  | n+1, a, b => by
    have ih := dsum_or_and n (a/2) (b/2)
    have h1 : (a ||| b) / 2 = a/2 ||| b/2 := Nat.or_div_two
    have h2 : (a &&& b) / 2 = a/2 &&& b/2 := Nat.and_div_two
    have h3 : (a ||| b) % 2 + (a &&& b) % 2 = a % 2 + b % 2 := by
      have q1 : (a ||| b) % 2 = 1 ↔ (a % 2 = 1 ∨ b % 2 = 1) := by
        have e1 := Nat.testBit_or a b 0
        simp only [Nat.testBit_zero, ← Bool.decide_or] at e1
        exact decide_eq_decide.1 e1
      have q2 : (a &&& b) % 2 = 1 ↔ (a % 2 = 1 ∧ b % 2 = 1) := by
        have e2 := Nat.testBit_and a b 0
        simp only [Nat.testBit_zero, ← Bool.decide_and] at e2
        exact decide_eq_decide.1 e2
      have l1 := Nat.mod_two_eq_zero_or_one (a ||| b)
      have l2 := Nat.mod_two_eq_zero_or_one (a &&& b)
      generalize (a ||| b) % 2 = p at q1 l1 ⊢
      generalize (a &&& b) % 2 = q at q2 l2 ⊢
      omega
    simp only [dsum, h1, h2]
    omega
theorem pc_or_and (a b : UInt64) : pc (a ||| b) + pc (a &&& b) = pc a + pc b := by
  unfold pc
  rw [UInt64.toNat_or, UInt64.toNat_and]
  exact dsum_or_and 64 _ _
theorem dsum_le : ∀ n x, dsum 2 n x ≤ n
  | 0, _ => Nat.le_refl 0
  | n+1, x => by
    have := dsum_le n (x/2)
    simp only [dsum]
    omega
theorem pc_le (a : UInt64) : pc a ≤ 64 := dsum_le 64 _

/-- The library's way. -/
theorem swar (x : Nat) (hx : x < 2^64) :
    ∃ y1 y2 z : Nat, y1 = ((x / 2) &&& 6148914691236517205) + (x &&& 6148914691236517205) ∧ y2 = ((y1 / 4) &&& 3689348814741910323) + (y1 &&& 3689348814741910323) ∧
      z = ((y2 / 16 + y2) &&& 1085102592571150095) ∧ y1 < 2^64 ∧ y2 / 16 + y2 < 2^64 ∧ z ≤ 1085102592571150095 ∧
      (((z + z / 256) + (z + z / 256) / 65536) + ((z + z / 256) + (z + z / 256) / 65536) / 4294967296) % 128 = dsum 2 64 x := by
  refine ⟨_, _, _, rfl, rfl, rfl, ?_, ?_, Nat.and_le_right, ?_⟩
  · have h1 : (x / 2) &&& 6148914691236517205 ≤ 6148914691236517205 := Nat.and_le_right
    have h2 : x &&& 6148914691236517205 ≤ 6148914691236517205 := Nat.and_le_right
    omega
  · generalize hy : ((x / 2) &&& 6148914691236517205) + (x &&& 6148914691236517205) = y
    have h1 : (y / 4) &&& 3689348814741910323 ≤ 3689348814741910323 := Nat.and_le_right
    have h2 : y &&& 3689348814741910323 ≤ 3689348814741910323 := Nat.and_le_right
    omega
  · have s1 := pairUp_sum 1 1 (by decide) 32 x (digs_two 64 x hx)
    have s2 := pairUp_sum 2 2 (by decide) 16 _ s1.2
    have s3 := pairUp_sum 4 4 (by decide) 8 _ s2.2
    have e := pairUp_late 8 _ s2.2
    rw [mask4] at e
    unfold pairUp at s1 s2 s3 e
    rw [mask1] at s1 s2 s3 e
    rw [mask2] at s2 s3 e
    rw [mask4] at s3 e
    simp only [show (2:Nat)^1 = 2 from rfl, show (2:Nat)^2 = 4 from rfl, show (2:Nat)^4 = 16 from rfl] at s1 s2 s3 e
    rw [← e] at s3
    have f := fold_bytes _ s3.2
    rw [f]
    exact s3.1.trans (s2.1.trans s1.1)
end Go.Proofs.YthhinchifegofaaDoor
