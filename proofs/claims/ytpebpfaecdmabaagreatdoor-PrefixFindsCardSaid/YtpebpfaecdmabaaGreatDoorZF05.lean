/- Parts of this proof, joined. -/
import Derived.Test.YtpebpfaecdmabaaGreatDoorZF04
import Derived.Test.YtpebpfaecdmabaaGreatDoorRows
import Derived.Test.YtpebpfaecdmabaaGreatDoorZF00
import Derived.Laws.Bits128
import Derived.StillTailTactics
import Derived.BigRegion
import Derived.Deep.RegionHeld3
import Derived.ChangeKeysEq
import Derived.Maps.Own
import Derived.BigQuiet
/- The count of a word's ones, as the library counts it. No program stands in it. -/
namespace Go.Proofs.YtpebpfaecdmabaaGreatDoor
open Go.RowKit

/-- The sum of the lowest n digits. -/
def dsum (B : Nat) : Nat → Nat → Nat
  | 0, _ => 0
  | n+1, x => x % B + dsum B n (x / B)
/-- n digits, none above c. -/
def digs (B c : Nat) : Nat → Nat → Prop
  | 0, x => x = 0
  | n+1, x => x % B ≤ c ∧ digs B c n (x / B)
def mask (B : Nat) : Nat → Nat
  | 0 => 0
  | n+1 => (B - 1) + B * B * mask B n

theorem and_split (j lo hi lo' hi' : Nat) (h : lo < 2^j) (h' : lo' < 2^j) : (2^j*hi + lo) &&& (2^j*hi' + lo') = 2^j*(hi &&& hi') + (lo &&& lo') := by
  apply Nat.eq_of_testBit_eq
  intro i
  have hl : lo &&& lo' < 2^j := Nat.lt_of_le_of_lt Nat.and_le_left h
  rw [Nat.testBit_and, Nat.testBit_two_pow_mul_add hi h, Nat.testBit_two_pow_mul_add hi' h', Nat.testBit_two_pow_mul_add _ hl]
  split <;> simp [Nat.testBit_and]

theorem mask_and (k n x : Nat) : (x &&& mask (2^k) (n+1)) = x % 2^k + 2^k * 2^k * ((x / (2^k*2^k)) &&& mask (2^k) n) := by
  have e : (2:Nat)^k * 2^k = 2^(k+k) := (Nat.pow_add 2 k k).symm
  have hp : 0 < (2:Nat)^k := Nat.pow_pos (by decide)
  have h1 : (2:Nat)^k - 1 < 2^(k+k) := by
    have : (2:Nat)^k ≤ 2^(k+k) := Nat.pow_le_pow_right (by decide) (by omega)
    omega
  have h2 : x % 2^(k+k) < 2^(k+k) := Nat.mod_lt _ (Nat.pow_pos (by decide))
  have h3 := and_split (k+k) (x % 2^(k+k)) (x / 2^(k+k)) (2^k - 1) (mask (2^k) n) h2 h1
  rw [Nat.div_add_mod] at h3
  rw [mask, e, Nat.add_comm (2^k - 1), h3, Nat.and_two_pow_sub_one_eq_mod, Nat.add_comm]
  congr 1
  rw [Nat.pow_add, Nat.mod_mul_right_mod]

/-- One step: neighbours are added. -/
def pairUp (B n x : Nat) : Nat := ((x / B) &&& mask B n) + (x &&& mask B n)

theorem pairUp_succ (k n x : Nat) : pairUp (2^k) (n+1) x = (x / 2^k % 2^k + x % 2^k) + 2^k * 2^k * pairUp (2^k) n (x / (2^k*2^k)) := by
  unfold pairUp
  rw [mask_and, mask_and, Nat.mul_add]
  have : x / 2^k / (2^k*2^k) = x / (2^k*2^k) / 2^k := by rw [Nat.div_div_eq_div_mul, Nat.div_div_eq_div_mul, Nat.mul_comm]
  rw [this]
  omega

theorem pairUp_sum (k c : Nat) (hc : 2 * c < 2^k*2^k) : ∀ n x, digs (2^k) c (2*n) x → dsum (2^k*2^k) n (pairUp (2^k) n x) = dsum (2^k) (2*n) x ∧ digs (2^k*2^k) (2*c) n (pairUp (2^k) n x)
  | 0, x => by
    intro h
    exact ⟨rfl, by simp [digs, pairUp, mask]⟩
  | n+1, x => by
    intro h
    have e : 2*(n+1) = 2*n+1+1 := by omega
    rw [e, digs, digs] at h
    obtain ⟨ha, hb, hr⟩ := h
    rw [Nat.div_div_eq_div_mul] at hr
    have ih := pairUp_sum k c hc n _ hr
    rw [pairUp_succ, e, dsum, dsum, dsum, digs, Nat.div_div_eq_div_mul]
    have hlt : x / 2^k % 2^k + x % 2^k < 2^k*2^k := by omega
    rw [Nat.add_mul_mod_self_left, Nat.mod_eq_of_lt hlt, Nat.add_mul_div_left _ _ (by omega), Nat.div_eq_of_lt hlt, Nat.zero_add, ih.1]
    exact ⟨by omega, by omega, ih.2⟩

/-- Where the digits are small the sum may be taken before the mask. -/
theorem pairUp_late : ∀ n y, digs 16 4 (2*n) y → ((y / 16 + y) &&& mask (2^4) n) = pairUp (2^4) n y
  | 0, y => by simp [pairUp, mask]
  | n+1, y => by
    intro h
    have e : 2*(n+1) = 2*n+1+1 := by omega
    rw [e, digs, digs] at h
    obtain ⟨ha, hb, hr⟩ := h
    rw [Nat.div_div_eq_div_mul] at hr
    have ih := pairUp_late n _ hr
    have hr0 : y / (16*16) % 16 ≤ 4 := by
      cases n with
      | zero => have : y / (16*16) = 0 := hr
                omega
      | succ n => have e : 2*(n+1) = 2*n+1+1 := by omega
                  rw [e, digs] at hr
                  exact hr.1
    rw [pairUp_succ, mask_and]
    simp only [show (2:Nat)^4 = 16 from rfl, show (16:Nat)*16 = 256 from rfl] at ha hb hr0 ih ⊢
    obtain ⟨a, b, c, d, hy⟩ : ∃ a b c d, y = a + 16*b + 256*c + 4096*d ∧ a ≤ 4 ∧ b ≤ 4 ∧ c ≤ 4 := ⟨y % 16, y / 16 % 16, y / 256 % 16, y / 4096, by omega, ha, hb, hr0⟩
    have g1 : y / 16 = b + 16*c + 256*d := by omega
    have g2 : y / 256 = c + 16*d := by omega
    have g3 : y / 256 / 16 = d := by omega
    have h1 : (y / 16 + y) % 16 = y / 16 % 16 + y % 16 := by omega
    have h2 : (y / 16 + y) / 256 = y / 256 / 16 + y / 256 := by omega
    rw [h1, h2, ih]

theorem digs_two : ∀ n x, x < 2^n → digs 2 1 n x
  | 0, x, h => by simpa [digs] using h
  | n+1, x, h => ⟨by omega, digs_two n _ (by rw [Nat.pow_succ] at h; omega)⟩

/-- How many ones a word has. -/
def pc (x : UInt64) : Nat := dsum 2 64 x.toNat

theorem mask1 : mask (2^1) 32 = 6148914691236517205 := by decide
theorem mask2 : mask (2^2) 16 = 3689348814741910323 := by decide
theorem mask4 : mask (2^4) 8 = 1085102592571150095 := by decide

theorem dv (b r : Nat) (h : b < 256) : (b + 256*r)/256 = r := by omega
theorem md (b r : Nat) (h : b < 256) : (b + 256*r)%256 = b := by omega
theorem dv_word (b c d e r : Nat) (hb : b < 256) (hc : c < 256) (hd : d < 256) (he : e < 256) : (b + 256*(c + 256*(d + 256*(e + 256*r))))/4294967296 = r := by
  rw [show 4294967296 = 256*256*256*256 from rfl, ← Nat.div_div_eq_div_mul, ← Nat.div_div_eq_div_mul, ← Nat.div_div_eq_div_mul, dv _ _ hb, dv _ _ hc, dv _ _ hd, dv _ _ he]
theorem dv_two (b c r : Nat) (hb : b < 256) (hc : c < 256) : (b + 256*(c + 256*r))/65536 = r := by
  rw [show 65536 = 256*256 from rfl, ← Nat.div_div_eq_div_mul, dv _ _ hb, dv _ _ hc]

theorem fold_laid (b0 b1 b2 b3 b4 b5 b6 b7 z : Nat) (hz : z = b0 + 256*(b1 + 256*(b2 + 256*(b3 + 256*(b4 + 256*(b5 + 256*(b6 + 256*b7)))))))
    (k0 : b0 ≤ 8) (k1 : b1 ≤ 8) (k2 : b2 ≤ 8) (k3 : b3 ≤ 8) (k4 : b4 ≤ 8) (k5 : b5 ≤ 8) (k6 : b6 ≤ 8) (k7 : b7 ≤ 8) :
    (((z + z / 256) + (z + z / 256) / 65536) + ((z + z / 256) + (z + z / 256) / 65536) / 4294967296) % 128 = b0 + b1 + b2 + b3 + b4 + b5 + b6 + b7 := by
  have e1 : z / 256 = b1 + 256*(b2 + 256*(b3 + 256*(b4 + 256*(b5 + 256*(b6 + 256*b7))))) := by rw [hz, dv _ _ (by omega)]
  have a1 : z + z / 256 = (b0 + b1) + 256*((b1 + b2) + 256*((b2 + b3) + 256*((b3 + b4) + 256*((b4 + b5) + 256*((b5 + b6) + 256*((b6 + b7) + 256*b7)))))) := by
    rw [e1, hz]; clear hz e1 k0 k1 k2 k3 k4 k5 k6 k7; omega
  clear e1 hz
  rw [a1]
  clear a1
  have a2 : ((b0 + b1) + 256*((b1 + b2) + 256*((b2 + b3) + 256*((b3 + b4) + 256*((b4 + b5) + 256*((b5 + b6) + 256*((b6 + b7) + 256*b7))))))) / 65536 = (b2 + b3) + 256*((b3 + b4) + 256*((b4 + b5) + 256*((b5 + b6) + 256*((b6 + b7) + 256*b7)))) := dv_two _ _ _ (by omega) (by omega)
  rw [a2]
  clear a2
  have a3 : ((b0 + b1) + 256*((b1 + b2) + 256*((b2 + b3) + 256*((b3 + b4) + 256*((b4 + b5) + 256*((b5 + b6) + 256*((b6 + b7) + 256*b7))))))) + ((b2 + b3) + 256*((b3 + b4) + 256*((b4 + b5) + 256*((b5 + b6) + 256*((b6 + b7) + 256*b7))))) = (b0 + b1 + b2 + b3) + 256*((b1 + b2 + b3 + b4) + 256*((b2 + b3 + b4 + b5) + 256*((b3 + b4 + b5 + b6) + 256*((b4 + b5 + b6 + b7) + 256*((b5 + b6 + b7) + 256*((b6 + b7) + 256*b7)))))) := by
    clear k0 k1 k2 k3 k4 k5 k6 k7; omega
  rw [a3]
  clear a3
  have a4 := dv_word (b0 + b1 + b2 + b3) (b1 + b2 + b3 + b4) (b2 + b3 + b4 + b5) (b3 + b4 + b5 + b6) ((b4 + b5 + b6 + b7) + 256*((b5 + b6 + b7) + 256*((b6 + b7) + 256*b7))) (by omega) (by omega) (by omega) (by omega)
  rw [a4]
  clear a4
  generalize ((b1 + b2 + b3 + b4) + 256*((b2 + b3 + b4 + b5) + 256*((b3 + b4 + b5 + b6) + 256*((b4 + b5 + b6 + b7) + 256*((b5 + b6 + b7) + 256*((b6 + b7) + 256*b7)))))) = p
  generalize ((b5 + b6 + b7) + 256*((b6 + b7) + 256*b7)) = q
  omega

/-- The last steps: the eight bytes are added up. -/
theorem fold_bytes (z : Nat) (h : digs 256 8 8 z) : (((z + z / 256) + (z + z / 256) / 65536) + ((z + z / 256) + (z + z / 256) / 65536) / 4294967296) % 128 = dsum 256 8 z := by
  simp only [digs] at h
  obtain ⟨h0, h1, h2, h3, h4, h5, h6, h7, h8⟩ := h
  have m (x : Nat) : x = x % 256 + 256 * (x / 256) := by omega
  have hz : z = z % 256 + 256*(z / 256 % 256 + 256*(z / 256 / 256 % 256 + 256*(z / 256 / 256 / 256 % 256 + 256*(z / 256 / 256 / 256 / 256 % 256 + 256*(z / 256 / 256 / 256 / 256 / 256 % 256 + 256*(z / 256 / 256 / 256 / 256 / 256 / 256 % 256 + 256*(z / 256 / 256 / 256 / 256 / 256 / 256 / 256 % 256))))))) := by
    have e7 := m (z / 256 / 256 / 256 / 256 / 256 / 256 / 256)
    rw [h8, Nat.mul_zero, Nat.add_zero] at e7
    rw [← e7, ← m, ← m, ← m, ← m, ← m, ← m, ← m]
  rw [fold_laid _ _ _ _ _ _ _ _ z hz h0 h1 h2 h3 h4 h5 h6 h7]
  simp only [dsum, Nat.add_zero, Nat.add_assoc]

theorem dsum_or_and : ∀ n a b, dsum 2 n (a ||| b) + dsum 2 n (a &&& b) = dsum 2 n a + dsum 2 n b
  | 0, _, _ => rfl
  | n+1, a, b => by
    have ih := dsum_or_and n (a/2) (b/2)
    have h1 : (a ||| b) / 2 = a/2 ||| b/2 := Nat.or_div_two
    have h2 : (a &&& b) / 2 = a/2 &&& b/2 := Nat.and_div_two
    have h3 : (a ||| b) % 2 + (a &&& b) % 2 = a % 2 + b % 2 := by
      have q1 : (a ||| b) % 2 = 1 ↔ (a % 2 = 1 ∨ b % 2 = 1) := by
        have e1 := Nat.testBit_or a b 0
        simp only [Nat.testBit_zero, ← Bool.decide_or] at e1
        exact decide_eq_decide.1 e1
      have q2 : (a &&& b) % 2 = 1 ↔ (a % 2 = 1 ∧ b % 2 = 1) := by
        have e2 := Nat.testBit_and a b 0
        simp only [Nat.testBit_zero, ← Bool.decide_and] at e2
        exact decide_eq_decide.1 e2
      have l1 := Nat.mod_two_eq_zero_or_one (a ||| b)
      have l2 := Nat.mod_two_eq_zero_or_one (a &&& b)
      generalize (a ||| b) % 2 = p at q1 l1 ⊢
      generalize (a &&& b) % 2 = q at q2 l2 ⊢
      omega
    simp only [dsum, h1, h2]
    omega
theorem pc_or_and (a b : UInt64) : pc (a ||| b) + pc (a &&& b) = pc a + pc b := by
  unfold pc
  rw [UInt64.toNat_or, UInt64.toNat_and]
  exact dsum_or_and 64 _ _
theorem dsum_le : ∀ n x, dsum 2 n x ≤ n
  | 0, _ => Nat.le_refl 0
  | n+1, x => by
    have := dsum_le n (x/2)
    simp only [dsum]
    omega
theorem pc_le (a : UInt64) : pc a ≤ 64 := dsum_le 64 _

/-- The library's way. -/
theorem swar (x : Nat) (hx : x < 2^64) :
    ∃ y1 y2 z : Nat, y1 = ((x / 2) &&& 6148914691236517205) + (x &&& 6148914691236517205) ∧ y2 = ((y1 / 4) &&& 3689348814741910323) + (y1 &&& 3689348814741910323) ∧
      z = ((y2 / 16 + y2) &&& 1085102592571150095) ∧ y1 < 2^64 ∧ y2 / 16 + y2 < 2^64 ∧ z ≤ 1085102592571150095 ∧
      (((z + z / 256) + (z + z / 256) / 65536) + ((z + z / 256) + (z + z / 256) / 65536) / 4294967296) % 128 = dsum 2 64 x := by
  refine ⟨_, _, _, rfl, rfl, rfl, ?_, ?_, Nat.and_le_right, ?_⟩
  · have h1 : (x / 2) &&& 6148914691236517205 ≤ 6148914691236517205 := Nat.and_le_right
    have h2 : x &&& 6148914691236517205 ≤ 6148914691236517205 := Nat.and_le_right
    omega
  · generalize hy : ((x / 2) &&& 6148914691236517205) + (x &&& 6148914691236517205) = y
    have h1 : (y / 4) &&& 3689348814741910323 ≤ 3689348814741910323 := Nat.and_le_right
    have h2 : y &&& 3689348814741910323 ≤ 3689348814741910323 := Nat.and_le_right
    omega
  · have s1 := pairUp_sum 1 1 (by decide) 32 x (digs_two 64 x hx)
    have s2 := pairUp_sum 2 2 (by decide) 16 _ s1.2
    have s3 := pairUp_sum 4 4 (by decide) 8 _ s2.2
    have e := pairUp_late 8 _ s2.2
    rw [mask4] at e
    unfold pairUp at s1 s2 s3 e
    rw [mask1] at s1 s2 s3 e
    rw [mask2] at s2 s3 e
    rw [mask4] at s3 e
    simp only [show (2:Nat)^1 = 2 from rfl, show (2:Nat)^2 = 4 from rfl, show (2:Nat)^4 = 16 from rfl] at s1 s2 s3 e
    rw [← e] at s3
    have f := fold_bytes _ s3.2
    rw [f]
    exact s3.1.trans (s2.1.trans s1.1)
end Go.Proofs.YtpebpfaecdmabaaGreatDoor
/- The machine's words: Or, And, Minus, and the count of a word's ones. -/
namespace Go.Proofs.YtpebpfaecdmabaaGreatDoor.Bs
open Go.RowKit

def orB (a b : Bt) : Bt := (a.1 ||| b.1, a.2 ||| b.2)
def andB (a b : Bt) : Bt := (a.1 &&& b.1, a.2 &&& b.2)
def minusB (a b : Bt) : Bt := (a.1 &&& ~~~b.1, a.2 &&& ~~~b.2)

set_option maxHeartbeats 400000 in
theorem Or_any (a b : Bt) (w : World) :
    Calls Tryz.prog 32 #[bv a, bv b] w fun e w' => e = .returned (bv (orB a b)) ∧ Below w.heap.size w w' := by
  have h1 := u_or a.1 b.1
  have h2 := u_or a.2 b.2
  go_enter Tryz.func32, Tryz.ntmps32
  go_wp2
  exact bodyPost_ret (v := bv (orB a b)) (by simp [results, Tryz.results32, go_sem, orB]) rfl ⟨rfl, (((Below.refl _ _).alloc (Nat.le_refl _) _).alloc (by simp) _).alloc (by simp; omega) _⟩

theorem ex_int (n : Int) : ∃ m : Int, n = m := ⟨n, rfl⟩
theorem wrap_nat (n : Nat) (h : n < 18446744073709551616) : IntKind.u64.wrap (n : Int) = (n : Int) := by
  simp [IntKind.wrap, IntKind.signed, go_sem]
  omega
theorem wrap_nat_i (n : Nat) (h : n < 9223372036854775808) : IntKind.i64.wrap (n : Int) = (n : Int) := by
  simp [IntKind.wrap, IntKind.signed, go_sem]
  omega

end Go.Proofs.YtpebpfaecdmabaaGreatDoor.Bs
/- Len, in, Of. -/
namespace Go.Proofs.YtpebpfaecdmabaaGreatDoor.Bs
open Go.RowKit

def lenB (s : Bt) : Nat := pc s.1 + pc s.2
theorem lenB_le (s : Bt) : lenB s ≤ 128 := by
  have h1 := pc_le s.1
  have h2 := pc_le s.2
  unfold lenB
  omega

def inN (n : Int) : Bool := decide (0 ≤ n) && decide (n ≤ 127)
theorem in_any (n : Int) (w : World) :
    Calls Tryz.prog 55 #[.int .i64 n] w fun e w' => e = .returned (.bool (inN n)) ∧ w = w' := by
  by_cases h : 0 ≤ n
  · have h' : (decide (n ≥ 0)) = true := by simpa using h
    go_enter Tryz.func55, Tryz.ntmps55
    go_wp2
    go_ret
    exact ⟨ret_bool (by simp [inN, h]), rfl⟩
  · have h' : (decide (n ≥ 0)) = false := by simpa using h
    go_enter Tryz.func55, Tryz.ntmps55
    go_wp2
    go_ret
    exact ⟨ret_bool (by simp [inN]; omega), rfl⟩

/-- A node's bit in its word. -/
def bit (k : Nat) : UInt64 := UInt64.ofNat (2 ^ k)
/-- A set and one node more. -/
def addB (s : Bt) (n : Nat) : Bt := if n < 64 then (s.1 ||| bit n, s.2) else (s.1, s.2 ||| bit (n - 64))
/-- The set of a list; a number outside makes an error. -/
def ofB : List Int → Bt → Option Bt
  | [], s => some s
  | n :: r, s => if inN n then ofB r (addB s n.toNat) else none

/-- A set's two cells in a block. -/
def Arr (w : World) (B : Nat) (s : Bt) : Prop :=
  w.cell? ⟨B, 0, none⟩ = some (.int .u64 (u s.1)) ∧ w.cell? ⟨B, 1, none⟩ = some (.int .u64 (u s.2)) ∧ w.frozen? ⟨B, 0, none⟩ = false ∧ w.frozen? ⟨B, 1, none⟩ = false

theorem Arr.set0 {w : World} {B : Nat} {s : Bt} (h : Arr w B s) (x : UInt64) : Arr (w.setCell ⟨B, 0, none⟩ (.int .u64 (u x))) B (x, s.2) := by
  obtain ⟨h0, h1, f0, f1⟩ := h
  exact ⟨World.cell?_setCell_same _ _ _ h0, (World.cell?_setCell_other _ _ _ _ (by simp)).trans h1, by simpa using f0, by simpa using f1⟩
theorem Arr.set1 {w : World} {B : Nat} {s : Bt} (h : Arr w B s) (x : UInt64) : Arr (w.setCell ⟨B, 1, none⟩ (.int .u64 (u x))) B (s.1, x) := by
  obtain ⟨h0, h1, f0, f1⟩ := h
  exact ⟨(World.cell?_setCell_other _ _ _ _ (by simp)).trans h0, World.cell?_setCell_same _ _ _ h1, by simpa using f0, by simpa using f1⟩
theorem Arr.far {w : World} {B : Nat} {s : Bt} (h : Arr w B s) (p : Addr) (v : Value) (hp : p.block ≠ B) : Arr (w.setCell p v) B s := by
  obtain ⟨h0, h1, f0, f1⟩ := h
  exact ⟨(World.cell?_setCell_far w p _ v hp).trans h0, (World.cell?_setCell_far w p _ v hp).trans h1, by simpa using f0, by simpa using f1⟩
theorem Arr.drew {w : World} {B : Nat} {s : Bt} (h : Arr w B s) : Arr w.drew B s := h
theorem Arr.alloc {w : World} {B : Nat} {s : Bt} (h : Arr w B s) (hB : B < w.heap.size) (o : Obj) : Arr (w.alloc o) B s := by
  obtain ⟨h0, h1, f0, f1⟩ := h
  exact ⟨(World.cell?_alloc_past _ _ _ hB).trans h0, (World.cell?_alloc_past _ _ _ hB).trans h1, by rw [World.frozen?_alloc_past _ _ _ hB]; exact f0, by rw [World.frozen?_alloc_past _ _ _ hB]; exact f1⟩
theorem Arr.new (w : World) (s : Bt) : Arr (w.alloc (.cells #[.int .u64 (u s.1), .int .u64 (u s.2)] 28)) w.heap.size s := by
  have h := heap_alloc_new w (.cells #[.int .u64 (u s.1), .int .u64 (u s.2)] 28)
  exact ⟨by simp only [World.cell?, h]; rfl, by simp only [World.cell?, h]; rfl, by simp only [World.frozen?, h]; rfl, by simp only [World.frozen?, h]; rfl⟩

theorem shl_bit (n : Int) (h : n.toNat < 64) : IntKind.u64.wrap (2 ^ n.toNat) = u (bit n.toNat) := by
  have h2 : 2 ^ n.toNat < 18446744073709551616 := by
    have := Nat.pow_lt_pow_right (a := 2) (by decide) h
    simpa using this
  have := wrap_nat (2 ^ n.toNat) h2
  rw [Int.natCast_pow] at this
  unfold u bit
  rw [UInt64.toNat_ofNat', Nat.mod_eq_of_lt h2, Int.natCast_pow]
  exact this

/-- What Of answers, from a set on. -/
def ofR (ns : List Int) (s : Bt) : Bt × Nat := match ofB ns s with
  | some s => (s, 0)
  | none => ((0, 0), 2)
theorem ofR_nil (s : Bt) : ofR [] s = (s, 0) := rfl
theorem ofR_in (n : Int) (r : List Int) (s : Bt) (h : inN n = true) : ofR (n :: r) s = ofR r (addB s n.toNat) := by simp [ofR, ofB, h]
theorem ofR_out (n : Int) (r : List Int) (s : Bt) (h : inN n = false) : ofR (n :: r) s = ((0, 0), 2) := by simp [ofR, ofB, h]

set_option maxHeartbeats 1000000 in
theorem Of_any (a : Option Addr) (cap : Nat) (ns : List Int) (w : World) (h : SlR w 1 (.slice a ns.length cap) ns.length (ints ns)) :
    Calls Tryz.prog 41 #[.slice a ns.length cap] w fun e w' => e = .returned (.tuple #[bv (ofR ns (0,0)).1, .int .i64 (ofR ns (0,0)).2]) ∧ Below w.heap.size w w' := by
  obtain ⟨R, hR⟩ : ∃ R, ofR ns (0,0) = R := ⟨_, rfl⟩
  rw [hR]
  obtain ⟨_, _, _, hlen, _⟩ := h.form
  go_enter Tryz.func41, Tryz.ntmps41
  go_wp2
  go_loopw [9] (fun i wr => ∃ (k : Nat) (s : Bt), k ≤ ns.length ∧ i = .int .i64 k ∧ R = ofR (ns.drop k) s ∧ Below w.heap.size w wr ∧ Arr wr w.heap.size (0,0) ∧ Arr wr (w.heap.size + 1) s ∧ w.heap.size + 1 < wr.heap.size) (fun i _ => ns.length - (intOf i).toNat)
  case atStart => exact ⟨0, (0,0), Nat.zero_le _, rfl, hR.symm, ((Below.refl _ _).alloc (Nat.le_refl _) _).alloc (by simp) _, (Arr.new w (0,0)).alloc (by simp) _, by have := Arr.new (w.alloc (.cells #[.int .u64 0, .int .u64 0] 28)) (0,0); rwa [World.size_alloc] at this, by simp⟩
  case round =>
    obtain ⟨k, s, hk, rfl, hof, hb, ⟨r0, r1, rf0, rf1⟩, ⟨s0, s1, sf0, sf1⟩, hsz⟩ := hrel
    by_cases hlt : k < ns.length
    · obtain ⟨b, off, rfl, hcell⟩ := (h.below hb).int_at k hlt
      have hn : ns.drop k = ns[k] :: ns.drop (k+1) := List.drop_eq_getElem_cons hlt
      generalize ns[k] = n at hcell hn
      by_cases hin : inN n = true
      · have h0 : 0 ≤ n := by simp [inN] at hin; omega
        have h127 : n ≤ 127 := by simp [inN] at hin; omega
        rw [hn, ofR_in _ _ _ hin] at hof
        by_cases h64 : n < 64
        · have hq : n.tdiv 64 = 0 := by rw [Int.tdiv_eq_ediv_of_nonneg h0]; omega
          have hr : n.tmod 64 = n := by rw [Int.tmod_eq_emod_of_nonneg h0]; omega
          have e1 := shl_bit n (by omega)
          have e2 := u_or s.1 (bit n.toNat)
          have ea : addB s n.toNat = (s.1 ||| bit n.toNat, s.2) := by unfold addB; rw [if_pos (by omega)]
          rw [ea] at hof
          go_wp2_with (go_at_call 55; refine (in_any _ _).mono ?_; rintro e w' ⟨rfl, rfl⟩)
          go_region
          go_wp2
          go_roundw
          case rel => exact ⟨k + 1, _, by omega, by go_num, hof, (hb.setCell (Nat.le_add_right _ _) _).drew, Arr.far (s := (0,0)) ⟨r0, r1, rf0, rf1⟩ _ _ (by simp), Arr.set0 ⟨s0, s1, sf0, sf1⟩ _, by simpa using hsz⟩
          case measure => simp [intOf]; omega
        · have hq : n.tdiv 64 = 1 := by rw [Int.tdiv_eq_ediv_of_nonneg h0]; omega
          have hr : n.tmod 64 = n - 64 := by rw [Int.tmod_eq_emod_of_nonneg h0]; omega
          obtain ⟨m, hm⟩ : ∃ m, n - 64 = m := ⟨_, rfl⟩
          rw [hm] at hr
          have hm0 : 0 ≤ m := by omega
          have hm1 : m ≤ 63 := by omega
          have e1 := shl_bit m (by omega)
          have e2 := u_or s.2 (bit m.toNat)
          have ea : addB s n.toNat = (s.1, s.2 ||| bit m.toNat) := by
            unfold addB; rw [if_neg (by omega)]
            have : n.toNat - 64 = m.toNat := by omega
            rw [this]
          rw [ea] at hof
          go_wp2_with (go_at_call 55; refine (in_any _ _).mono ?_; rintro e w' ⟨rfl, rfl⟩)
          go_region
          go_wp2
          go_roundw
          case rel => exact ⟨k + 1, _, by omega, by go_num, hof, (hb.setCell (Nat.le_add_right _ _) _).drew, Arr.far (s := (0,0)) ⟨r0, r1, rf0, rf1⟩ _ _ (by simp), Arr.set1 ⟨s0, s1, sf0, sf1⟩ _, by simpa using hsz⟩
          case measure => simp [intOf]; omega
      · have hin' : inN n = false := by simpa using hin
        rw [hn, ofR_out _ _ _ hin'] at hof
        subst hof
        go_wp2_with (go_at_call 55; refine (in_any _ _).mono ?_; rintro e w' ⟨rfl, rfl⟩)
        exact bodyPost_ret (v := .tuple #[bv (0, 0), .int .i64 2]) (by simp [results, Tryz.results41, go_sem, r0, r1]; rfl) rfl ⟨rfl, (hb.setCell (Nat.le_refl _) _).setCell (Nat.le_refl _) _⟩
    · go_wp2
      have hd : ns.drop k = [] := List.drop_eq_nil_of_le (by omega)
      rw [hd, ofR_nil]
      exact bodyPost_ret (v := .tuple #[bv s, .int .i64 0]) (by simp [results, Tryz.results41, go_sem, r0, r1]) rfl ⟨rfl, (hb.setCell (Nat.le_refl _) _).setCell (Nat.le_refl _) _⟩
end Go.Proofs.YtpebpfaecdmabaaGreatDoor.Bs
/- A map whose keys are sets (arrays of two words) and whose elements are numbers, known whole. No program stands in it. -/
namespace Go.Proofs.YtpebpfaecdmabaaGreatDoor
open Go.RowKit

section
variable {P : Program} {t e : TypeId} {i : TypeInfo}

/-- '==' of two sets. -/
theorem run_equalIn_bt (hu : P.underlying t = some (.array 2 e)) (he : P.underlying e = some (.int .u64)) (hi : P.info? e = some i) (hc : P.cellsOf e = 1) (a b : Bt) (d : Nat) (w : World) :
    (Op.equalIn (d + 2) t (bv a) (bv b)).run P w = .ok (a == b) w := by
  rw [run_equalIn_array w (d + 1) _ _ hu hi]
  have hp0 : ∀ (s : Bt) (w : World), (part e #[.int .u64 (u s.1), .int .u64 (u s.2)] 0).run P w = .ok (.int .u64 (u s.1)) w := by
    intro s w
    simp [part, run_underlying he, isAgg]
  have hp1 : ∀ (s : Bt) (w : World), (part e #[.int .u64 (u s.1), .int .u64 (u s.2)] 1).run P w = .ok (.int .u64 (u s.2)) w := by
    intro s w
    simp [part, run_underlying he, isAgg]
  have hq : ∀ (x y : UInt64) (w : World), (Op.equalIn (d + 1) e (.int .u64 (u x)) (.int .u64 (u y))).run P w = .ok (x == y) w := by
    intro x y w
    simp [Op.equalIn, run_underlying he, u_beq]
  rw [hc]
  simp only [List.range_succ, List.range_zero, List.nil_append, List.cons_append, Op.eqItems, Sem.run_bind, Nat.zero_mul, Nat.one_mul, hp0, hq, Result.andThen_ok]
  by_cases h1 : a.1 = b.1
  · have e1 : (a.1 == b.1) = true := by simpa using h1
    by_cases h2 : a.2 = b.2
    · have e2 : (a.2 == b.2) = true := by simpa using h2
      have : (a == b) = true := by rw [beq_iff_eq]; exact Prod.ext h1 h2
      simp [e1, e2, this, hp1, hq]
    · have e2 : (a.2 == b.2) = false := by simpa using h2
      have : (a == b) = false := by rw [beq_eq_false_iff_ne]; intro h; exact h2 (by rw [h])
      simp [e1, e2, this, hp1, hq]
  · have e1 : (a.1 == b.1) = false := by simpa using h1
    have : (a == b) = false := by rw [beq_eq_false_iff_ne]; intro h; exact h1 (by rw [h])
    simp [e1, this]

/-- The key's look ahead. -/
theorem run_checkKey_bt (hu : P.underlying t = some (.array 2 e)) (he : P.underlying e = some (.int .u64)) (hi : P.info? e = some i) (hc : P.cellsOf e = 1) (em : Bool) (a : Bt) (d : Nat) (w : World) :
    (Instr.checkKey em (d + 2) t (bv a)).run P w = .ok () w := by
  have hs : i.size = 1 := by have := hc; simp [Program.cellsOf, hi] at this; exact this
  have hp0 : ∀ (s : Bt) (w : World), (part e #[.int .u64 (u s.1), .int .u64 (u s.2)] 0).run P w = .ok (.int .u64 (u s.1)) w := by
    intro s w
    simp [part, run_underlying he, isAgg]
  have hp1 : ∀ (s : Bt) (w : World), (part e #[.int .u64 (u s.1), .int .u64 (u s.2)] 1).run P w = .ok (.int .u64 (u s.2)) w := by
    intro s w
    simp [part, run_underlying he, isAgg]
  have hq : ∀ (x : UInt64) (w : World), (Instr.checkKey em (d + 1) e (.int .u64 (u x))).run P w = .ok () w := by
    intro x w
    simp [Instr.checkKey, run_underlying he]
  rw [show d + 2 = (d + 1) + 1 from rfl, Instr.checkKey]
  simp only [Sem.run_bind, run_underlying hu, Result.andThen_ok]
  simp only [Std.Legacy.Range.forIn_eq_forIn_range', Std.Legacy.Range.size, Nat.sub_zero, Nat.add_one_sub_one, Nat.div_one]
  simp [List.range', sizeOf, typeInfo, hi, hs, hp0, hp1, hq]

/-- The entries of a map that numbers the sets of a list. -/
def entriesFrom (n : Nat) : List Bt → List MapEntry
  | [] => []
  | s :: l => { key := bv s, val := .int .i64 (n : Int), born := n } :: entriesFrom (n + 1) l
theorem entriesFrom_snoc (l : List Bt) (s : Bt) : ∀ n, entriesFrom n (l ++ [s]) = entriesFrom n l ++ [{ key := bv s, val := .int .i64 ((n + l.length : Nat) : Int), born := n + l.length }] := by
  induction l with
  | nil => intro n; simp [entriesFrom]
  | cons x l ih => intro n; simp only [List.cons_append, entriesFrom, ih, List.length_cons, show n + 1 + l.length = n + (l.length + 1) by omega]
theorem entriesFrom_length (l : List Bt) : ∀ n, (entriesFrom n l).length = l.length := by
  induction l with
  | nil => intro n; rfl
  | cons x l ih => intro n; simp [entriesFrom, ih]

/-- Where a set stands in a list, counted from n. -/
def idxFrom (n : Nat) (s : Bt) : List Bt → Option Nat
  | [] => none
  | x :: l => if s = x then some n else idxFrom (n + 1) s l

theorem run_findAsking_bt (hu : P.underlying t = some (.array 2 e)) (he : P.underlying e = some (.int .u64)) (hi : P.info? e = some i) (hc : P.cellsOf e = 1) (s : Bt) (w : World) : ∀ (l : List Bt) (n k : Nat),
    (Instr.findAsking t (bv s) (entriesFrom n l) k).run P w = .ok ((idxFrom n s l).map fun j => (k + (j - n), .int .i64 (j : Int))) w := by
  have hge : ∀ (l : List Bt) (n j : Nat), idxFrom n s l = some j → n ≤ j := by
    intro l
    induction l with
    | nil => intro n j h; simp [idxFrom] at h
    | cons x l ih =>
      intro n j h
      unfold idxFrom at h
      split at h
      · simp at h; omega
      · have := ih _ _ h; omega
  intro l
  induction l with
  | nil => intro n k; simp [entriesFrom, Instr.findAsking, idxFrom]
  | cons x l ih =>
    intro n k
    have heq : (Op.equal t (bv s) (bv x)).run P w = .ok (s == x) w := run_equalIn_bt hu he hi hc s x 9998 w
    simp only [entriesFrom, Instr.findAsking, Sem.run_bind, heq, Result.andThen_ok]
    by_cases hx : s = x
    · simp [idxFrom, hx]
    · have hb : (s == x) = false := by simpa using hx
      simp only [hb, idxFrom, if_neg hx, Bool.false_eq_true, if_false]
      rw [ih]
      congr 1
      cases h : idxFrom (n + 1) s l with
      | none => rfl
      | some j =>
        have := hge _ _ _ h
        simp only [Option.map_some, Option.some.injEq, Prod.mk.injEq, and_true]
        omega

theorem run_findKey_bt (hu : P.underlying t = some (.array 2 e)) (he : P.underlying e = some (.int .u64)) (hi : P.info? e = some i) (hc : P.cellsOf e = 1) (s : Bt) (w : World) (l : List Bt) :
    (Instr.findKey t (bv s) (entriesFrom 0 l)).run P w = .ok ((idxFrom 0 s l).map fun j => (j, .int .i64 (j : Int))) w := by
  unfold Instr.findKey
  simp only [Sem.run_bind, run_underlying hu, Result.andThen_ok]
  cases l with
  | nil => simp [entriesFrom, Instr.findNow, idxFrom]
  | cons x l =>
    have h := run_findAsking_bt hu he hi hc s w (x :: l) 0 0
    simp only [entriesFrom, Instr.findNow, Instr.sameNow] at h ⊢
    rw [h]
    congr 1
    cases idxFrom 0 s (x :: l) <;> simp

theorem entries_at (l : List Bt) : ∀ (n j : Nat) (s : Bt), l[j]? = some s → (entriesFrom n l)[j]? = some { key := bv s, val := .int .i64 ((n + j : Nat) : Int), born := n + j } := by
  induction l with
  | nil => intro n j s h; simp at h
  | cons x l ih =>
    intro n j s h
    cases j with
    | zero => simp at h; subst h; rfl
    | succ j =>
      simp at h
      simp only [entriesFrom, List.getElem?_cons_succ]
      rw [ih (n + 1) j s h, show n + 1 + j = n + (j + 1) by omega]

/-- 'v, ok := m[s]'. -/
theorem run_lookup_bt {tm el : TypeId} (hm : P.underlying tm = some (.map t el)) (hz : ∀ w, (zeroValue el).run P w = .ok (.int .i64 0) w)
    (hu : P.underlying t = some (.array 2 e)) (he : P.underlying e = some (.int .u64)) (hi : P.info? e = some i) (hc : P.cellsOf e = 1) (s : Bt) (M : Nat) (l : List Bt) (w : World)
    (h : w.heap[M]? = some (.map (entriesFrom 0 l).toArray l.length)) :
    (Instr.lookup tm (.map (some M)) (bv s) true).run P w = .ok (.tuple #[.int .i64 (((idxFrom 0 s l).getD 0 : Nat) : Int), .bool (idxFrom 0 s l).isSome]) w := by
  have hk := run_findKey_bt hu he hi hc s w l
  have hck : ∀ em, (Instr.checkKey em 10000 t (bv s)).run P w = .ok () w := fun em => run_checkKey_bt hu he hi hc em s 9998 w
  have hg : (getObj M).run P w = .ok (.map (entriesFrom 0 l).toArray l.length) w := by simp [getObj, Sem.run, h]
  unfold Instr.lookup
  simp only [Sem.run_bind, run_underlying hm, Result.andThen_ok, hg, hck, hk, Sem.run_pure]
  cases h2 : idxFrom 0 s l with
  | none => simp [hz]
  | some j => simp

/-- 'm[s] = number', a set that is not there. -/
theorem run_mapUpdate_bt {tm el : TypeId} (hm : P.underlying tm = some (.map t el))
    (hu : P.underlying t = some (.array 2 e)) (he : P.underlying e = some (.int .u64)) (hi : P.info? e = some i) (hc : P.cellsOf e = 1) (s : Bt) (M : Nat) (l : List Bt) (w : World)
    (h : w.heap[M]? = some (.map (entriesFrom 0 l).toArray l.length)) (hn : idxFrom 0 s l = none) :
    (Instr.mapUpdate tm (.map (some M)) (bv s) (.int .i64 (l.length : Int))).run P w = .ok () { w with heap := w.heap.setIfInBounds M (.map (entriesFrom 0 (l ++ [s])).toArray (l ++ [s]).length) } := by
  have hk := run_findKey_bt hu he hi hc s w l
  rw [hn] at hk
  have hck : ∀ em, (Instr.checkKey em 10000 t (bv s)).run P w = .ok () w := fun em => run_checkKey_bt hu he hi hc em s 9998 w
  have hg : (getObj M).run P w = .ok (.map (entriesFrom 0 l).toArray l.length) w := by simp [getObj, Sem.run, h]
  unfold Instr.mapUpdate
  simp only [Sem.run_bind, run_underlying hm, Result.andThen_ok, hg, hck, hk, Option.map_none]
  simp [setObj, Sem.run, h, entriesFrom_snoc]
end
end Go.Proofs.YtpebpfaecdmabaaGreatDoor
/- The laws of sets. -/
namespace Go.Proofs.YtpebpfaecdmabaaGreatDoor.Bs
open Go.RowKit

theorem cells24 : Tryz.prog.cellsOf 28 = 2 := by kernel_rfl
theorem cells22 : Tryz.prog.cellsOf 26 = 1 := by kernel_rfl
theorem eq_bt (x y : Bt) (w : World) : (Op.equalIn 10000 28 (bv x) (bv y)).run Tryz.prog w = .ok (x == y) w := by
  obtain ⟨i, hi⟩ := Option.isSome_iff_exists.1 (show (Tryz.prog.info? 26).isSome = true by kernel_rfl)
  exact run_equalIn_bt Tryz.underlying28 Tryz.underlying26 hi cells22 x y 9998 w
theorem eq_bt4 (x1 x2 y1 y2 : UInt64) (w : World) : (Op.equalIn 10000 28 (.agg #[.int .u64 (u x1), .int .u64 (u x2)]) (.agg #[.int .u64 (u y1), .int .u64 (u y2)])).run Tryz.prog w = .ok ((x1, x2) == (y1, y2)) w :=
  eq_bt (x1, x2) (y1, y2) w

/-- The three boxes that hold the law's arguments. -/
structure Boxes (w : World) (k : Nat) (a b c : Bt) : Prop where
  a0 : w.cell? ⟨k, 0, none⟩ = some (.int .u64 (u a.1))
  a1 : w.cell? ⟨k, 1, none⟩ = some (.int .u64 (u a.2))
  b0 : w.cell? ⟨k + 1, 0, none⟩ = some (.int .u64 (u b.1))
  b1 : w.cell? ⟨k + 1, 1, none⟩ = some (.int .u64 (u b.2))
  c0 : w.cell? ⟨k + 1 + 1, 0, none⟩ = some (.int .u64 (u c.1))
  c1 : w.cell? ⟨k + 1 + 1, 1, none⟩ = some (.int .u64 (u c.2))

theorem len_or_and (a b : Bt) : lenB (orB a b) + lenB (andB a b) = lenB a + lenB b := by
  have h1 := pc_or_and a.1 b.1
  have h2 := pc_or_and a.2 b.2
  simp only [lenB, orB, andB]
  omega
theorem ring1 (a b c : UInt64) : a &&& ~~~(b ||| c) = a &&& ~~~b &&& (a &&& ~~~c) := by
  apply UInt64.eq_of_toBitVec_eq
  ext i hi
  simp
  cases a.toBitVec[i] <;> cases b.toBitVec[i] <;> cases c.toBitVec[i] <;> rfl
theorem ring2 (a b c : UInt64) : a &&& (b ||| c) = a &&& b ||| a &&& c := by
  apply UInt64.eq_of_toBitVec_eq
  ext i hi
  simp
  cases a.toBitVec[i] <;> cases b.toBitVec[i] <;> cases c.toBitVec[i] <;> rfl
theorem ring3 (a b : UInt64) : a &&& ~~~b ||| a &&& b = a := by
  apply UInt64.eq_of_toBitVec_eq
  ext i hi
  simp
  cases a.toBitVec[i] <;> cases b.toBitVec[i] <;> rfl

end Go.Proofs.YtpebpfaecdmabaaGreatDoor.Bs
/- Sets by their nodes: the plain laws. -/
namespace Go.Proofs.YtpebpfaecdmabaaGreatDoor.Bs
open Go.RowKit

/-- Is node n in s? -/
def hasB (s : Bt) (n : Nat) : Bool := if n < 64 then s.1.toNat.testBit n else s.2.toNat.testBit (n - 64)

theorem bit_nat (k : Nat) (h : k < 64) : (bit k).toNat = 2 ^ k := by
  have h2 : 2 ^ k < 2 ^ 64 := Nat.pow_lt_pow_right (by decide) h
  unfold bit
  rw [UInt64.toNat_ofNat', Nat.mod_eq_of_lt h2]
theorem not_bit (x : UInt64) (i : Nat) (h : i < 64) : (~~~x).toNat.testBit i = !x.toNat.testBit i := by
  have e : (~~~x).toNat = 2 ^ 64 - (x.toNat + 1) := by
    rw [UInt64.toNat_not]
    have := UInt64.toNat_lt x
    simp only [UInt64.size]
    omega
  rw [e, Nat.testBit_two_pow_sub_succ (UInt64.toNat_lt x)]
  simp [h]

theorem has_or (a b : Bt) (i : Nat) : hasB (orB a b) i = (hasB a i || hasB b i) := by
  unfold hasB orB
  split <;> simp [UInt64.toNat_or, Nat.testBit_or]
theorem has_and (a b : Bt) (i : Nat) : hasB (andB a b) i = (hasB a i && hasB b i) := by
  unfold hasB andB
  split <;> simp [UInt64.toNat_and, Nat.testBit_and]
theorem has_minus (a b : Bt) (i : Nat) (h : i < 128) : hasB (minusB a b) i = (hasB a i && !hasB b i) := by
  unfold hasB minusB
  split
  · simp only [UInt64.toNat_and, Nat.testBit_and]
    rw [not_bit _ _ (by omega)]
  · simp only [UInt64.toNat_and, Nat.testBit_and]
    rw [not_bit _ _ (by omega)]
theorem has_add (s : Bt) (n i : Nat) (hn : n < 128) : hasB (addB s n) i = (hasB s i || decide (n = i)) := by
  unfold hasB addB
  by_cases h1 : n < 64 <;> by_cases h2 : i < 64
  · simp only [h1, h2, if_true, UInt64.toNat_or, Nat.testBit_or, bit_nat n h1, Nat.testBit_two_pow]
  · have : ¬ (n = i) := by omega
    simp [h1, h2, this]
  · have : ¬ (n = i) := by omega
    simp [h1, h2, this]
  · simp only [h1, h2, if_false, UInt64.toNat_or, Nat.testBit_or, bit_nat (n - 64) (by omega), Nat.testBit_two_pow]
    congr 1
    rw [decide_eq_decide]
    omega
theorem has_none (i : Nat) : hasB (0, 0) i = false := by
  unfold hasB
  split <;> simp

theorem word_ext (a b : UInt64) (h : ∀ i, i < 64 → a.toNat.testBit i = b.toNat.testBit i) : a = b := by
  apply UInt64.toNat_inj.1
  apply Nat.eq_of_testBit_eq
  intro i
  by_cases hi : i < 64
  · exact h i hi
  · have hp : 2 ^ 64 ≤ 2 ^ i := Nat.pow_le_pow_right (by decide) (by omega)
    rw [Nat.testBit_lt_two_pow (Nat.lt_of_lt_of_le (UInt64.toNat_lt a) hp), Nat.testBit_lt_two_pow (Nat.lt_of_lt_of_le (UInt64.toNat_lt b) hp)]
theorem bt_ext (a b : Bt) (h : ∀ i, i < 128 → hasB a i = hasB b i) : a = b := by
  apply Prod.ext
  · apply word_ext
    intro i hi
    have := h i (by omega)
    simpa [hasB, hi] using this
  · apply word_ext
    intro i hi
    have := h (i + 64) (by omega)
    simpa [hasB, show ¬ (i + 64 < 64) by omega] using this

theorem add_has (s : Bt) (n : Nat) (hn : n < 128) (h : hasB s n = true) : addB s n = s := by
  apply bt_ext
  intro i _
  rw [has_add s n i hn]
  by_cases e : n = i
  · subst e; simp [h]
  · simp [e]

theorem inN_lt {n : Int} (h : inN n = true) : 0 ≤ n ∧ n.toNat < 128 := by
  simp [inN] at h
  omega

theorem ofB_spec : ∀ (L : List Int) (s : Bt), (∀ n ∈ L, inN n = true) → ∃ s', ofB L s = some s' ∧ ∀ i, i < 128 → hasB s' i = (hasB s i || decide ((i : Int) ∈ L))
  | [], s, _ => ⟨s, rfl, by simp⟩
  | n :: L, s, h => by
    obtain ⟨hn0, hn⟩ := inN_lt (h n (by simp))
    obtain ⟨s', h1, h2⟩ := ofB_spec L (addB s n.toNat) (fun m hm => h m (by simp [hm]))
    refine ⟨s', by simp [ofB, h n (by simp), h1], ?_⟩
    intro i hi
    rw [h2 i hi, has_add _ _ _ hn]
    have : decide (n.toNat = i) = decide ((i : Int) = n) := by rw [decide_eq_decide]; omega
    rw [this, Bool.or_assoc]
    simp

/-- The nodes below k that a test takes, rising. -/
def listP (p : Nat → Bool) (k : Nat) : List Int := ((List.range k).filter p).map Int.ofNat
theorem listP_succ (p : Nat → Bool) (k : Nat) : listP p (k + 1) = listP p k ++ (if p k then [(k : Int)] else []) := by
  unfold listP
  rw [List.range_succ, List.filter_append, List.map_append]
  cases h : p k <;> simp [h]
theorem mem_listP (p : Nat → Bool) (i k : Nat) (hi : i < k) : decide ((i : Int) ∈ listP p k) = p i := by
  unfold listP
  cases h : p i
  · simp
    intro x hx hp e
    have : x = i := by omega
    subst this
    rw [h] at hp
    cases hp
  · simp
    exact ⟨i, ⟨hi, h⟩, rfl⟩
theorem listP_in (p : Nat → Bool) : ∀ n ∈ listP p 128, inN n = true := by
  intro n hn
  simp [listP] at hn
  obtain ⟨m, ⟨hm, _⟩, rfl⟩ := hn
  simp [inN]
  omega
theorem listP_len (p : Nat → Bool) (k : Nat) : (listP p k).length ≤ k := by
  unfold listP
  rw [List.length_map]
  have := List.length_filter_le p (List.range k)
  simpa using this

/-- The set that a test takes. -/
theorem of_listP (p : Nat → Bool) (t : Bt) (h : ∀ i, i < 128 → hasB t i = p i) : ofB (listP p 128) (0, 0) = some t := by
  obtain ⟨s', h1, h2⟩ := ofB_spec (listP p 128) (0, 0) (listP_in p)
  rw [h1]
  congr 1
  apply bt_ext
  intro i hi
  rw [h2 i hi, has_none, mem_listP p i 128 hi, h i hi]
  rfl
theorem ofB_append : ∀ (L M : List Int) (s : Bt), ofB (L ++ M) s = (ofB L s).bind fun t => ofB M t
  | [], M, s => rfl
  | n :: L, M, s => by
    simp only [List.cons_append, ofB]
    split
    · exact ofB_append L M _
    · rfl

/-- What With and Without answer. -/
def withR (s : Bt) (n : Int) : Bt × Nat := if inN n then (addB s n.toNat, 0) else ((0, 0), 2)
def withoutR (s : Bt) (n : Int) : Bt × Nat := if inN n then (minusB s (addB (0, 0) n.toNat), 0) else ((0, 0), 2)
theorem of_one (n : Int) : ofR [n] (0, 0) = withR (0, 0) n := by
  unfold ofR withR ofB
  by_cases h : inN n = true
  · simp [h, ofB]
  · simp [h]
theorem or_add (s : Bt) (n : Nat) : orB s (addB (0, 0) n) = addB s n := by
  unfold orB addB
  split <;> simp
theorem refWith_eq (s : Bt) (n : Int) : ofR (listP (hasB s) 128 ++ [n]) (0, 0) = withR s n := by
  unfold ofR withR
  rw [ofB_append, of_listP (hasB s) s (fun _ _ => rfl)]
  by_cases h : inN n = true
  · simp [h, ofB]
  · simp [h, ofB]
theorem refWithout_eq (s : Bt) (n : Int) (h : inN n = true) : ofB (listP (fun i => hasB s i && decide ((i : Int) ≠ n)) 128) (0, 0) = some (minusB s (addB (0, 0) n.toNat)) := by
  obtain ⟨h0, h1⟩ := inN_lt h
  apply of_listP
  intro i hi
  rw [has_minus _ _ _ hi, has_add _ _ _ h1, has_none, Bool.false_or]
  congr 1
  rw [← decide_not, decide_eq_decide]
  omega
end Go.Proofs.YtpebpfaecdmabaaGreatDoor.Bs
