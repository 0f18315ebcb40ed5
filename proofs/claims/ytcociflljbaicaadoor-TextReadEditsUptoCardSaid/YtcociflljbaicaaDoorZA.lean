/- Prefixes: plain law, Prefix of the program and of the reference, cutting -/
import Derived.Test.YtcociflljbaicaaDoorM
import Derived.Laws.BitsLemmas
import Derived.Test.YtcociflljbaicaaDoorV
import Derived.Test.YtcociflljbaicaaDoorQ
import Derived.BigRegion
import Derived.Lib.ItoaLen
import Derived.Lib.SplitLaws
namespace Go.Proofs.YtcociflljbaicaaDoor
open Go.RowKit (wrap64)
open Go.Lib Go.Proofs.YtcociflljbaicaaDoor.PTextPrefixes Go.Proofs.YtcociflljbaicaaDoorW.PrintWords Go.Proofs.YtcociflljbaicaaDoorW.PrintMore

/-- A sound prefix: no bit behind its length. -/
def snd (a : Nat) (n : Int) : Bool := decide (0 ≤ n) && decide (n ≤ 32) && decide (a % 2 ^ (32 - n.toNat) = 0)
theorem mul_mod32 (a i : Nat) (h : i ≤ 32) : a * 2 ^ i % 4294967296 = 2 ^ i * (a % 2 ^ (32 - i)) := by
  have e : 4294967296 = 2 ^ i * 2 ^ (32 - i) := by rw [← Nat.pow_add, show i + (32 - i) = 32 by omega]
  rw [e, Nat.mul_comm a, Nat.mul_mod_mul_left]
theorem u64_wraps (n : Int) (h0 : 0 ≤ n) (h1 : n < 2 ^ 64) : IntKind.u64.wrap n = n := by
  simp only [IntKind.wrap, IntKind.signed, IntKind.bits]
  simp
  omega
theorem sound_plain (a : Nat) (ha : a < 4294967296) (n : Int) : text_sound.f (a : Int) n = some (snd a n) := by
  unfold text_sound.f snd
  by_cases h0 : 0 ≤ n
  · by_cases h1 : n ≤ 32
    · rw [if_pos h0, if_pos h1, if_pos h0]
      obtain ⟨i, rfl⟩ := Int.eq_ofNat_of_zero_le h0
      have hi : i ≤ 32 := by omega
      have hle : a * 2 ^ i < 18446744073709551616 := by
        have h2 : 2 ^ i ≤ 2 ^ 32 := Nat.pow_le_pow_right (by decide) hi
        calc a * 2 ^ i ≤ a * 2 ^ 32 := Nat.mul_le_mul_left _ h2
          _ < 4294967296 * 2 ^ 32 := Nat.mul_lt_mul_of_pos_right ha (by decide)
          _ = 18446744073709551616 := by decide
      have e1 : IntKind.u64.wrap (a : Int) = a := u64_wraps _ (by omega) (by omega)
      have e2 : shl .u64 (a : Int) (i : Int) = ((a * 2 ^ i : Nat) : Int) := by
        unfold shl
        rw [show min (i : Int).toNat IntKind.u64.bits = i by simp [IntKind.bits]; omega]
        rw [show ((a : Int) * 2 ^ i) = ((a * 2 ^ i : Nat) : Int) by simp]
        exact u64_wraps _ (by omega) (by omega)
      have e3 := bits_mask .u64 64 (by decide) u64_wraps 32 (by decide) ((a * 2 ^ i : Nat) : Int) (by omega) (by omega)
      rw [e1, e2]
      rw [show ((2 : Int) ^ 32 - 1) = 4294967295 by decide] at e3
      rw [e3]
      have e4 := mul_mod32 a i hi
      have e5 : (((a * 2 ^ i : Nat) : Int) % 2 ^ 32) = ((a * 2 ^ i % 4294967296 : Nat) : Int) := by simp
      rw [e5, e4]
      congr 1
      have hp : 0 < 2 ^ i := Nat.two_pow_pos i
      rw [Bool.eq_iff_iff]
      simp only [beq_iff_eq, Bool.and_eq_true, decide_eq_true_eq, Int.toNat_natCast]
      constructor
      · intro h
        have h' : 2 ^ i * (a % 2 ^ (32 - i)) = 0 := by exact_mod_cast h
        exact ⟨⟨h0, h1⟩, by rcases Nat.mul_eq_zero.1 h' with h | h <;> omega⟩
      · intro h
        rw [h.2]
        simp
    · rw [if_pos h0, if_neg h1]
      simp [h1]
  · rw [if_neg h0]
    simp [h0]
theorem ok_loop (a : Nat) (ha : a < 4294967296) (n : Int) : ∀ (d i : Nat), i + d = 32 → causewayref06_PrefixOk.l0 (d + 1) (i : Int) (a : Int) n = some (decide (a % 2 ^ (32 - i) = 0))
  | 0, i, h => by
    obtain rfl : i = 32 := by omega
    simp [causewayref06_PrefixOk.l0, Nat.mod_one]
  | d + 1, i, h => by
    have ih := ok_loop a ha n d (i + 1) (by omega)
    rw [causewayref06_PrefixOk.l0]
    have w1 : wrap64 (31 - (i : Int)) = ((31 - i : Nat) : Int) := by
      rw [show (31 - (i : Int)) = ((31 - i : Nat) : Int) by omega]
      unfold wrap64
      omega
    have w2 : wrap64 ((i : Int) + 1) = ((i + 1 : Nat) : Int) := by
      unfold wrap64
      omega
    rw [if_pos (by omega), w1, w2, if_pos (by omega)]
    have e : shr .u32 (a : Int) ((31 - i : Nat) : Int) = ((a / 2 ^ (31 - i) : Nat) : Int) := by
      unfold shr
      rw [show min ((31 - i : Nat) : Int).toNat IntKind.u32.bits = 31 - i by simp [IntKind.bits]; omega]
      simp
    rw [e, show Int.tmod ((a / 2 ^ (31 - i) : Nat) : Int) 2 = ((a / 2 ^ (31 - i) % 2 : Nat) : Int) from rfl]
    have e3 : 32 - i = (31 - i) + 1 := by omega
    have e4 : 32 - (i + 1) = 31 - i := by omega
    have e5 : a % 2 ^ (32 - i) = a % 2 ^ (31 - i) + 2 ^ (31 - i) * (a / 2 ^ (31 - i) % 2) := by
      rw [e3, Nat.mod_pow_succ]
    have hp : 0 < 2 ^ (31 - i) := Nat.two_pow_pos _
    by_cases hb : a / 2 ^ (31 - i) % 2 = 1
    · rw [if_pos (by rw [hb]; rfl)]
      rw [hb, Nat.mul_one] at e5
      rw [decide_eq_false (by omega)]
    · have hb0 : a / 2 ^ (31 - i) % 2 = 0 := by omega
      rw [if_neg (by rw [hb0]; decide), ih, e4, e5, hb0]
      simp
theorem prefixOk_plain (a : Nat) (ha : a < 4294967296) (n : Int) : causewayref06_PrefixOk.f 40 (a : Int) n = some (snd a n) := by
  unfold causewayref06_PrefixOk.f snd
  by_cases h0 : n < 0
  · rw [if_pos h0, causewayref06_PrefixOk.j0, if_pos rfl]
    simp
    omega
  · rw [if_neg h0, causewayref06_PrefixOk.j0]
    by_cases h1 : n > 32
    · rw [decide_eq_true h1, if_pos rfl]
      simp
      omega
    · rw [decide_eq_false h1, if_neg (by decide)]
      obtain ⟨i, rfl⟩ := Int.eq_ofNat_of_zero_le (show 0 ≤ n by omega)
      have := ok_loop a ha i (32 - i) i (by omega)
      have hm : ∀ k j r, causewayref06_PrefixOk.l0 k (i : Int) (a : Int) (i : Int) = some r → causewayref06_PrefixOk.l0 (k + j) (i : Int) (a : Int) (i : Int) = some r := by
        intro k j r h
        induction j with
        | zero => exact h
        | succ j ih => exact (causewayref06_PrefixOk.mono_l (k + j)).2 _ _ _ _ ih
      have h2 := hm _ (39 - (32 - i + 1)) _ this
      rw [show 32 - i + 1 + (39 - (32 - i + 1)) = 39 by omega] at h2
      rw [h2]
      have c1 : decide ((0 : Int) ≤ (i : Int)) = true := decide_eq_true (by omega)
      have c2 : decide ((i : Int) ≤ 32) = true := decide_eq_true (by omega)
      rw [c1, c2]
      simp
end Go.Proofs.YtcociflljbaicaaDoor
namespace Go.Proofs.YtcociflljbaicaaDoor
open Go.RowKit Go.Lib Go.Proofs.YtcociflljbaicaaDoor.PTextPrefixes

def oct (a k : Nat) : List UInt8 := itoa ((a / 2 ^ k % 256 : Nat) : Int)
def octs (a : Nat) : Nat → List UInt8
  | 0 => []
  | g + 1 => octs a g ++ (oct a (24 - 8 * g) ++ [46])
/-- The text of a prefix. -/
def pfxL (a : Nat) (n : Int) : List UInt8 := oct a 24 ++ [46] ++ oct a 16 ++ [46] ++ oct a 8 ++ [46] ++ oct a 0 ++ [47] ++ itoa n
def bs (l : List UInt8) : ByteArray := ⟨l.toArray⟩
theorem bs_size (l : List UInt8) : (bs l).size = l.length := by simp [bs, ByteArray.size]
theorem bs_data (l : List UInt8) : (bs l).data.toList = l := rfl
theorem bs_append (l r : List UInt8) : bs l ++ bs r = bs (l ++ r) := by
  apply ba_ext
  simp [bs]
def pv (a : Nat) (n : Int) : Value := .agg #[.int .u32 a, .int .i64 n]
theorem sound_any (a : Nat) (ha : a < 4294967296) (n : Int) (w : World) : Calls Tryd.prog 13 #[pv a n] w fun e w' => e = .returned (.bool (snd a n)) ∧ Below w.heap.size w w' :=
  text_sound.calls a n _ w (sound_plain a ha n)
theorem refOk_any (a : Nat) (ha : a < 4294967296) (n : Int) (w : World) : Calls Tryd.prog 15 #[pv a n] w fun e w' => e = .returned (.bool (snd a n)) ∧ Below w.heap.size w w' :=
  causewayref06_PrefixOk.calls 40 a n _ w (prefixOk_plain a ha n)
theorem refD_any (n : Int) (h0 : -9223372036854775808 ≤ n) (h1 : n < 9223372036854775808) (w : World) : Calls Tryd.prog 16 #[.int .i64 n] w fun e w' => e = .returned (.string (bs (itoa n))) ∧ Below w.heap.size w w' := by
  obtain ⟨k, hk⟩ := digits_any n h0 h1
  exact causewayref07_d.calls k n _ w (by unfold causewayref07_d.f; rw [hk]; rfl)
theorem oct_size (a k : Nat) : (oct a k).length ≤ 20 := by
  unfold oct
  have h : a / 2 ^ k % 256 < 256 := Nat.mod_lt _ (by decide)
  generalize a / 2 ^ k % 256 = v at h
  have : ∀ v : Nat, v < 256 → (itoa (v : Int)).length ≤ 20 := by decide +kernel
  exact this v h
theorem octs_size (a : Nat) : ∀ g, (octs a g).length ≤ 21 * g
  | 0 => by simp [octs]
  | g + 1 => by
    have := octs_size a g
    have := oct_size a (24 - 8 * g)
    simp [octs]
    omega
theorem octs_four (a : Nat) (n : Int) : (octs a 4).take ((octs a 4).length - 1) ++ [47] ++ itoa n = pfxL a n := by
  have e : octs a 4 = (oct a 24 ++ [46] ++ oct a 16 ++ [46] ++ oct a 8 ++ [46] ++ oct a 0) ++ [46] := by simp [octs]
  rw [e, List.length_append, show [(46 : UInt8)].length = 1 from rfl, Nat.add_sub_cancel, List.take_left']
  · rfl
  · rfl
theorem itoa_len (n : Int) (h0 : -9223372036854775808 ≤ n) (h1 : n ≤ 9223372036854775807) : (itoa n).length ≤ 21 := itoa_length_le n h0 h1
def kOf : Value → Int
  | .int _ n => n
  | _ => 0
theorem wraps_u32 (n : Int) (h0 : 0 ≤ n) (h1 : n < 2 ^ 32) : IntKind.u32.wrap n = n := by rw [IntKind.wrap_u32]; omega
theorem oct_val (a k : Nat) (h : a < 4294967296) : wrap64 (bits .and .u32 ((a : Int) / 2 ^ k) 255) = ((a / 2 ^ k % 256 : Nat) : Int) := by
  have e : ((a : Int) / 2 ^ k) = ((a / 2 ^ k : Nat) : Int) := by simp
  have h2 : a / 2 ^ k ≤ a := Nat.div_le_self _ _
  rw [e]
  generalize a / 2 ^ k = b at h2
  have := bits_mask .u32 32 (by decide) wraps_u32 8 (by decide) (b : Int) (by omega) (by omega)
  rw [show ((2 : Int) ^ 8 - 1) = 255 by decide] at this
  rw [this]
  unfold wrap64
  omega
theorem Itoa_bs (n : Int) (h0 : -9223372036854775808 ≤ n) (h1 : n ≤ 9223372036854775807) (w : World) (hv : VarsW w) :
    Calls Tryd.prog 14 #[.int .i64 n] w fun e w' => e = .returned (.string (bs (itoa n))) ∧ Below w.heap.size w w' := Itoa_any n h0 h1 w hv
theorem Prefix_bad (a : Nat) (ha : a < 4294967296) (n : Int) (hs : snd a n = false) (w : World) :
    Calls Tryd.prog 5 #[pv a n] w fun e w' => e = .returned (.tuple #[.string (bs []), .int .i64 2]) ∧ Below w.heap.size w w' := by
  unfold pv
  go_enter Tryd.func5, Tryd.ntmps5
  go_wp2_with fail
  refine (sound_any a ha n _).mono ?_
  rintro e w1 ⟨rfl, hb1⟩
  rw [hs]
  go_wp2
  go_ret2
  exact ⟨rfl, ((Below.refl _ w).alloc (Nat.le_refl _) _).trans (hb1.mono (by simp))⟩
set_option maxHeartbeats 4000000 in
theorem Prefix_good (a : Nat) (ha : a < 4294967296) (n : Int) (hs : snd a n = true) (hn : 0 ≤ n ∧ n ≤ 32) (w : World) (hv : VarsW w) :
    Calls Tryd.prog 5 #[pv a n] w fun e w' => e = .returned (.tuple #[.string (bs (pfxL a n)), .int .i64 0]) ∧ Below w.heap.size w w' := by
  unfold pv
  go_enter Tryd.func5, Tryd.ntmps5
  go_wp2_with fail
  refine (sound_any a ha n _).mono ?_
  rintro e w1 ⟨rfl, hb1⟩
  rw [hs]
  have c0 : w1.cell? ⟨w.heap.size, 0, none⟩ = some (.int .u32 a) := by
    rw [hb1.cell (by simp)]; go_simp
  have c1 : w1.cell? ⟨w.heap.size, 1, none⟩ = some (.int .i64 n) := by
    rw [hb1.cell (by simp)]; go_simp
  have hb : Below w.heap.size w w1 := ((Below.refl _ w).alloc (Nat.le_refl _) _).trans (hb1.mono (by simp))
  clear hb1
  go_wp2_with fail
  go_loopw [4, 5] (fun s k wr => ∃ g : Nat, g ≤ 4 ∧ k = .int .i64 (24 - 8 * (g : Int)) ∧ s = .string (bs (octs a g)) ∧ Below w.heap.size w wr ∧ wr.cell? ⟨w.heap.size, 0, none⟩ = some (.int .u32 a) ∧ wr.cell? ⟨w.heap.size, 1, none⟩ = some (.int .i64 n)) (fun _ k _ => (kOf k + 8).toNat)
  case atStart => exact ⟨0, by omega, rfl, rfl, hb, c0, c1⟩
  case round =>
    clear hb c0 c1
    obtain ⟨g, hg, rfl, rfl, hb, c0, c1⟩ := hrel
    by_cases h4 : g < 4
    · have k0 : ¬ ((24 - 8 * (g : Int)) < 0) := by omega
      have k1 : (24 - 8 * (g : Int)) ≥ 0 := by omega
      have hz2 : (bs (octs a g)).size ≤ 84 := by rw [bs_size]; have := octs_size a g; omega
      have hz1 : (bs (oct a (24 - 8 * g))).size ≤ 20 := by rw [bs_size]; exact oct_size _ _
      have hv1 := hv.below hb
      go_wp2_with fail
      rw [oct_val a _ ha]
      refine (Itoa_bs _ (by omega) (by omega) _ hv1).mono ?_
      rintro e w2 ⟨rfl, hb2⟩
      rw [show bs (itoa ((a / 2 ^ (24 - 8 * g) % 256 : Nat) : Int)) = bs (oct a (24 - 8 * g)) from rfl]
      go_wp2_with fail
      go_roundw
      case rel =>
        refine ⟨g + 1, by omega, by congr 1; omega, ?_, hb.trans (hb2.mono hb.size), ?_, ?_⟩
        · rw [octs, ← bs_append, ← bs_append]; rfl
        · rw [hb2.cell (World.block_lt_of_cell? _ _ c0)]; exact c0
        · rw [hb2.cell (World.block_lt_of_cell? _ _ c1)]; exact c1
      case measure => simp only [kOf]; omega
    · obtain rfl : g = 4 := by omega
      have hz2 : (bs (octs a 4)).size ≤ 84 := by rw [bs_size]; exact octs_size a 4
      have hz1 : (bs (itoa n)).size ≤ 21 := by rw [bs_size]; exact itoa_len n (by omega) (by omega)
      have hz3 : 1 ≤ (bs (octs a 4)).size := by rw [bs_size]; simp [octs]; omega
      have hz4 : (0 : Int) ≤ ((bs (octs a 4)).size : Int) - 1 := by omega
      have hz5 : ((bs (octs a 4)).size : Int) - 1 ≤ ((bs (octs a 4)).size : Int) := by omega
      go_wp2_with fail
      have x1 : ∀ m : ExtW wr, (exw m).cell? ⟨w.heap.size, 1, none⟩ = some (.int .i64 n) := exw_cell c1
      have hv1 := hv.below hb
      refine region_ext (by kernel_rfl) (by kernel_rfl) ?_
      repeat (go_big_quiet_step (first | (go_at_call 14; exact ext_call (Itoa_bs _ (by omega) (by omega) _ (hv1.below (exw_below _))))))
      rintro w3 ⟨m, rfl⟩
      go_wp2
      go_ret2
      refine ⟨?_, hb.trans ((exw_below m).mono hb.size)⟩
      rw [← octs_four, ← bs_append, ← bs_append]
      have e : (bs (octs a 4)).extract 0 ((bs (octs a 4)).size - 1) = bs ((octs a 4).take ((octs a 4).length - 1)) := by
        apply ba_ext
        rw [extract_from_zero, bs_size]
        rfl
      rw [e]
      rfl
end Go.Proofs.YtcociflljbaicaaDoor
namespace Go.Proofs.YtcociflljbaicaaDoor
open Go.RowKit Go.Lib Go.Proofs.YtcociflljbaicaaDoor.PTextPrefixes

theorem refPrefix_bad (a : Nat) (ha : a < 4294967296) (n : Int) (hs : snd a n = false) (w : World) :
    Calls Tryd.prog 6 #[pv a n] w fun e w' => e = .returned (.tuple #[.string (bs []), .int .i64 2]) ∧ Below w.heap.size w w' := by
  unfold pv
  go_enter Tryd.func6, Tryd.ntmps6
  go_wp2_with fail
  refine (refOk_any a ha n _).mono ?_
  rintro e w1 ⟨rfl, hb1⟩
  rw [hs]
  go_wp2
  go_ret2
  exact ⟨rfl, ((Below.refl _ w).alloc (Nat.le_refl _) _).trans (hb1.mono (by simp))⟩
theorem e24 (a : Nat) (ha : a < 4294967296) : ((a : Int) / 16777216) = ((a / 2 ^ 24 % 256 : Nat) : Int) := by omega
theorem e16 (a : Nat) : ((a : Int) / 65536 % 256) = ((a / 2 ^ 16 % 256 : Nat) : Int) := by omega
theorem e8 (a : Nat) : ((a : Int) / 256 % 256) = ((a / 2 ^ 8 % 256 : Nat) : Int) := by omega
theorem e0 (a : Nat) : ((a : Int) % 256) = ((a / 2 ^ 0 % 256 : Nat) : Int) := by omega
theorem refOct_any (a k : Nat) (w : World) : Calls Tryd.prog 16 #[.int .i64 ((a / 2 ^ k % 256 : Nat) : Int)] w fun e w' => e = .returned (.string (bs (oct a k))) ∧ Below w.heap.size w w' :=
  refD_any _ (by omega) (by omega) w
set_option maxHeartbeats 4000000 in
theorem refPrefix_good (a : Nat) (ha : a < 4294967296) (n : Int) (hs : snd a n = true) (hn : 0 ≤ n ∧ n ≤ 32) (w : World) :
    Calls Tryd.prog 6 #[pv a n] w fun e w' => e = .returned (.tuple #[.string (bs (pfxL a n)), .int .i64 0]) ∧ Below w.heap.size w w' := by
  unfold pv
  go_enter Tryd.func6, Tryd.ntmps6
  go_wp2_with fail
  refine (refOk_any a ha n _).mono ?_
  rintro e w1 ⟨rfl, hb1⟩
  rw [hs]
  have c0 : w1.cell? ⟨w.heap.size, 0, none⟩ = some (.int .u32 a) := by
    rw [hb1.cell (by simp)]; go_simp
  have c1 : w1.cell? ⟨w.heap.size, 1, none⟩ = some (.int .i64 n) := by
    rw [hb1.cell (by simp)]; go_simp
  have hb : Below w.heap.size w w1 := ((Below.refl _ w).alloc (Nat.le_refl _) _).trans (hb1.mono (by simp))
  clear hb1
  have hz0 : (bs (oct a 24)).size ≤ 20 := by rw [bs_size]; exact oct_size _ _
  have hz1 : (bs (oct a 16)).size ≤ 20 := by rw [bs_size]; exact oct_size _ _
  have hz2 : (bs (oct a 8)).size ≤ 20 := by rw [bs_size]; exact oct_size _ _
  have hz3 : (bs (oct a 0)).size ≤ 20 := by rw [bs_size]; exact oct_size _ _
  have hz4 : (bs (itoa n)).size ≤ 21 := by rw [bs_size]; exact itoa_len n (by omega) (by omega)
  go_wp2_with fail
  have x1 : ∀ m : ExtW w1, (exw m).cell? ⟨w.heap.size, 1, none⟩ = some (.int .i64 n) := exw_cell c1
  have x0 : ∀ m : ExtW w1, (exw m).cell? ⟨w.heap.size, 0, none⟩ = some (.int .u32 a) := exw_cell c0
  refine region_ext (by kernel_rfl) (by kernel_rfl) ?_
  repeat (go_big_quiet_step (first | (go_at_call 16; first | (rw [e24 a ha]; exact ext_call (refOct_any _ _ _)) | (rw [e16 a]; exact ext_call (refOct_any _ _ _)) | (rw [e8 a]; exact ext_call (refOct_any _ _ _)) | (rw [e0 a]; exact ext_call (refOct_any _ _ _)) | exact ext_call (refD_any _ (by omega) (by omega) _))))
  refine wpQuiet_nil ?_
  rintro w3 ⟨m, rfl⟩
  go_wp2
  go_ret2
  refine ⟨?_, hb.trans ((exw_below m).mono hb.size)⟩
  unfold pfxL
  simp only [← bs_append]
  rfl
end Go.Proofs.YtcociflljbaicaaDoor
namespace Go.Proofs.YtcociflljbaicaaDoor
open Go.Lib

theorem index_hit (s : UInt8) (y : List UInt8) : ∀ (x : List UInt8), (∀ c ∈ x, c ≠ s) → index (x ++ s :: y) [s] = (x.length : Int)
  | [], _ => by simp [index]
  | b :: x, h => by
    have ih := index_hit s y x fun c hc => h c (List.mem_cons_of_mem _ hc)
    have hb : (s == b) = false := beq_eq_false_iff_ne.2 fun e => h b List.mem_cons_self e.symm
    rw [List.cons_append, index]
    simp only [List.isPrefixOf, hb, Bool.false_and]
    rw [ih]
    rw [if_neg (by decide), if_neg (by simp)]
    simp
theorem cut_hit (s : UInt8) (x y : List UInt8) (h : ∀ c ∈ x, c ≠ s) : cut (x ++ s :: y) [s] = (x, y, true) := by
  unfold cut
  rw [index_hit s y x h, if_pos (by omega)]
  simp
theorem splitK_hit (s : UInt8) (k : Nat) (x y : List UInt8) (h : ∀ c ∈ x, c ≠ s) : splitK [s] 0 (k + 1) (x ++ s :: y) = x :: splitK [s] 0 k y := by
  rw [splitK, index_hit s y x h, if_neg (by simp)]
  simp
theorem bs_self (x : ByteArray) : bs x.data.toList = x := by
  apply ba_ext
  rfl
theorem map_bs {ws : List ByteArray} {L : List (List UInt8)} (h : ws.map (·.data.toList) = L) : ws = L.map bs := by
  rw [← h, List.map_map]
  conv => lhs; rw [← List.map_id ws]
  apply List.map_congr_left
  intro x _
  exact (bs_self x).symm
theorem oct_no (a k : Nat) (s : UInt8) (hs : s.toNat < 48) : ∀ c ∈ oct a k, c ≠ s := by
  intro c hc e
  subst e
  unfold oct at hc
  rw [itoa_nonneg] at hc
  have := decDigits_dig _ _ hc
  unfold dig at this
  omega
/-- The address part. -/
def adrL (a : Nat) : List UInt8 := oct a 24 ++ 46 :: (oct a 16 ++ 46 :: (oct a 8 ++ 46 :: oct a 0))
theorem pfxL_eq (a : Nat) (n : Int) : pfxL a n = adrL a ++ 47 :: itoa n := by simp [pfxL, adrL]
theorem adr_no (a : Nat) : ∀ c ∈ adrL a, c ≠ 47 := by
  intro c hc
  simp only [adrL, List.mem_append, List.mem_cons] at hc
  rcases hc with h | rfl | h | rfl | h | rfl | h
  · exact oct_no _ _ _ (by decide) c h
  · decide
  · exact oct_no _ _ _ (by decide) c h
  · decide
  · exact oct_no _ _ _ (by decide) c h
  · decide
  · exact oct_no _ _ _ (by decide) c h
theorem cut_pfx (a : Nat) (n : Int) : cut (pfxL a n) [47] = (adrL a, itoa n, true) := by
  rw [pfxL_eq]
  exact cut_hit _ _ _ (adr_no a)
theorem oct_count (a k : Nat) : (oct a k).count 46 = 0 := List.count_eq_zero.2 fun h => oct_no a k 46 (by decide) 46 h rfl
theorem adr_count (a : Nat) : count (adrL a) [46] = 3 := by
  rw [count_one]
  simp [adrL, List.count_append, oct_count]
theorem adr_split (a : Nat) : splitK [46] 0 3 (adrL a) = [oct a 24, oct a 16, oct a 8, oct a 0] := by
  unfold adrL
  rw [splitK_hit _ _ _ _ (oct_no _ _ _ (by decide)), splitK_hit _ _ _ _ (oct_no _ _ _ (by decide)), splitK_hit _ _ _ _ (oct_no _ _ _ (by decide)), splitK]
theorem adr_words (a : Nat) : splitB (bs [46]) 0 (countB (bs (adrL a)) (bs [46])) (bs (adrL a)) = [bs (oct a 24), bs (oct a 16), bs (oct a 8), bs (oct a 0)] := by
  have e : countB (bs (adrL a)) (bs [46]) = 3 := adr_count a
  rw [e]
  exact map_bs (L := [oct a 24, oct a 16, oct a 8, oct a 0]) ((splitB_data _ _ _ _).trans (adr_split a))
theorem oct_atoi (a k : Nat) : atoiAll (bs (oct a k)).data.toList = .ok ((a / 2 ^ k % 256 : Nat) : Int) := by
  have h : a / 2 ^ k % 256 < 256 := Nat.mod_lt _ (by decide)
  show atoiAll (itoa ((a / 2 ^ k % 256 : Nat) : Int)) = _
  generalize a / 2 ^ k % 256 = v at h
  exact atoi_itoa (v : Int) (by omega) (by omega)

/-- A byte behind an address. -/
def put8 (A : Nat) (n : Int) : Nat := A * 256 % 4294967296 + (n % 256).toNat
theorem put8_lt (A : Nat) (n : Int) : put8 A n < 4294967296 := by unfold put8; omega
theorem put8_val (A : Nat) (n : Int) : Go.bits .or .u32 (IntKind.u32.wrap ((A : Int) * 256)) (Go.bits .and .u32 (IntKind.u32.wrap n) 255) = (put8 A n : Int) := by
  have h1 := bits_mask .u32 32 (by decide) wraps_u32 8 (by decide) (IntKind.u32.wrap n) (by rw [IntKind.wrap_u32]; omega) (by rw [IntKind.wrap_u32]; omega)
  rw [show ((2 : Int) ^ 8 - 1) = 255 by decide] at h1
  rw [h1, bits_join .u32 32 (by decide) wraps_u32 8 _ _ (by rw [IntKind.wrap_u32]; omega) (by rw [IntKind.wrap_u32]; omega) (by rw [IntKind.wrap_u32]; omega) (by omega) (by omega) (by omega), IntKind.wrap_u32, IntKind.wrap_u32]
  unfold put8
  omega
/-- The address behind i bytes. -/
def part (a i : Nat) : Nat := a / 2 ^ (32 - 8 * i)
theorem part_next (a : Nat) (ha : a < 4294967296) (i : Nat) (hi : i < 4) : put8 (part a i) ((a / 2 ^ (24 - 8 * i) % 256 : Nat) : Int) = part a (i + 1) := by
  have h : i = 0 ∨ i = 1 ∨ i = 2 ∨ i = 3 := by omega
  unfold put8 part
  rcases h with rfl | rfl | rfl | rfl <;> simp <;> omega
end Go.Proofs.YtcociflljbaicaaDoor
