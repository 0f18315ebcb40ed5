/- Prefix, by the program and by the reference; awake. -/
import Derived.Test.YtcociflljbaicaaDoorV
import Derived.Test.YtcociflljbaicaaDoorB
import Derived.Test.YtcociflljbaicaaDoorQ
import Derived.BigRegion
import Derived.Lib.ItoaLen
namespace Go.Proofs.YtcociflljbaicaaDoor
open Go.RowKit Go.Lib Go.Proofs.YtcociflljbaicaaDoor.PTextPrefixes

def oct (a k : Nat) : List UInt8 := itoa ((a / 2 ^ k % 256 : Nat) : Int)
def octs (a : Nat) : Nat → List UInt8
  | 0 => []
  | g + 1 => octs a g ++ (oct a (24 - 8 * g) ++ [46])
/-- The text of a prefix. -/
def pfxL (a : Nat) (n : Int) : List UInt8 := oct a 24 ++ [46] ++ oct a 16 ++ [46] ++ oct a 8 ++ [46] ++ oct a 0 ++ [47] ++ itoa n
def bs (l : List UInt8) : ByteArray := ⟨l.toArray⟩
theorem bs_size (l : List UInt8) : (bs l).size = l.length := by simp [bs, ByteArray.size]
theorem bs_data (l : List UInt8) : (bs l).data.toList = l := rfl
theorem bs_append (l r : List UInt8) : bs l ++ bs r = bs (l ++ r) := by
  apply ba_ext
  simp [bs]
def pv (a : Nat) (n : Int) : Value := .agg #[.int .u32 a, .int .i64 n]
theorem sound_any (a : Nat) (ha : a < 4294967296) (n : Int) (w : World) : Calls Tryd.prog 13 #[pv a n] w fun e w' => e = .returned (.bool (snd a n)) ∧ Below w.heap.size w w' :=
  text_sound.calls a n _ w (sound_plain a ha n)
theorem refOk_any (a : Nat) (ha : a < 4294967296) (n : Int) (w : World) : Calls Tryd.prog 15 #[pv a n] w fun e w' => e = .returned (.bool (snd a n)) ∧ Below w.heap.size w w' :=
  causewayref06_PrefixOk.calls 40 a n _ w (prefixOk_plain a ha n)
theorem refD_any (n : Int) (h0 : -9223372036854775808 ≤ n) (h1 : n < 9223372036854775808) (w : World) : Calls Tryd.prog 16 #[.int .i64 n] w fun e w' => e = .returned (.string (bs (itoa n))) ∧ Below w.heap.size w w' := by
  obtain ⟨k, hk⟩ := digits_any n h0 h1
  exact causewayref07_d.calls k n _ w (by unfold causewayref07_d.f; rw [hk]; rfl)
theorem oct_size (a k : Nat) : (oct a k).length ≤ 20 := by
  unfold oct
  have h : a / 2 ^ k % 256 < 256 := Nat.mod_lt _ (by decide)
  generalize a / 2 ^ k % 256 = v at h
  have : ∀ v : Nat, v < 256 → (itoa (v : Int)).length ≤ 20 := by decide +kernel
  exact this v h
theorem octs_size (a : Nat) : ∀ g, (octs a g).length ≤ 21 * g
  | 0 => by simp [octs]
  | g + 1 => by
    have := octs_size a g
    have := oct_size a (24 - 8 * g)
    simp [octs]
    omega
theorem octs_four (a : Nat) (n : Int) : (octs a 4).take ((octs a 4).length - 1) ++ [47] ++ itoa n = pfxL a n := by
  have e : octs a 4 = (oct a 24 ++ [46] ++ oct a 16 ++ [46] ++ oct a 8 ++ [46] ++ oct a 0) ++ [46] := by simp [octs]
  rw [e, List.length_append, show [(46 : UInt8)].length = 1 from rfl, Nat.add_sub_cancel, List.take_left']
  · rfl
  · rfl
theorem itoa_len (n : Int) (h0 : -9223372036854775808 ≤ n) (h1 : n ≤ 9223372036854775807) : (itoa n).length ≤ 21 := itoa_length_le n h0 h1
def kOf : Value → Int
  | .int _ n => n
  | _ => 0
theorem wraps_u32 (n : Int) (h0 : 0 ≤ n) (h1 : n < 2 ^ 32) : IntKind.u32.wrap n = n := by rw [IntKind.wrap_u32]; omega
theorem oct_val (a k : Nat) (h : a < 4294967296) : wrap64 (bits .and .u32 ((a : Int) / 2 ^ k) 255) = ((a / 2 ^ k % 256 : Nat) : Int) := by
  have e : ((a : Int) / 2 ^ k) = ((a / 2 ^ k : Nat) : Int) := by simp
  have h2 : a / 2 ^ k ≤ a := Nat.div_le_self _ _
  rw [e]
  generalize a / 2 ^ k = b at h2
  have := bits_mask .u32 32 (by decide) wraps_u32 8 (by decide) (b : Int) (by omega) (by omega)
  rw [show ((2 : Int) ^ 8 - 1) = 255 by decide] at this
  rw [this]
  unfold wrap64
  omega
theorem Itoa_bs (n : Int) (h0 : -9223372036854775808 ≤ n) (h1 : n ≤ 9223372036854775807) (w : World) (hv : VarsW w) :
    Calls Tryd.prog 14 #[.int .i64 n] w fun e w' => e = .returned (.string (bs (itoa n))) ∧ Below w.heap.size w w' := Itoa_any n h0 h1 w hv
theorem Prefix_bad (a : Nat) (ha : a < 4294967296) (n : Int) (hs : snd a n = false) (w : World) :
    Calls Tryd.prog 5 #[pv a n] w fun e w' => e = .returned (.tuple #[.string (bs []), .int .i64 2]) ∧ Below w.heap.size w w' := by
  unfold pv
  go_enter Tryd.func5, Tryd.ntmps5
  go_wp2_with fail
  refine (sound_any a ha n _).mono ?_
  rintro e w1 ⟨rfl, hb1⟩
  rw [hs]
  go_wp2
  go_ret2
  exact ⟨rfl, ((Below.refl _ w).alloc (Nat.le_refl _) _).trans (hb1.mono (by simp))⟩
set_option maxHeartbeats 4000000 in
theorem Prefix_good (a : Nat) (ha : a < 4294967296) (n : Int) (hs : snd a n = true) (hn : 0 ≤ n ∧ n ≤ 32) (w : World) (hv : VarsW w) :
    Calls Tryd.prog 5 #[pv a n] w fun e w' => e = .returned (.tuple #[.string (bs (pfxL a n)), .int .i64 0]) ∧ Below w.heap.size w w' := by
  unfold pv
  go_enter Tryd.func5, Tryd.ntmps5
  go_wp2_with fail
  refine (sound_any a ha n _).mono ?_
  rintro e w1 ⟨rfl, hb1⟩
  rw [hs]
  have c0 : w1.cell? ⟨w.heap.size, 0, none⟩ = some (.int .u32 a) := by
    rw [hb1.cell (by simp)]; go_simp
  have c1 : w1.cell? ⟨w.heap.size, 1, none⟩ = some (.int .i64 n) := by
    rw [hb1.cell (by simp)]; go_simp
  have hb : Below w.heap.size w w1 := ((Below.refl _ w).alloc (Nat.le_refl _) _).trans (hb1.mono (by simp))
  clear hb1
  go_wp2_with fail
  go_loopw [4, 5] (fun s k wr => ∃ g : Nat, g ≤ 4 ∧ k = .int .i64 (24 - 8 * (g : Int)) ∧ s = .string (bs (octs a g)) ∧ Below w.heap.size w wr ∧ wr.cell? ⟨w.heap.size, 0, none⟩ = some (.int .u32 a) ∧ wr.cell? ⟨w.heap.size, 1, none⟩ = some (.int .i64 n)) (fun _ k _ => (kOf k + 8).toNat)
  case atStart => exact ⟨0, by omega, rfl, rfl, hb, c0, c1⟩
  case round =>
    clear hb c0 c1
    obtain ⟨g, hg, rfl, rfl, hb, c0, c1⟩ := hrel
    by_cases h4 : g < 4
    · have k0 : ¬ ((24 - 8 * (g : Int)) < 0) := by omega
      have k1 : (24 - 8 * (g : Int)) ≥ 0 := by omega
      have hz2 : (bs (octs a g)).size ≤ 84 := by rw [bs_size]; have := octs_size a g; omega
      have hz1 : (bs (oct a (24 - 8 * g))).size ≤ 20 := by rw [bs_size]; exact oct_size _ _
      have hv1 := hv.below hb
      go_wp2_with fail
      rw [oct_val a _ ha]
      refine (Itoa_bs _ (by omega) (by omega) _ hv1).mono ?_
      rintro e w2 ⟨rfl, hb2⟩
      rw [show bs (itoa ((a / 2 ^ (24 - 8 * g) % 256 : Nat) : Int)) = bs (oct a (24 - 8 * g)) from rfl]
      go_wp2_with fail
      go_roundw
      case rel =>
        refine ⟨g + 1, by omega, by congr 1; omega, ?_, hb.trans (hb2.mono hb.size), ?_, ?_⟩
        · rw [octs, ← bs_append, ← bs_append]; rfl
        · rw [hb2.cell (World.block_lt_of_cell? _ _ c0)]; exact c0
        · rw [hb2.cell (World.block_lt_of_cell? _ _ c1)]; exact c1
      case measure => simp only [kOf]; omega
    · obtain rfl : g = 4 := by omega
      have hz2 : (bs (octs a 4)).size ≤ 84 := by rw [bs_size]; exact octs_size a 4
      have hz1 : (bs (itoa n)).size ≤ 21 := by rw [bs_size]; exact itoa_len n (by omega) (by omega)
      have hz3 : 1 ≤ (bs (octs a 4)).size := by rw [bs_size]; simp [octs]; omega
      have hz4 : (0 : Int) ≤ ((bs (octs a 4)).size : Int) - 1 := by omega
      have hz5 : ((bs (octs a 4)).size : Int) - 1 ≤ ((bs (octs a 4)).size : Int) := by omega
      go_wp2_with fail
      have x1 : ∀ m : ExtW wr, (exw m).cell? ⟨w.heap.size, 1, none⟩ = some (.int .i64 n) := exw_cell c1
      have hv1 := hv.below hb
      refine region_ext (by kernel_rfl) (by kernel_rfl) ?_
      repeat (go_big_quiet_step (first | (go_at_call 14; exact ext_call (Itoa_bs _ (by omega) (by omega) _ (hv1.below (exw_below _))))))
      rintro w3 ⟨m, rfl⟩
      go_wp2
      go_ret2
      refine ⟨?_, hb.trans ((exw_below m).mono hb.size)⟩
      rw [← octs_four, ← bs_append, ← bs_append]
      have e : (bs (octs a 4)).extract 0 ((bs (octs a 4)).size - 1) = bs ((octs a 4).take ((octs a 4).length - 1)) := by
        apply ba_ext
        rw [extract_from_zero, bs_size]
        rfl
      rw [e]
      rfl
end Go.Proofs.YtcociflljbaicaaDoor
