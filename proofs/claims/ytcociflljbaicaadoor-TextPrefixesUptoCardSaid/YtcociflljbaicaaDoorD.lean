/- The reference's Prefix; awake. -/
import Derived.Test.YtcociflljbaicaaDoorC
namespace Go.Proofs.YtcociflljbaicaaDoor
open Go.RowKit Go.Lib Go.Proofs.YtcociflljbaicaaDoor.PTextPrefixes

theorem refPrefix_bad (a : Nat) (ha : a < 4294967296) (n : Int) (hs : snd a n = false) (w : World) :
    Calls Tryd.prog 6 #[pv a n] w fun e w' => e = .returned (.tuple #[.string (bs []), .int .i64 2]) ∧ Below w.heap.size w w' := by
  unfold pv
  go_enter Tryd.func6, Tryd.ntmps6
  go_wp2_with fail
  refine (refOk_any a ha n _).mono ?_
  rintro e w1 ⟨rfl, hb1⟩
  rw [hs]
  go_wp2
  go_ret2
  exact ⟨rfl, ((Below.refl _ w).alloc (Nat.le_refl _) _).trans (hb1.mono (by simp))⟩
theorem e24 (a : Nat) (ha : a < 4294967296) : ((a : Int) / 16777216) = ((a / 2 ^ 24 % 256 : Nat) : Int) := by omega
theorem e16 (a : Nat) : ((a : Int) / 65536 % 256) = ((a / 2 ^ 16 % 256 : Nat) : Int) := by omega
theorem e8 (a : Nat) : ((a : Int) / 256 % 256) = ((a / 2 ^ 8 % 256 : Nat) : Int) := by omega
theorem e0 (a : Nat) : ((a : Int) % 256) = ((a / 2 ^ 0 % 256 : Nat) : Int) := by omega
theorem refOct_any (a k : Nat) (w : World) : Calls Tryd.prog 16 #[.int .i64 ((a / 2 ^ k % 256 : Nat) : Int)] w fun e w' => e = .returned (.string (bs (oct a k))) ∧ Below w.heap.size w w' :=
  refD_any _ (by omega) (by omega) w
set_option maxHeartbeats 4000000 in
theorem refPrefix_good (a : Nat) (ha : a < 4294967296) (n : Int) (hs : snd a n = true) (hn : 0 ≤ n ∧ n ≤ 32) (w : World) :
    Calls Tryd.prog 6 #[pv a n] w fun e w' => e = .returned (.tuple #[.string (bs (pfxL a n)), .int .i64 0]) ∧ Below w.heap.size w w' := by
  unfold pv
  go_enter Tryd.func6, Tryd.ntmps6
  go_wp2_with fail
  refine (refOk_any a ha n _).mono ?_
  rintro e w1 ⟨rfl, hb1⟩
  rw [hs]
  have c0 : w1.cell? ⟨w.heap.size, 0, none⟩ = some (.int .u32 a) := by
    rw [hb1.cell (by simp)]; go_simp
  have c1 : w1.cell? ⟨w.heap.size, 1, none⟩ = some (.int .i64 n) := by
    rw [hb1.cell (by simp)]; go_simp
  have hb : Below w.heap.size w w1 := ((Below.refl _ w).alloc (Nat.le_refl _) _).trans (hb1.mono (by simp))
  clear hb1
  have hz0 : (bs (oct a 24)).size ≤ 20 := by rw [bs_size]; exact oct_size _ _
  have hz1 : (bs (oct a 16)).size ≤ 20 := by rw [bs_size]; exact oct_size _ _
  have hz2 : (bs (oct a 8)).size ≤ 20 := by rw [bs_size]; exact oct_size _ _
  have hz3 : (bs (oct a 0)).size ≤ 20 := by rw [bs_size]; exact oct_size _ _
  have hz4 : (bs (itoa n)).size ≤ 21 := by rw [bs_size]; exact itoa_len n (by omega) (by omega)
  go_wp2_with fail
  have x1 : ∀ m : ExtW w1, (exw m).cell? ⟨w.heap.size, 1, none⟩ = some (.int .i64 n) := exw_cell c1
  have x0 : ∀ m : ExtW w1, (exw m).cell? ⟨w.heap.size, 0, none⟩ = some (.int .u32 a) := exw_cell c0
  refine region_ext (by kernel_rfl) (by kernel_rfl) ?_
  repeat (go_big_quiet_step (first | (go_at_call 16; first | (rw [e24 a ha]; exact ext_call (refOct_any _ _ _)) | (rw [e16 a]; exact ext_call (refOct_any _ _ _)) | (rw [e8 a]; exact ext_call (refOct_any _ _ _)) | (rw [e0 a]; exact ext_call (refOct_any _ _ _)) | exact ext_call (refD_any _ (by omega) (by omega) _))))
  refine wpQuiet_nil ?_
  rintro w3 ⟨m, rfl⟩
  go_wp2
  go_ret2
  refine ⟨?_, hb.trans ((exw_below m).mono hb.size)⟩
  unfold pfxL
  simp only [← bs_append]
  rfl
end Go.Proofs.YtcociflljbaicaaDoor
