/- The law TextPrefixes. -/
import Derived.Test.YtcociflljbaicaaDoorZB
namespace Go.Proofs.YtcociflljbaicaaDoor
open Go.RowKit Go.Lib

theorem awake_text : bs (pfxL 167772160 8) = ⟨#[49, 48, 46, 48, 46, 48, 46, 48, 47, 56]⟩ := by
  apply ba_ext
  decide +kernel
theorem awake_true (w : World) (hv : VarsW w) : Calls Tryd.prog 9 #[] w fun e w' => e = .returned (.bool true) ∧ Below w.heap.size w w' := by
  go_enter Tryd.func9, Tryd.ntmps9
  go_wp2_with fail
  refine (Prefix_good 167772160 (by decide) 8 (by decide) (by decide) w hv).mono ?_
  rintro e w1 ⟨rfl, hb⟩
  rw [awake_text]
  go_wp2
  go_ret
  exact ⟨rfl, hb⟩
theorem str_same (t : ByteArray) : (t.toList == t.toList) = true := by simp
set_option maxHeartbeats 8000000 in
theorem TextPrefixes_good (a : Nat) (ha : a < 4294967296) (n : Int) (hs : snd a n = true) (s : ByteArray) (hz : s.size ≤ 1048576) (w : World) (hv : VarsW w) :
    Calls Tryd.prog 3 #[pv a n, .string s] w fun e w' => e = .returned (.bool true) ∧ Below w.heap.size w w' := by
  obtain ⟨A, m, er, hR⟩ := RP.total s.data.toList
  have HR := Lib.hid hR
  clear hR
  have hbd := snd_bd hs
  have hR2 : RP (bs (pfxL a n)).data.toList a n 0 := .inl ⟨rfl, hs, ha, rfl⟩
  have hz2 : (bs (pfxL a n)).size ≤ 1048576 := by rw [bs_size]; have := pfx_len a n hs; omega
  have tt := str_same (bs (pfxL a n))
  unfold pv
  go_enter Tryd.func3, Tryd.ntmps3
  go_wp2_with fail
  obtain ⟨W0, hW0⟩ : ∃ W0, W0 = w.alloc (.cells #[.int .u32 a, .int .i64 n] 24) := ⟨_, rfl⟩
  rw [← hW0]
  have hb0 : Below w.heap.size w W0 := by rw [hW0]; exact (Below.refl _ w).alloc (Nat.le_refl _) _
  have c0 : W0.cell? ⟨w.heap.size, 0, none⟩ = some (.int .u32 a) := by rw [hW0]; go_simp
  have c1 : W0.cell? ⟨w.heap.size, 1, none⟩ = some (.int .i64 n) := by rw [hW0]; go_simp
  clear hW0
  have hv0 := hv.below hb0
  refine (Prefix_good a ha n hs hbd W0 hv0).mono ?_
  rintro e w1 ⟨rfl, hb1⟩
  have c01 := (hb1.cell (World.block_lt_of_cell? _ _ c0)).trans c0
  have c11 := (hb1.cell (World.block_lt_of_cell? _ _ c1)).trans c1
  have hc1 := hb0.trans (hb1.mono hb0.size)
  clear c0 c1
  go_wp2_with fail
  refine (refPrefix_good a ha n hs hbd w1).mono ?_
  rintro e w2 ⟨rfl, hb2⟩
  have c02 := (hb2.cell (World.block_lt_of_cell? _ _ c01)).trans c01
  have c12 := (hb2.cell (World.block_lt_of_cell? _ _ c11)).trans c11
  have hc2 := hc1.trans (hb2.mono hc1.size)
  clear c01 c11
  go_wp2_with fail
  refine (ReadPrefix_any s hz A m er HR.out w2 (hv.below hc2)).mono ?_
  rintro e w3 ⟨rfl, hb3⟩
  unfold pv
  have c03 := (hb3.cell (World.block_lt_of_cell? _ _ c02)).trans c02
  have c13 := (hb3.cell (World.block_lt_of_cell? _ _ c12)).trans c12
  have hc3 := hc2.trans (hb3.mono hc2.size)
  clear c02 c12
  go_wp2_with fail
  obtain ⟨Q, hQ⟩ : ∃ Q, Q = w3.heap.size := ⟨_, rfl⟩
  obtain ⟨W3, hW3⟩ : ∃ W3, W3 = w3.alloc (.cells #[.int .u32 A, .int .i64 m] 24) := ⟨_, rfl⟩
  rw [← hW3, ← hQ]
  have hd : Below w3.heap.size w3 W3 := by rw [hW3]; exact (Below.refl _ w3).alloc (Nat.le_refl _) _
  have d0 : W3.cell? ⟨Q, 0, none⟩ = some (.int .u32 A) := by rw [hW3, hQ]; go_simp
  have d1 : W3.cell? ⟨Q, 1, none⟩ = some (.int .i64 m) := by rw [hW3, hQ]; go_simp
  have c04 := (hd.cell (World.block_lt_of_cell? _ _ c03)).trans c03
  have c14 := (hd.cell (World.block_lt_of_cell? _ _ c13)).trans c13
  have hc4 := hc3.trans (hd.mono hc3.size)
  clear hW3 hQ c03 c13
  refine (refRead_any s A m er HR.out W3).mono ?_
  rintro e w4 ⟨rfl, hb4⟩
  unfold pv
  have c05 := (hb4.cell (World.block_lt_of_cell? _ _ c04)).trans c04
  have c15 := (hb4.cell (World.block_lt_of_cell? _ _ c14)).trans c14
  have d05 := (hb4.cell (World.block_lt_of_cell? _ _ d0)).trans d0
  have d15 := (hb4.cell (World.block_lt_of_cell? _ _ d1)).trans d1
  have hc5 := hc4.trans (hb4.mono hc4.size)
  clear c04 c14 d0 d1
  go_wp2_with fail
  obtain ⟨R, hQ⟩ : ∃ R, R = w4.heap.size := ⟨_, rfl⟩
  obtain ⟨W4, hW4⟩ : ∃ W4, W4 = w4.alloc (.cells #[.int .u32 A, .int .i64 m] 24) := ⟨_, rfl⟩
  rw [← hW4, ← hQ]
  have hd4 : Below w4.heap.size w4 W4 := by rw [hW4]; exact (Below.refl _ w4).alloc (Nat.le_refl _) _
  have e0 : W4.cell? ⟨R, 0, none⟩ = some (.int .u32 A) := by rw [hW4, hQ]; go_simp
  have e1 : W4.cell? ⟨R, 1, none⟩ = some (.int .i64 m) := by rw [hW4, hQ]; go_simp
  have c06 := (hd4.cell (World.block_lt_of_cell? _ _ c05)).trans c05
  have c16 := (hd4.cell (World.block_lt_of_cell? _ _ c15)).trans c15
  have d06 := (hd4.cell (World.block_lt_of_cell? _ _ d05)).trans d05
  have d16 := (hd4.cell (World.block_lt_of_cell? _ _ d15)).trans d15
  have hc6 := hc5.trans (hd4.mono hc5.size)
  clear hW4 hQ c05 c15 d05 d15
  refine (awake_true W4 (hv.below hc6)).mono ?_
  rintro e w5 ⟨rfl, hb5⟩
  have c07 := (hb5.cell (World.block_lt_of_cell? _ _ c06)).trans c06
  have c17 := (hb5.cell (World.block_lt_of_cell? _ _ c16)).trans c16
  have d07 := (hb5.cell (World.block_lt_of_cell? _ _ d06)).trans d06
  have d17 := (hb5.cell (World.block_lt_of_cell? _ _ d16)).trans d16
  have e07 := (hb5.cell (World.block_lt_of_cell? _ _ e0)).trans e0
  have e17 := (hb5.cell (World.block_lt_of_cell? _ _ e1)).trans e1
  have hc7 := hc6.trans (hb5.mono hc6.size)
  clear c06 c16 d06 d16 e0 e1
  go_wp2_with fail
  refine (ReadPrefix_any (bs (pfxL a n)) hz2 a n 0 hR2 w5 (hv.below hc7)).mono ?_
  rintro e w6 ⟨rfl, hb6⟩
  unfold pv
  have c08 := (hb6.cell (World.block_lt_of_cell? _ _ c07)).trans c07
  have c18 := (hb6.cell (World.block_lt_of_cell? _ _ c17)).trans c17
  have hc8 := hc7.trans (hb6.mono hc7.size)
  have hlt := World.block_lt_of_cell? _ _ c08
  clear c07 c17 d07 d17 e07 e17
  go_wp2_with fail
  go_ret
  exact ⟨rfl, hc8.alloc hc8.size _⟩
set_option maxHeartbeats 8000000 in
theorem TextPrefixes_bad (a : Nat) (ha : a < 4294967296) (n : Int) (hs : snd a n = false) (s : ByteArray) (hz : s.size ≤ 1048576) (w : World) (hv : VarsW w) :
    Calls Tryd.prog 3 #[pv a n, .string s] w fun e w' => e = .returned (.bool true) ∧ Below w.heap.size w w' := by
  obtain ⟨A, m, er, hR⟩ := RP.total s.data.toList
  have HR := Lib.hid hR
  clear hR
  obtain ⟨A2, m2, er2, hR2⟩ := RP.total (bs []).data.toList
  have HR2 := Lib.hid hR2
  clear hR2
  have hz2 : (bs []).size ≤ 1048576 := by rw [bs_size]; simp
  have tt := str_same (bs [])
  unfold pv
  go_enter Tryd.func3, Tryd.ntmps3
  go_wp2_with fail
  obtain ⟨W0, hW0⟩ : ∃ W0, W0 = w.alloc (.cells #[.int .u32 a, .int .i64 n] 24) := ⟨_, rfl⟩
  rw [← hW0]
  have hb0 : Below w.heap.size w W0 := by rw [hW0]; exact (Below.refl _ w).alloc (Nat.le_refl _) _
  have c0 : W0.cell? ⟨w.heap.size, 0, none⟩ = some (.int .u32 a) := by rw [hW0]; go_simp
  have c1 : W0.cell? ⟨w.heap.size, 1, none⟩ = some (.int .i64 n) := by rw [hW0]; go_simp
  clear hW0
  have hv0 := hv.below hb0
  refine (Prefix_bad a ha n hs W0).mono ?_
  rintro e w1 ⟨rfl, hb1⟩
  have c01 := (hb1.cell (World.block_lt_of_cell? _ _ c0)).trans c0
  have c11 := (hb1.cell (World.block_lt_of_cell? _ _ c1)).trans c1
  have hc1 := hb0.trans (hb1.mono hb0.size)
  clear c0 c1
  go_wp2_with fail
  refine (refPrefix_bad a ha n hs w1).mono ?_
  rintro e w2 ⟨rfl, hb2⟩
  have c02 := (hb2.cell (World.block_lt_of_cell? _ _ c01)).trans c01
  have c12 := (hb2.cell (World.block_lt_of_cell? _ _ c11)).trans c11
  have hc2 := hc1.trans (hb2.mono hc1.size)
  clear c01 c11
  go_wp2_with fail
  refine (ReadPrefix_any s hz A m er HR.out w2 (hv.below hc2)).mono ?_
  rintro e w3 ⟨rfl, hb3⟩
  unfold pv
  have c03 := (hb3.cell (World.block_lt_of_cell? _ _ c02)).trans c02
  have c13 := (hb3.cell (World.block_lt_of_cell? _ _ c12)).trans c12
  have hc3 := hc2.trans (hb3.mono hc2.size)
  clear c02 c12
  go_wp2_with fail
  obtain ⟨Q, hQ⟩ : ∃ Q, Q = w3.heap.size := ⟨_, rfl⟩
  obtain ⟨W3, hW3⟩ : ∃ W3, W3 = w3.alloc (.cells #[.int .u32 A, .int .i64 m] 24) := ⟨_, rfl⟩
  rw [← hW3, ← hQ]
  have hd : Below w3.heap.size w3 W3 := by rw [hW3]; exact (Below.refl _ w3).alloc (Nat.le_refl _) _
  have d0 : W3.cell? ⟨Q, 0, none⟩ = some (.int .u32 A) := by rw [hW3, hQ]; go_simp
  have d1 : W3.cell? ⟨Q, 1, none⟩ = some (.int .i64 m) := by rw [hW3, hQ]; go_simp
  have c04 := (hd.cell (World.block_lt_of_cell? _ _ c03)).trans c03
  have c14 := (hd.cell (World.block_lt_of_cell? _ _ c13)).trans c13
  have hc4 := hc3.trans (hd.mono hc3.size)
  clear hW3 hQ c03 c13
  refine (refRead_any s A m er HR.out W3).mono ?_
  rintro e w4 ⟨rfl, hb4⟩
  unfold pv
  have c05 := (hb4.cell (World.block_lt_of_cell? _ _ c04)).trans c04
  have c15 := (hb4.cell (World.block_lt_of_cell? _ _ c14)).trans c14
  have d05 := (hb4.cell (World.block_lt_of_cell? _ _ d0)).trans d0
  have d15 := (hb4.cell (World.block_lt_of_cell? _ _ d1)).trans d1
  have hc5 := hc4.trans (hb4.mono hc4.size)
  clear c04 c14 d0 d1
  go_wp2_with fail
  obtain ⟨R, hQ⟩ : ∃ R, R = w4.heap.size := ⟨_, rfl⟩
  obtain ⟨W4, hW4⟩ : ∃ W4, W4 = w4.alloc (.cells #[.int .u32 A, .int .i64 m] 24) := ⟨_, rfl⟩
  rw [← hW4, ← hQ]
  have hd4 : Below w4.heap.size w4 W4 := by rw [hW4]; exact (Below.refl _ w4).alloc (Nat.le_refl _) _
  have e0 : W4.cell? ⟨R, 0, none⟩ = some (.int .u32 A) := by rw [hW4, hQ]; go_simp
  have e1 : W4.cell? ⟨R, 1, none⟩ = some (.int .i64 m) := by rw [hW4, hQ]; go_simp
  have c06 := (hd4.cell (World.block_lt_of_cell? _ _ c05)).trans c05
  have c16 := (hd4.cell (World.block_lt_of_cell? _ _ c15)).trans c15
  have d06 := (hd4.cell (World.block_lt_of_cell? _ _ d05)).trans d05
  have d16 := (hd4.cell (World.block_lt_of_cell? _ _ d15)).trans d15
  have hc6 := hc5.trans (hd4.mono hc5.size)
  clear hW4 hQ c05 c15 d05 d15
  refine (awake_true W4 (hv.below hc6)).mono ?_
  rintro e w5 ⟨rfl, hb5⟩
  have c07 := (hb5.cell (World.block_lt_of_cell? _ _ c06)).trans c06
  have c17 := (hb5.cell (World.block_lt_of_cell? _ _ c16)).trans c16
  have d07 := (hb5.cell (World.block_lt_of_cell? _ _ d06)).trans d06
  have d17 := (hb5.cell (World.block_lt_of_cell? _ _ d16)).trans d16
  have e07 := (hb5.cell (World.block_lt_of_cell? _ _ e0)).trans e0
  have e17 := (hb5.cell (World.block_lt_of_cell? _ _ e1)).trans e1
  have hc7 := hc6.trans (hb5.mono hc6.size)
  clear c06 c16 d06 d16 e0 e1
  go_wp2_with fail
  refine (ReadPrefix_any (bs []) hz2 A2 m2 er2 HR2.out w5 (hv.below hc7)).mono ?_
  rintro e w6 ⟨rfl, hb6⟩
  unfold pv
  have hc8 := hc7.trans (hb6.mono hc7.size)
  clear c07 c17 d07 d17 e07 e17
  go_wp2_with fail
  go_ret
  exact ⟨rfl, hc8.alloc hc8.size _⟩
theorem TextPrefixes_walk (a : Nat) (ha : a < 4294967296) (n : Int) (s : ByteArray) (hz : s.size ≤ 1048576) (w : World) (hv : VarsW w) :
    Calls Tryd.prog 3 #[pv a n, .string s] w fun e w' => e = .returned (.bool true) ∧ Below w.heap.size w w' := by
  cases hs : snd a n with
  | true => exact TextPrefixes_good a ha n hs s hz w hv
  | false => exact TextPrefixes_bad a ha n hs s hz w hv
end Go.Proofs.YtcociflljbaicaaDoor
