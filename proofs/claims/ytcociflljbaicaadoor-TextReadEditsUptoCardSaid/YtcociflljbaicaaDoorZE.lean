/- The reference: Word, cut, Number, Edit, state of ReadEdit -/
import Derived.Test.YtcociflljbaicaaDoorZC
import Derived.Test.YtcociflljbaicaaDoorZB
import Derived.Test.YtcociflljbaicaaDoorZD
namespace Go.Proofs.YtcociflljbaicaaDoor
open Go.RowKit (wrap64)
open Go.RowKit Go.Lib Go.Proofs.YtcociflljbaicaaDoor.PTextPrefixes Go.Proofs.YtcociflljbaicaaDoorW.PrintWords Go.Proofs.YtcociflljbaicaaDoorW.PrintMore

theorem wrap64_i64 (n : Int) : I64 (wrap64 n) := by
  unfold wrap64 I64
  omega
theorem zero_i64 : I64 0 := by unfold I64; omega
theorem num_l0 : ∀ (k : Nat) (x4 : Bool) (x5 : ByteArray) (x6 x7 : Int) (r : Int × Bool), causewayref01_Number.l0 k x4 x5 x6 x7 = some r → I64 r.1
  | 0, _, _, _, _, r, h => by simp [causewayref01_Number.l0] at h
  | k + 1, x4, x5, x6, x7, r, h => by
    unfold causewayref01_Number.l0 at h
    split at h
    · split at h
      · split at h
        · injection h with h; subst h; exact zero_i64
        · split at h
          · injection h with h; subst h; exact zero_i64
          · exact num_l0 k _ _ _ _ r h
      · cases h
    · split at h
      · injection h with h; subst h; exact wrap64_i64 _
      · injection h with h; subst h; exact wrap64_i64 _
theorem num_j2 (k : Nat) (x4 : Bool) (x5 : ByteArray) (b : Bool) (r : Int × Bool) (h : causewayref01_Number.j2 k x4 x5 b = some r) : I64 r.1 := by
  cases k with
  | zero => simp [causewayref01_Number.j2] at h
  | succ k =>
    unfold causewayref01_Number.j2 at h
    repeat' split at h
    all_goals first | exact num_l0 _ _ _ _ _ r h | (cases h; exact zero_i64) | cases h
theorem num_j1r (k : Nat) (x4 : Bool) (x5 : ByteArray) (r : Int × Bool) (h : causewayref01_Number.j1 k x4 x5 = some r) : I64 r.1 := by
  cases k with
  | zero => simp [causewayref01_Number.j1] at h
  | succ k =>
    unfold causewayref01_Number.j1 at h
    repeat' split at h
    all_goals first | exact num_j2 _ _ _ _ r h | cases h
theorem num_j0 (k : Nat) (x0 : ByteArray) (x4 : Bool) (r : Int × Bool) (h : causewayref01_Number.j0 k x0 x4 = some r) : I64 r.1 := by
  cases k with
  | zero => simp [causewayref01_Number.j0] at h
  | succ k =>
    unfold causewayref01_Number.j0 at h
    repeat' split at h
    all_goals first | exact num_j1r _ _ _ r h | cases h
theorem num_f (k : Nat) (x0 : ByteArray) (r : Int × Bool) (h : causewayref01_Number.f k x0 = some r) : I64 r.1 := by
  unfold causewayref01_Number.f at h
  repeat' split at h
  all_goals first | exact num_j0 _ _ _ r h | cases h
/-- Number of any word. -/
theorem refNum_any (l : List UInt8) : ∃ q b, NumR l q b ∧ I64 q ∧ ∀ w, Calls Tryd.prog 21 #[.string (bs l)] w fun e w' => e = .returned (.tuple #[.int .i64 q, .bool b]) ∧ Below w.heap.size w w' := by
  obtain ⟨k, q, b, h1, h2⟩ := num_any (bs l)
  exact ⟨q, b, h2, num_f k _ _ h1, fun w => (causewayref01_Number.calls k (bs l) q b w h1).mono fun e w' ⟨he, hd⟩ => ⟨he, hd.below⟩⟩
theorem refCut_any (s : ByteArray) (hs : s.size ≤ 1000) (w : World) :
    Calls Tryd.prog 20 #[.string s, .int .u8 32] w fun e w' => ∃ v, e = .returned v ∧ SlR w' 1 v (cutA 32 [] s.data.toList).length (strs (cutA 32 [] s.data.toList)) ∧ Below w.heap.size w w' := by
  refine (causewayref07_cut.calls _ s 32 _ w (cut_plain s 32 hs)).mono ?_
  rintro e w' ⟨v, he, hR, hb⟩
  refine ⟨v, he, ?_, hb⟩
  have h1 := SlR.of_owns (Kd.own_of_R hR)
  rw [List.length_map] at h1
  have e1 : encs Value.string ((cutA 32 [] s.data.toList).map bs) = strs (cutA 32 [] s.data.toList) := by
    simp only [encs, List.map_map]
    rfl
  rw [e1] at h1
  exact h1
set_option maxHeartbeats 4000000 in
set_option maxRecDepth 100000 in
theorem refWord_any (k : Nat) (h0 : 0 < k) (h1 : k ≤ 10) (w : World) : Calls Tryd.prog 28 #[.int .i64 (k : Nat)] w fun e w' => e = .returned (.string (bs (W k))) ∧ w = w' := by
  have hk : k = 1 ∨ k = 2 ∨ k = 3 ∨ k = 4 ∨ k = 5 ∨ k = 6 ∨ k = 7 ∨ k = 8 ∨ k = 9 ∨ k = 10 := by omega
  rcases hk with rfl | rfl | rfl | rfl | rfl | rfl | rfl | rfl | rfl | rfl
  all_goals
    go_enter Tryd.func28, Tryd.ntmps28
    go_wp2_with fail
    go_ret
    exact ⟨rfl, rfl⟩
end Go.Proofs.YtcociflljbaicaaDoor
namespace Go.Proofs.YtcociflljbaicaaDoor
open Go.RowKit Go.Lib

theorem line_eq {s : ByteArray} (l : List UInt8) (ws : List (List UInt8)) (hs : s = bs l) (hl : l = joinA 32 ws) :
    Ending.returned (.tuple #[.string s, .int .i64 0]) = .returned (.tuple #[.string (bs (joinA 32 ws)), .int .i64 0]) := by
  rw [← hl, hs]
theorem W_ne (k : Nat) (h0 : 0 < k) (h : k < 11) : ((bs (W k)).toList == []) = false := by
  rw [Lib.toList_data, beq_eq_false_iff_ne]
  have : ∀ k, k < 11 → 0 < k → W k ≠ [] := by decide
  exact this k h h0
theorem refD_i (n : Int) (h : I64 n) (w : World) : Calls Tryd.prog 16 #[.int .i64 n] w fun e w' => e = .returned (.string (bs (itoa n))) ∧ Below w.heap.size w w' := refD_any n h.1 h.2 w
theorem itoa_z (n : Int) (h : I64 n) : (bs (itoa n)).size ≤ 21 := by rw [bs_size]; exact itoa_21 h

set_option maxHeartbeats 8000000 in
set_option maxRecDepth 100000 in
theorem refEdit_drop (a : Int) (ha : I64 a) (w : World) :
    Calls Tryd.prog 29 #[(⟨2, a, 0, 0, 0, 0, 0, 0, 0, false⟩ : Ed).val] w fun e' w' => e' = .returned (.tuple #[.string (bs (joinA 32 [W 2, itoa a])), .int .i64 0]) ∧ Below w.heap.size w w' := by
  have h9 := E9.new w ⟨2, a, 0, 0, 0, 0, 0, 0, 0, false⟩
  have hA := (Below.refl _ w).alloc (Nat.le_refl _) (.cells (⟨2, a, 0, 0, 0, 0, 0, 0, 0, false⟩ : Ed).cells 34)
  have hwz := W_size 2 (by decide)
  have hwn := W_ne 2 (by decide) (by decide)
  have hWd := refWord_any 2 (by decide) (by decide)
  have hza := itoa_z a ha
  simp only [Ed.val, Ed.cells, Int.cast_ofNat_Int] at h9 hA hWd ⊢
  go_enter Tryd.func29, Tryd.ntmps29
  go_wp2_with fail
  refine (hWd _).mono ?_
  rintro e w1 ⟨rfl, rfl⟩
  go_wp2_with fail
  refine (refD_i a ha _).mono ?_
  rintro e w2 ⟨rfl, hb2⟩
  have h92 := h9.below hb2
  have hA2 := hA.trans (hb2.mono (by simp))
  have c0 : w2.cell? ⟨w.heap.size, 0, none⟩ = some (.int .i64 2) := h92.c0
  go_wp2_with fail
  go_ret2
  exact ⟨line_eq (W 2 ++ [32] ++ itoa a) _ (by simp only [← bs_append]; rfl) (by simp [joinA]), hA2⟩
set_option maxHeartbeats 8000000 in
set_option maxRecDepth 100000 in
theorem refEdit_cut (a b : Int) (ha : I64 a) (hb : I64 b) (w : World) :
    Calls Tryd.prog 29 #[(⟨5, a, b, 0, 0, 0, 0, 0, 0, false⟩ : Ed).val] w fun e' w' => e' = .returned (.tuple #[.string (bs (joinA 32 [W 5, itoa a, itoa b])), .int .i64 0]) ∧ Below w.heap.size w w' := by
  have h9 := E9.new w ⟨5, a, b, 0, 0, 0, 0, 0, 0, false⟩
  have hA := (Below.refl _ w).alloc (Nat.le_refl _) (.cells (⟨5, a, b, 0, 0, 0, 0, 0, 0, false⟩ : Ed).cells 34)
  have hwz := W_size 5 (by decide)
  have hwn := W_ne 5 (by decide) (by decide)
  have hWd := refWord_any 5 (by decide) (by decide)
  have hza := itoa_z a ha
  simp only [Ed.val, Ed.cells, Int.cast_ofNat_Int] at h9 hA hWd ⊢
  go_enter Tryd.func29, Tryd.ntmps29
  go_wp2_with fail
  refine (hWd _).mono ?_
  rintro e w1 ⟨rfl, rfl⟩
  have hzb := itoa_z b hb
  go_wp2_with fail
  refine (refD_i a ha _).mono ?_
  rintro e w2 ⟨rfl, hb2⟩
  have h92 := h9.below hb2
  have hA2 := hA.trans (hb2.mono (by simp))
  have c0 : w2.cell? ⟨w.heap.size, 0, none⟩ = some (.int .i64 5) := h92.c0
  have c2 : w2.cell? ⟨w.heap.size, 2, none⟩ = some (.int .i64 b) := h92.c2
  go_wp2_with fail
  refine (refD_i b hb _).mono ?_
  rintro e w3 ⟨rfl, hb3⟩
  go_wp2_with fail
  go_ret2
  exact ⟨line_eq (W 5 ++ [32] ++ itoa a ++ ([32] ++ itoa b)) _ (by simp only [← bs_append]; rfl) (by simp [joinA]), hA2.trans (hb3.mono hA2.size)⟩
set_option maxHeartbeats 8000000 in
set_option maxRecDepth 100000 in
theorem refEdit_cost (a b c : Int) (ha : I64 a) (hb : I64 b) (hc : I64 c) (w : World) :
    Calls Tryd.prog 29 #[(⟨6, a, b, c, 0, 0, 0, 0, 0, false⟩ : Ed).val] w fun e' w' => e' = .returned (.tuple #[.string (bs (joinA 32 [W 6, itoa a, itoa b, itoa c])), .int .i64 0]) ∧ Below w.heap.size w w' := by
  have h9 := E9.new w ⟨6, a, b, c, 0, 0, 0, 0, 0, false⟩
  have hA := (Below.refl _ w).alloc (Nat.le_refl _) (.cells (⟨6, a, b, c, 0, 0, 0, 0, 0, false⟩ : Ed).cells 34)
  have hwz := W_size 6 (by decide)
  have hwn := W_ne 6 (by decide) (by decide)
  have hWd := refWord_any 6 (by decide) (by decide)
  have hza := itoa_z a ha
  simp only [Ed.val, Ed.cells, Int.cast_ofNat_Int] at h9 hA hWd ⊢
  go_enter Tryd.func29, Tryd.ntmps29
  go_wp2_with fail
  refine (hWd _).mono ?_
  rintro e w1 ⟨rfl, rfl⟩
  have hzb := itoa_z b hb
  have hzc := itoa_z c hc
  go_wp2_with fail
  refine (refD_i a ha _).mono ?_
  rintro e w2 ⟨rfl, hb2⟩
  have h92 := h9.below hb2
  have hA2 := hA.trans (hb2.mono (by simp))
  have c0 : w2.cell? ⟨w.heap.size, 0, none⟩ = some (.int .i64 6) := h92.c0
  have c2 : w2.cell? ⟨w.heap.size, 2, none⟩ = some (.int .i64 b) := h92.c2
  have c3 : w2.cell? ⟨w.heap.size, 3, none⟩ = some (.int .i64 c) := h92.c3
  go_wp2_with fail
  have x2 : ∀ m : ExtW w2, (exw m).cell? ⟨w.heap.size, 2, none⟩ = some (.int .i64 b) := exw_cell c2
  have x3 : ∀ m : ExtW w2, (exw m).cell? ⟨w.heap.size, 3, none⟩ = some (.int .i64 c) := exw_cell c3
  refine region_ext (by kernel_rfl) (by kernel_rfl) ?_
  repeat (go_big_quiet_step (first | (go_at_call 16; exact ext_call (refD_i b hb _)) | (go_at_call 16; exact ext_call (refD_i c hc _))))
  refine wpQuiet_nil ?_
  rintro w3 ⟨m, rfl⟩
  go_wp2_with fail
  go_ret2
  exact ⟨line_eq (W 6 ++ [32] ++ itoa a ++ ([32] ++ itoa b ++ [32] ++ itoa c)) _ (by simp only [← bs_append]; rfl) (by simp [joinA]), hA2.trans ((exw_below m).mono hA2.size)⟩
set_option maxHeartbeats 8000000 in
set_option maxRecDepth 100000 in
theorem refEdit_delay (a b d : Int) (ha : I64 a) (hb : I64 b) (hd : I64 d) (w : World) :
    Calls Tryd.prog 29 #[(⟨7, a, b, 0, d, 0, 0, 0, 0, false⟩ : Ed).val] w fun e' w' => e' = .returned (.tuple #[.string (bs (joinA 32 [W 7, itoa a, itoa b, itoa d])), .int .i64 0]) ∧ Below w.heap.size w w' := by
  have h9 := E9.new w ⟨7, a, b, 0, d, 0, 0, 0, 0, false⟩
  have hA := (Below.refl _ w).alloc (Nat.le_refl _) (.cells (⟨7, a, b, 0, d, 0, 0, 0, 0, false⟩ : Ed).cells 34)
  have hwz := W_size 7 (by decide)
  have hwn := W_ne 7 (by decide) (by decide)
  have hWd := refWord_any 7 (by decide) (by decide)
  have hza := itoa_z a ha
  simp only [Ed.val, Ed.cells, Int.cast_ofNat_Int] at h9 hA hWd ⊢
  go_enter Tryd.func29, Tryd.ntmps29
  go_wp2_with fail
  refine (hWd _).mono ?_
  rintro e w1 ⟨rfl, rfl⟩
  have hzb := itoa_z b hb
  have hzd := itoa_z d hd
  go_wp2_with fail
  refine (refD_i a ha _).mono ?_
  rintro e w2 ⟨rfl, hb2⟩
  have h92 := h9.below hb2
  have hA2 := hA.trans (hb2.mono (by simp))
  have c0 : w2.cell? ⟨w.heap.size, 0, none⟩ = some (.int .i64 7) := h92.c0
  have c2 : w2.cell? ⟨w.heap.size, 2, none⟩ = some (.int .i64 b) := h92.c2
  have c4 : w2.cell? ⟨w.heap.size, 4, none⟩ = some (.int .i64 d) := h92.c4
  go_wp2_with fail
  have x2 : ∀ m : ExtW w2, (exw m).cell? ⟨w.heap.size, 2, none⟩ = some (.int .i64 b) := exw_cell c2
  have x4 : ∀ m : ExtW w2, (exw m).cell? ⟨w.heap.size, 4, none⟩ = some (.int .i64 d) := exw_cell c4
  refine region_ext (by kernel_rfl) (by kernel_rfl) ?_
  repeat (go_big_quiet_step (first | (go_at_call 16; exact ext_call (refD_i b hb _)) | (go_at_call 16; exact ext_call (refD_i d hd _))))
  refine wpQuiet_nil ?_
  rintro w3 ⟨m, rfl⟩
  go_wp2_with fail
  go_ret2
  exact ⟨line_eq (W 7 ++ [32] ++ itoa a ++ ([32] ++ itoa b ++ [32] ++ itoa d)) _ (by simp only [← bs_append]; rfl) (by simp [joinA]), hA2.trans ((exw_below m).mono hA2.size)⟩
set_option maxHeartbeats 8000000 in
set_option maxRecDepth 100000 in
theorem refEdit_link (a b c d : Int) (ha : I64 a) (hb : I64 b) (hc : I64 c) (hd : I64 d) (w : World) :
    Calls Tryd.prog 29 #[(⟨4, a, b, c, d, 0, 0, 0, 0, false⟩ : Ed).val] w fun e' w' => e' = .returned (.tuple #[.string (bs (joinA 32 [W 4, itoa a, itoa b, itoa c, itoa d])), .int .i64 0]) ∧ Below w.heap.size w w' := by
  have h9 := E9.new w ⟨4, a, b, c, d, 0, 0, 0, 0, false⟩
  have hA := (Below.refl _ w).alloc (Nat.le_refl _) (.cells (⟨4, a, b, c, d, 0, 0, 0, 0, false⟩ : Ed).cells 34)
  have hwz := W_size 4 (by decide)
  have hwn := W_ne 4 (by decide) (by decide)
  have hWd := refWord_any 4 (by decide) (by decide)
  have hza := itoa_z a ha
  simp only [Ed.val, Ed.cells, Int.cast_ofNat_Int] at h9 hA hWd ⊢
  go_enter Tryd.func29, Tryd.ntmps29
  go_wp2_with fail
  refine (hWd _).mono ?_
  rintro e w1 ⟨rfl, rfl⟩
  have hzb := itoa_z b hb
  have hzc := itoa_z c hc
  have hzd := itoa_z d hd
  go_wp2_with fail
  refine (refD_i a ha _).mono ?_
  rintro e w2 ⟨rfl, hb2⟩
  have h92 := h9.below hb2
  have hA2 := hA.trans (hb2.mono (by simp))
  have c0 : w2.cell? ⟨w.heap.size, 0, none⟩ = some (.int .i64 4) := h92.c0
  have c2 : w2.cell? ⟨w.heap.size, 2, none⟩ = some (.int .i64 b) := h92.c2
  have c3 : w2.cell? ⟨w.heap.size, 3, none⟩ = some (.int .i64 c) := h92.c3
  have c4 : w2.cell? ⟨w.heap.size, 4, none⟩ = some (.int .i64 d) := h92.c4
  go_wp2_with fail
  have x2 : ∀ m : ExtW w2, (exw m).cell? ⟨w.heap.size, 2, none⟩ = some (.int .i64 b) := exw_cell c2
  have x3 : ∀ m : ExtW w2, (exw m).cell? ⟨w.heap.size, 3, none⟩ = some (.int .i64 c) := exw_cell c3
  have x4 : ∀ m : ExtW w2, (exw m).cell? ⟨w.heap.size, 4, none⟩ = some (.int .i64 d) := exw_cell c4
  refine region_ext (by kernel_rfl) (by kernel_rfl) ?_
  repeat (go_big_quiet_step (first | (go_at_call 16; exact ext_call (refD_i b hb _)) | (go_at_call 16; exact ext_call (refD_i c hc _)) | (go_at_call 16; exact ext_call (refD_i d hd _))))
  refine wpQuiet_nil ?_
  rintro w3 ⟨m, rfl⟩
  go_wp2_with fail
  go_ret2
  exact ⟨line_eq (W 4 ++ [32] ++ itoa a ++ ([32] ++ itoa b ++ [32] ++ itoa c ++ [32] ++ itoa d)) _ (by simp only [← bs_append]; rfl) (by simp [joinA]), hA2.trans ((exw_below m).mono hA2.size)⟩
set_option maxHeartbeats 8000000 in
set_option maxRecDepth 100000 in
theorem refEdit_over (a : Int) (f : Bool) (ha : I64 a) (w : World) :
    Calls Tryd.prog 29 #[(⟨3, a, 0, 0, 0, 0, 0, 0, 0, f⟩ : Ed).val] w fun e' w' => e' = .returned (.tuple #[.string (bs (joinA 32 [W 3, itoa a, flL f])), .int .i64 0]) ∧ Below w.heap.size w w' := by
  have h9 := E9.new w ⟨3, a, 0, 0, 0, 0, 0, 0, 0, f⟩
  have hA := (Below.refl _ w).alloc (Nat.le_refl _) (.cells (⟨3, a, 0, 0, 0, 0, 0, 0, 0, f⟩ : Ed).cells 34)
  have hwz := W_size 3 (by decide)
  have hwn := W_ne 3 (by decide) (by decide)
  have hWd := refWord_any 3 (by decide) (by decide)
  have hza := itoa_z a ha
  simp only [Ed.val, Ed.cells, Int.cast_ofNat_Int] at h9 hA hWd ⊢
  go_enter Tryd.func29, Tryd.ntmps29
  go_wp2_with fail
  refine (hWd _).mono ?_
  rintro e w1 ⟨rfl, rfl⟩
  go_wp2_with fail
  refine (refD_i a ha _).mono ?_
  rintro e w2 ⟨rfl, hb2⟩
  have h92 := h9.below hb2
  have hA2 := hA.trans (hb2.mono (by simp))
  have c0 : w2.cell? ⟨w.heap.size, 0, none⟩ = some (.int .i64 3) := h92.c0
  have c8 : w2.cell? ⟨w.heap.size, 8, none⟩ = some (.bool f) := h92.c8
  cases f
  · go_wp2_with fail
    go_ret2
    exact ⟨line_eq (W 3 ++ [32] ++ itoa a ++ [32, 111, 102, 102]) _ (by simp only [← bs_append]; rfl) (by simp [joinA, flL, offL]), hA2⟩
  · go_wp2_with fail
    go_ret2
    exact ⟨line_eq (W 3 ++ [32] ++ itoa a ++ [32, 111, 110]) _ (by simp only [← bs_append]; rfl) (by simp [joinA, flL, onL]), hA2⟩
set_option maxHeartbeats 8000000 in
set_option maxRecDepth 100000 in
theorem refEdit_pin (a c : Int) (pa : Nat) (pn : Int) (ha : I64 a) (hc : I64 c) (hp : pa < 4294967296) (hsn : snd pa pn = true) (w : World) :
    Calls Tryd.prog 29 #[(⟨9, a, 0, c, 0, 0, 0, pa, pn, false⟩ : Ed).val] w fun e' w' => e' = .returned (.tuple #[.string (bs (joinA 32 [W 9, itoa a, pfxL pa pn, itoa c])), .int .i64 0]) ∧ Below w.heap.size w w' := by
  have h9 := E9.new w ⟨9, a, 0, c, 0, 0, 0, pa, pn, false⟩
  have hA := (Below.refl _ w).alloc (Nat.le_refl _) (.cells (⟨9, a, 0, c, 0, 0, 0, pa, pn, false⟩ : Ed).cells 34)
  have hwz := W_size 9 (by decide)
  have hwn := W_ne 9 (by decide) (by decide)
  have hWd := refWord_any 9 (by decide) (by decide)
  have hza := itoa_z a ha
  simp only [Ed.val, Ed.cells, Int.cast_ofNat_Int] at h9 hA hWd ⊢
  go_enter Tryd.func29, Tryd.ntmps29
  go_wp2_with fail
  refine (hWd _).mono ?_
  rintro e w1 ⟨rfl, rfl⟩
  go_wp2_with fail
  refine (refD_i a ha _).mono ?_
  rintro e w2 ⟨rfl, hb2⟩
  have h92 := h9.below hb2
  have hA2 := hA.trans (hb2.mono (by simp))
  have c0 : w2.cell? ⟨w.heap.size, 0, none⟩ = some (.int .i64 9) := h92.c0
  have hzp : (bs (pfxL pa pn)).size ≤ 18 := by rw [bs_size]; exact pfx_len pa pn hsn
  have c6 : w2.cell? ⟨w.heap.size, 6, none⟩ = some (.int .u32 pa) := h92.c6
  have c7 : w2.cell? ⟨w.heap.size, 7, none⟩ = some (.int .i64 pn) := h92.c7
  go_wp2_with fail
  refine (refPrefix_good pa hp pn hsn (snd_bd hsn) _).mono ?_
  rintro e w3 ⟨rfl, hb3⟩
  have h93 := h92.below hb3
  have hA3 := hA2.trans (hb3.mono hA2.size)
  clear c0 c6 c7
  have c0 : w3.cell? ⟨w.heap.size, 0, none⟩ = some (.int .i64 9) := h93.c0
  have c3 : w3.cell? ⟨w.heap.size, 3, none⟩ = some (.int .i64 c) := h93.c3
  have hzc := itoa_z c hc
  go_wp2_with fail
  refine (refD_i c hc _).mono ?_
  rintro e w4 ⟨rfl, hb4⟩
  go_wp2_with fail
  go_ret2
  exact ⟨line_eq (W 9 ++ [32] ++ itoa a ++ ([32] ++ pfxL pa pn) ++ ([32] ++ itoa c)) _ (by simp only [← bs_append]; rfl) (by simp [joinA]), hA3.trans (hb4.mono hA3.size)⟩
set_option maxHeartbeats 8000000 in
set_option maxRecDepth 100000 in
theorem refEdit_unpin (a : Int) (pa : Nat) (pn : Int) (ha : I64 a) (hp : pa < 4294967296) (hsn : snd pa pn = true) (w : World) :
    Calls Tryd.prog 29 #[(⟨10, a, 0, 0, 0, 0, 0, pa, pn, false⟩ : Ed).val] w fun e' w' => e' = .returned (.tuple #[.string (bs (joinA 32 [W 10, itoa a, pfxL pa pn])), .int .i64 0]) ∧ Below w.heap.size w w' := by
  have h9 := E9.new w ⟨10, a, 0, 0, 0, 0, 0, pa, pn, false⟩
  have hA := (Below.refl _ w).alloc (Nat.le_refl _) (.cells (⟨10, a, 0, 0, 0, 0, 0, pa, pn, false⟩ : Ed).cells 34)
  have hwz := W_size 10 (by decide)
  have hwn := W_ne 10 (by decide) (by decide)
  have hWd := refWord_any 10 (by decide) (by decide)
  have hza := itoa_z a ha
  simp only [Ed.val, Ed.cells, Int.cast_ofNat_Int] at h9 hA hWd ⊢
  go_enter Tryd.func29, Tryd.ntmps29
  go_wp2_with fail
  refine (hWd _).mono ?_
  rintro e w1 ⟨rfl, rfl⟩
  go_wp2_with fail
  refine (refD_i a ha _).mono ?_
  rintro e w2 ⟨rfl, hb2⟩
  have h92 := h9.below hb2
  have hA2 := hA.trans (hb2.mono (by simp))
  have c0 : w2.cell? ⟨w.heap.size, 0, none⟩ = some (.int .i64 10) := h92.c0
  have hzp : (bs (pfxL pa pn)).size ≤ 18 := by rw [bs_size]; exact pfx_len pa pn hsn
  have c6 : w2.cell? ⟨w.heap.size, 6, none⟩ = some (.int .u32 pa) := h92.c6
  have c7 : w2.cell? ⟨w.heap.size, 7, none⟩ = some (.int .i64 pn) := h92.c7
  go_wp2_with fail
  refine (refPrefix_good pa hp pn hsn (snd_bd hsn) _).mono ?_
  rintro e w3 ⟨rfl, hb3⟩
  have h93 := h92.below hb3
  have hA3 := hA2.trans (hb3.mono hA2.size)
  clear c0 c6 c7
  have c0 : w3.cell? ⟨w.heap.size, 0, none⟩ = some (.int .i64 10) := h93.c0
  go_wp2_with fail
  go_ret2
  exact ⟨line_eq (W 10 ++ [32] ++ itoa a ++ ([32] ++ pfxL pa pn)) _ (by simp only [← bs_append]; rfl) (by simp [joinA]), hA3⟩
set_option maxHeartbeats 8000000 in
set_option maxRecDepth 100000 in
theorem refEdit_spot1 (a x y : Int) (ha : I64 a) (hx : P20 x) (hy : P20 y) (w : World) :
    Calls Tryd.prog 29 #[(⟨1, a, 0, 0, 0, x, y, 0, 0, false⟩ : Ed).val] w fun e' w' => e' = .returned (.tuple #[.string (bs (joinA 32 [W 1, itoa a, itoa x, itoa y])), .int .i64 0]) ∧ Below w.heap.size w w' := by
  have h9 := E9.new w ⟨1, a, 0, 0, 0, x, y, 0, 0, false⟩
  have hA := (Below.refl _ w).alloc (Nat.le_refl _) (.cells (⟨1, a, 0, 0, 0, x, y, 0, 0, false⟩ : Ed).cells 34)
  have hwz := W_size 1 (by decide)
  have hwn := W_ne 1 (by decide) (by decide)
  have hWd := refWord_any 1 (by decide) (by decide)
  have hsz : (bs (spL x y)).size ≤ 60 := by
    rw [bs_size]
    have h1 := itoa_21 hx.i64
    have h2 := itoa_21 hy.i64
    simp [spL]
    omega
  have hza := itoa_z a ha
  simp only [Ed.val, Ed.cells, Int.cast_ofNat_Int] at h9 hA hWd ⊢
  go_enter Tryd.func29, Tryd.ntmps29
  go_wp2_with fail
  refine (hWd _).mono ?_
  rintro e w1 ⟨rfl, rfl⟩
  go_wp2_with fail
  refine (refOk_fi x y hx.i64 hy.i64 _).mono ?_
  rintro e wk ⟨rfl, hbk⟩
  rw [p20_iff.2 hx, p20_iff.2 hy]
  have h9k := h9.below hbk
  have hAk := hA.trans (hbk.mono (by simp))
  have d0 : wk.cell? ⟨w.heap.size, 0, none⟩ = some (.int .i64 1) := h9k.c0
  have d1 : wk.cell? ⟨w.heap.size, 1, none⟩ = some (.int .i64 a) := h9k.c1
  go_wp2_with fail
  refine (refD_i a ha _).mono ?_
  rintro e w2 ⟨rfl, hb2⟩
  have h92 := h9k.below hb2
  have hA2 := hAk.trans (hb2.mono hAk.size)
  have c0 : w2.cell? ⟨w.heap.size, 0, none⟩ = some (.int .i64 1) := h92.c0
  clear d0 d1
  have c5 : w2.cell? ⟨w.heap.size, 5, none⟩ = some (.complex .f64 (fi x) (fi y)) := h92.c5
  go_wp2_with fail
  refine (refSpot_fi x y hx hy _).mono ?_
  rintro e w3 ⟨rfl, hb3⟩
  go_wp2_with fail
  go_ret2
  exact ⟨line_eq (W 1 ++ [32] ++ itoa a ++ ([32] ++ spL x y)) _ (by simp only [← bs_append]; rfl) (by simp [joinA, spL]), hA2.trans (hb3.mono hA2.size)⟩
set_option maxHeartbeats 8000000 in
set_option maxRecDepth 100000 in
theorem refEdit_spotbad1 (a x y : Int) (ha : I64 a) (hx : I64 x) (hy : I64 y) (hb : (p20 x && p20 y) = false) (w : World) :
    Calls Tryd.prog 29 #[(⟨1, a, 0, 0, 0, x, y, 0, 0, false⟩ : Ed).val] w fun e' w' => e' = .returned (.tuple #[.string ⟨#[]⟩, .int .i64 2]) ∧ Below w.heap.size w w' := by
  have h9 := E9.new w ⟨1, a, 0, 0, 0, x, y, 0, 0, false⟩
  have hA := (Below.refl _ w).alloc (Nat.le_refl _) (.cells (⟨1, a, 0, 0, 0, x, y, 0, 0, false⟩ : Ed).cells 34)
  have hwz := W_size 1 (by decide)
  have hwn := W_ne 1 (by decide) (by decide)
  have hWd := refWord_any 1 (by decide) (by decide)
  have hza := itoa_z a ha
  simp only [Ed.val, Ed.cells, Int.cast_ofNat_Int] at h9 hA hWd ⊢
  go_enter Tryd.func29, Tryd.ntmps29
  go_wp2_with fail
  refine (hWd _).mono ?_
  rintro e w1 ⟨rfl, rfl⟩
  go_wp2_with fail
  refine (refOk_fi x y hx hy _).mono ?_
  rintro e wk ⟨rfl, hbk⟩
  rw [hb]
  go_wp2_with fail
  go_ret2
  exact ⟨rfl, hA.trans (hbk.mono (by simp))⟩
set_option maxHeartbeats 8000000 in
set_option maxRecDepth 100000 in
theorem refEdit_spot8 (a x y : Int) (ha : I64 a) (hx : P20 x) (hy : P20 y) (w : World) :
    Calls Tryd.prog 29 #[(⟨8, a, 0, 0, 0, x, y, 0, 0, false⟩ : Ed).val] w fun e' w' => e' = .returned (.tuple #[.string (bs (joinA 32 [W 8, itoa a, itoa x, itoa y])), .int .i64 0]) ∧ Below w.heap.size w w' := by
  have h9 := E9.new w ⟨8, a, 0, 0, 0, x, y, 0, 0, false⟩
  have hA := (Below.refl _ w).alloc (Nat.le_refl _) (.cells (⟨8, a, 0, 0, 0, x, y, 0, 0, false⟩ : Ed).cells 34)
  have hwz := W_size 8 (by decide)
  have hwn := W_ne 8 (by decide) (by decide)
  have hWd := refWord_any 8 (by decide) (by decide)
  have hsz : (bs (spL x y)).size ≤ 60 := by
    rw [bs_size]
    have h1 := itoa_21 hx.i64
    have h2 := itoa_21 hy.i64
    simp [spL]
    omega
  have hza := itoa_z a ha
  simp only [Ed.val, Ed.cells, Int.cast_ofNat_Int] at h9 hA hWd ⊢
  go_enter Tryd.func29, Tryd.ntmps29
  go_wp2_with fail
  refine (hWd _).mono ?_
  rintro e w1 ⟨rfl, rfl⟩
  go_wp2_with fail
  refine (refOk_fi x y hx.i64 hy.i64 _).mono ?_
  rintro e wk ⟨rfl, hbk⟩
  rw [p20_iff.2 hx, p20_iff.2 hy]
  have h9k := h9.below hbk
  have hAk := hA.trans (hbk.mono (by simp))
  have d0 : wk.cell? ⟨w.heap.size, 0, none⟩ = some (.int .i64 8) := h9k.c0
  have d1 : wk.cell? ⟨w.heap.size, 1, none⟩ = some (.int .i64 a) := h9k.c1
  go_wp2_with fail
  refine (refD_i a ha _).mono ?_
  rintro e w2 ⟨rfl, hb2⟩
  have h92 := h9k.below hb2
  have hA2 := hAk.trans (hb2.mono hAk.size)
  have c0 : w2.cell? ⟨w.heap.size, 0, none⟩ = some (.int .i64 8) := h92.c0
  clear d0 d1
  have c5 : w2.cell? ⟨w.heap.size, 5, none⟩ = some (.complex .f64 (fi x) (fi y)) := h92.c5
  go_wp2_with fail
  refine (refSpot_fi x y hx hy _).mono ?_
  rintro e w3 ⟨rfl, hb3⟩
  go_wp2_with fail
  go_ret2
  exact ⟨line_eq (W 8 ++ [32] ++ itoa a ++ ([32] ++ spL x y)) _ (by simp only [← bs_append]; rfl) (by simp [joinA, spL]), hA2.trans (hb3.mono hA2.size)⟩
set_option maxHeartbeats 8000000 in
set_option maxRecDepth 100000 in
theorem refEdit_spotbad8 (a x y : Int) (ha : I64 a) (hx : I64 x) (hy : I64 y) (hb : (p20 x && p20 y) = false) (w : World) :
    Calls Tryd.prog 29 #[(⟨8, a, 0, 0, 0, x, y, 0, 0, false⟩ : Ed).val] w fun e' w' => e' = .returned (.tuple #[.string ⟨#[]⟩, .int .i64 2]) ∧ Below w.heap.size w w' := by
  have h9 := E9.new w ⟨8, a, 0, 0, 0, x, y, 0, 0, false⟩
  have hA := (Below.refl _ w).alloc (Nat.le_refl _) (.cells (⟨8, a, 0, 0, 0, x, y, 0, 0, false⟩ : Ed).cells 34)
  have hwz := W_size 8 (by decide)
  have hwn := W_ne 8 (by decide) (by decide)
  have hWd := refWord_any 8 (by decide) (by decide)
  have hza := itoa_z a ha
  simp only [Ed.val, Ed.cells, Int.cast_ofNat_Int] at h9 hA hWd ⊢
  go_enter Tryd.func29, Tryd.ntmps29
  go_wp2_with fail
  refine (hWd _).mono ?_
  rintro e w1 ⟨rfl, rfl⟩
  go_wp2_with fail
  refine (refOk_fi x y hx hy _).mono ?_
  rintro e wk ⟨rfl, hbk⟩
  rw [hb]
  go_wp2_with fail
  go_ret2
  exact ⟨rfl, hA.trans (hbk.mono (by simp))⟩
end Go.Proofs.YtcociflljbaicaaDoor
namespace Go.Proofs.YtcociflljbaicaaDoor
open Go.RowKit Go.Lib

/-- While the reference reads: the result's box P, the edit's box E, the words. -/
structure QS (w0 wr : World) (P E bw ow : Nat) (ws : List (List UInt8)) (v : Nat → Value) : Prop where
  hb : Below w0.heap.size w0 wr
  hP : w0.heap.size ≤ P
  PE : P < E
  lt : E < wr.heap.size
  bE : bw < E
  p : ∀ j, j < 9 → ∃ u, wr.cell? ⟨P, j, none⟩ = some u
  pf : ∀ j, wr.frozen? ⟨P, j, none⟩ = false
  e : ∀ j, j < 9 → wr.cell? ⟨E, j, none⟩ = some (v j)
  ef : ∀ j, wr.frozen? ⟨E, j, none⟩ = false
  wd : ∀ (j : Nat) l, ws[j]? = some l → wr.cell? ⟨bw, ow + j, none⟩ = some (.string (bs l))
theorem QS.below {w0 wr w2 : World} {P E bw ow : Nat} {ws : List (List UInt8)} {v : Nat → Value} (h : QS w0 wr P E bw ow ws v) (b : Below wr.heap.size wr w2) : QS w0 w2 P E bw ow ws v := by
  have hPl : P < wr.heap.size := by have := h.PE; have := h.lt; omega
  refine ⟨h.hb.trans (b.mono h.hb.size), h.hP, h.PE, Nat.lt_of_lt_of_le h.lt b.size, h.bE, fun j hj => ?_, fun j => (b.frozen (p := ⟨P, j, none⟩) hPl).trans (h.pf j), fun j hj => (b.cell h.lt).trans (h.e j hj), fun j => (b.frozen (p := ⟨E, j, none⟩) h.lt).trans (h.ef j), fun j l hj => ?_⟩
  · obtain ⟨u, hu⟩ := h.p j hj
    exact ⟨u, (b.cell hPl).trans hu⟩
  · have := h.wd j l hj
    exact (b.cell (World.block_lt_of_cell? _ _ this)).trans this
theorem QS.set {w0 wr : World} {P E bw ow : Nat} {ws : List (List UInt8)} {v : Nat → Value} (h : QS w0 wr P E bw ow ws v) (j : Nat) (x : Value) : QS w0 (wr.setCell ⟨E, j, none⟩ x) P E bw ow ws (upd v j x) := by
  have hPE : P ≠ E := by have := h.PE; omega
  have hbE : bw ≠ E := by have := h.bE; omega
  refine ⟨h.hb.setCell (show w0.heap.size ≤ (⟨E, j, none⟩ : Addr).block from by have := h.hP; have := h.PE; show w0.heap.size ≤ E; omega) _, h.hP, h.PE, by rw [World.size_setCell]; exact h.lt, h.bE, fun i hi => ?_, fun i => by rw [World.frozen?_setCell]; exact h.pf i, fun i hi => ?_, fun i => by rw [World.frozen?_setCell]; exact h.ef i, fun i l hi => ?_⟩
  · obtain ⟨u, hu⟩ := h.p i hi
    exact ⟨u, (World.cell?_setCell_other _ _ _ _ (by intro e; injection e with e _; exact hPE e.symm)).trans hu⟩
  · unfold upd
    by_cases e : i = j
    · subst e
      rw [if_pos rfl]
      exact World.cell?_setCell_same _ _ _ (h.e i hi)
    · rw [if_neg e]
      exact (World.cell?_setCell_other _ _ _ _ (by intro e2; injection e2 with _ e2; exact e e2.symm)).trans (h.e i hi)
  · exact (World.cell?_setCell_other _ _ _ _ (by intro e; injection e with e _; exact hbE e.symm)).trans (h.wd i l hi)
theorem QS.ext {w0 wr : World} {P E bw ow : Nat} {ws : List (List UInt8)} {v v' : Nat → Value} (h : QS w0 wr P E bw ow ws v) (hv : ∀ j, j < 9 → v j = v' j) : QS w0 wr P E bw ow ws v' :=
  ⟨h.hb, h.hP, h.PE, h.lt, h.bE, h.p, h.pf, fun j hj => by rw [← hv j hj]; exact h.e j hj, h.ef, h.wd⟩
theorem QS.name {w0 wr : World} {P E bw ow : Nat} {ws : List (List UInt8)} {v : Nat → Value} (_ : QS w0 wr P E bw ow ws v) : ∃ W, wr = W := ⟨_, rfl⟩
theorem close11 {w0 wr : World} {P E bw ow : Nat} {ws : List (List UInt8)} {v : Nat → Value} (h : QS w0 wr P E bw ow ws v) {tm : Array Value} {V : Value} {er : Int} {x0 x1 x2 x3 x4 x5 x6 x7 x8 : Value} (h1 : tm.getD 2 undef = .pointer (some ⟨P, 0, none⟩)) (h2 : tm.getD 3 undef = .int .i64 er) (hV : V = .agg #[x0, x1, x2, x3, x4, x5, x6, x7, x8]) :
    bodyPost Tryd.prog Tryd.f11 (fun e' w' => e' = .returned (.tuple #[V, .int .i64 er]) ∧ Below w0.heap.size w0 w') .ret { tmps := tm, defers := [] } (set9 wr P x0 x1 x2 x3 x4 x5 x6 x7 x8) := by
  obtain ⟨r0, r1, r2, r3, r4, r5, r6, r7, r8⟩ := set9_at x0 x1 x2 x3 x4 x5 x6 x7 x8 h.p
  subst hV
  exact bodyPost_ret (res11 _ _ P _ _ _ _ _ _ _ _ _ _ h1 h2 r0 r1 r2 r3 r4 r5 r6 r7 r8) rfl ⟨rfl, set9_below _ _ _ _ _ _ _ _ _ h.hb h.hP⟩
/-- The number of a word. -/
def NQ (ws : List (List UInt8)) (j : Nat) (q : Int) : Prop := I64 q ∧ ∀ m, I64 m → ws[j]? = some (itoa m) → q = m
theorem joinA_size (n : Nat) : ∀ (ws : List (List UInt8)), (∀ l ∈ ws, l.length ≤ n) → (joinA 32 ws).length ≤ (n + 1) * ws.length
  | [], _ => by simp [joinA]
  | [x], h => by
    have := h x List.mem_cons_self
    simp [joinA]
    omega
  | x :: y :: r, h => by
    have h1 := h x List.mem_cons_self
    have ih := joinA_size n (y :: r) fun l hl => h l (List.mem_cons_of_mem _ hl)
    rw [joinA_cons]
    simp only [List.length_append, List.length_cons] at ih ⊢
    rw [Nat.mul_add]
    omega
theorem GE.words_len {ws : List (List UInt8)} {e : Ed} (h : GE ws e) : (∀ l ∈ ws, l.length ≤ 21) ∧ ws.length ≤ 5 := by
  have hW : ∀ k, k < 11 → (W k).length ≤ 21 := by decide
  have hf : ∀ f, (flL f).length ≤ 21 := by intro f; cases f <;> decide
  have hp : ∀ {a : Nat} {n : Int}, snd a n = true → (pfxL a n).length ≤ 21 := fun h => by have := pfx_len _ _ h; omega
  cases h with
  | spot k a x y hk ha hx hy =>
    refine ⟨fun l hl => ?_, by simp⟩
    simp only [List.mem_cons, List.not_mem_nil, or_false] at hl
    rcases hl with rfl | rfl | rfl | rfl
    · exact hW k (by omega)
    · exact itoa_21 ha
    · exact itoa_21 hx.i64
    · exact itoa_21 hy.i64
  | _ =>
    refine ⟨fun l hl => ?_, by simp⟩
    simp only [List.mem_cons, List.not_mem_nil, or_false] at hl
    rcases hl with rfl | rfl | rfl | rfl | rfl <;> first | exact hW _ (by decide) | exact hf _ | (apply hp; assumption) | (apply itoa_21; assumption)
theorem GE.line_len {ws : List (List UInt8)} {e : Ed} (h : GE ws e) : (joinA 32 ws).length ≤ 200 := by
  obtain ⟨h1, h2⟩ := h.words_len
  have := joinA_size 21 ws h1
  omega
theorem RE.too_long (s : ByteArray) (h : 200 < s.size) : RE (cutA 32 [] s.data.toList) Ed0 11 := by
  refine .inr ⟨rfl, rfl, fun e' he => ?_⟩
  have h1 := he.line_len
  rw [cutA_join] at h1
  have h2 := Lib.size_eq s
  simp at h1 h2
  omega
end Go.Proofs.YtcociflljbaicaaDoor
