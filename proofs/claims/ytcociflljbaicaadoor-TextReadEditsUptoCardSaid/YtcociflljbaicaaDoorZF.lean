/- Edit: numbers, flags, prefixes -/
import Derived.Test.YtcociflljbaicaaDoorZC
namespace Go.Proofs.YtcociflljbaicaaDoor
open Go.RowKit Go.Lib

set_option maxHeartbeats 8000000 in
set_option maxRecDepth 100000 in
theorem Edit_drop (a : Int) (ha : I64 a) (w : World) (hv : VarsW w) :
    Calls Tryd.prog 12 #[(⟨2, a, 0, 0, 0, 0, 0, 0, 0, false⟩ : Ed).val] w fun e' w' => e' = .returned (.tuple #[.string (bs (joinA 32 [W 2, itoa a])), .int .i64 0]) ∧ Below w.heap.size w w' := by
  have h9 := E9.new w ⟨2, a, 0, 0, 0, 0, 0, 0, 0, false⟩
  have hA := (Below.refl _ w).alloc (Nat.le_refl _) (.cells (⟨2, a, 0, 0, 0, 0, 0, 0, 0, false⟩ : Ed).cells 34)
  have hx := i64_1 ha
  have hz := ints_size [a] hx (by simp)
  simp only [Ed.val, Ed.cells, Int.cast_ofNat_Int] at h9 hA ⊢
  go_enter Tryd.func12, Tryd.ntmps12
  go_wp2_with (go_at_call 31; refine (ints_any _ [a] hx (by simp) (by simp) _ (ints_at _ _ (by simp) [a] #[.int .i64 a] rfl (by simp) _ rfl) (hv.below (hA.alloc (by simp) _))).mono ?_; rintro e w2 ⟨rfl, hb2⟩; generalize hs : bs (join ([a].map itoa) [32]) = s at hz ⊢; have h92 := (h9.below ((Below.refl _ _).alloc (Nat.le_refl _) _)).below hb2; have c0 : w2.cell? ⟨w.heap.size, 0, none⟩ = some (.int .i64 2) := h92.c0; have hA2 := (hA.alloc (by simp) _).trans (hb2.mono (by simp; omega)))
  have hwd := word_at w2 2 (by decide)
  have hwz := W_size 2 (by decide)
  have c0' := (World.cell?_alloc_old w2 (.cells (strs WL).toArray 9) _ (Nat.ne_of_lt h92.lt)).trans c0
  go_region_with (go_at_call 23; refine (words_any _).mono ?_; rintro e w4 ⟨rfl, rfl⟩)
  all_goals
    go_wp2_with fail
    go_ret2
    exact ⟨fin 2 _ _ _ hs.symm (by simp [joinA, join_cons, joinTail]), (hA2.alloc hA2.size _).drew⟩
set_option maxHeartbeats 8000000 in
set_option maxRecDepth 100000 in
theorem Edit_cut (a : Int) (b : Int) (ha : I64 a) (hb : I64 b) (w : World) (hv : VarsW w) :
    Calls Tryd.prog 12 #[(⟨5, a, b, 0, 0, 0, 0, 0, 0, false⟩ : Ed).val] w fun e' w' => e' = .returned (.tuple #[.string (bs (joinA 32 [W 5, itoa a, itoa b])), .int .i64 0]) ∧ Below w.heap.size w w' := by
  have h9 := E9.new w ⟨5, a, b, 0, 0, 0, 0, 0, 0, false⟩
  have hA := (Below.refl _ w).alloc (Nat.le_refl _) (.cells (⟨5, a, b, 0, 0, 0, 0, 0, 0, false⟩ : Ed).cells 34)
  have hx := i64_2 ha hb
  have hz := ints_size [a, b] hx (by simp)
  simp only [Ed.val, Ed.cells, Int.cast_ofNat_Int] at h9 hA ⊢
  go_enter Tryd.func12, Tryd.ntmps12
  go_wp2_with (go_at_call 31; refine (ints_any _ [a, b] hx (by simp) (by simp) _ (ints_at _ _ (by simp) [a, b] #[.int .i64 a, .int .i64 b] rfl (by simp) _ rfl) (hv.below (hA.alloc (by simp) _))).mono ?_; rintro e w2 ⟨rfl, hb2⟩; generalize hs : bs (join ([a, b].map itoa) [32]) = s at hz ⊢; have h92 := (h9.below ((Below.refl _ _).alloc (Nat.le_refl _) _)).below hb2; have c0 : w2.cell? ⟨w.heap.size, 0, none⟩ = some (.int .i64 5) := h92.c0; have hA2 := (hA.alloc (by simp) _).trans (hb2.mono (by simp; omega)))
  have hwd := word_at w2 5 (by decide)
  have hwz := W_size 5 (by decide)
  have c0' := (World.cell?_alloc_old w2 (.cells (strs WL).toArray 9) _ (Nat.ne_of_lt h92.lt)).trans c0
  go_region_with (go_at_call 23; refine (words_any _).mono ?_; rintro e w4 ⟨rfl, rfl⟩)
  all_goals
    go_wp2_with fail
    go_ret2
    exact ⟨fin 5 _ _ _ hs.symm (by simp [joinA, join_cons, joinTail]), (hA2.alloc hA2.size _).drew⟩
set_option maxHeartbeats 8000000 in
set_option maxRecDepth 100000 in
theorem Edit_cost (a : Int) (b : Int) (c : Int) (ha : I64 a) (hb : I64 b) (hc : I64 c) (w : World) (hv : VarsW w) :
    Calls Tryd.prog 12 #[(⟨6, a, b, c, 0, 0, 0, 0, 0, false⟩ : Ed).val] w fun e' w' => e' = .returned (.tuple #[.string (bs (joinA 32 [W 6, itoa a, itoa b, itoa c])), .int .i64 0]) ∧ Below w.heap.size w w' := by
  have h9 := E9.new w ⟨6, a, b, c, 0, 0, 0, 0, 0, false⟩
  have hA := (Below.refl _ w).alloc (Nat.le_refl _) (.cells (⟨6, a, b, c, 0, 0, 0, 0, 0, false⟩ : Ed).cells 34)
  have hx := i64_3 ha hb hc
  have hz := ints_size [a, b, c] hx (by simp)
  simp only [Ed.val, Ed.cells, Int.cast_ofNat_Int] at h9 hA ⊢
  go_enter Tryd.func12, Tryd.ntmps12
  go_wp2_with (go_at_call 31; refine (ints_any _ [a, b, c] hx (by simp) (by simp) _ (ints_at _ _ (by simp) [a, b, c] #[.int .i64 a, .int .i64 b, .int .i64 c] rfl (by simp) _ rfl) (hv.below (hA.alloc (by simp) _))).mono ?_; rintro e w2 ⟨rfl, hb2⟩; generalize hs : bs (join ([a, b, c].map itoa) [32]) = s at hz ⊢; have h92 := (h9.below ((Below.refl _ _).alloc (Nat.le_refl _) _)).below hb2; have c0 : w2.cell? ⟨w.heap.size, 0, none⟩ = some (.int .i64 6) := h92.c0; have hA2 := (hA.alloc (by simp) _).trans (hb2.mono (by simp; omega)))
  have hwd := word_at w2 6 (by decide)
  have hwz := W_size 6 (by decide)
  have c0' := (World.cell?_alloc_old w2 (.cells (strs WL).toArray 9) _ (Nat.ne_of_lt h92.lt)).trans c0
  go_region_with (go_at_call 23; refine (words_any _).mono ?_; rintro e w4 ⟨rfl, rfl⟩)
  all_goals
    go_wp2_with fail
    go_ret2
    exact ⟨fin 6 _ _ _ hs.symm (by simp [joinA, join_cons, joinTail]), (hA2.alloc hA2.size _).drew⟩
set_option maxHeartbeats 8000000 in
set_option maxRecDepth 100000 in
theorem Edit_delay (a : Int) (b : Int) (d : Int) (ha : I64 a) (hb : I64 b) (hd : I64 d) (w : World) (hv : VarsW w) :
    Calls Tryd.prog 12 #[(⟨7, a, b, 0, d, 0, 0, 0, 0, false⟩ : Ed).val] w fun e' w' => e' = .returned (.tuple #[.string (bs (joinA 32 [W 7, itoa a, itoa b, itoa d])), .int .i64 0]) ∧ Below w.heap.size w w' := by
  have h9 := E9.new w ⟨7, a, b, 0, d, 0, 0, 0, 0, false⟩
  have hA := (Below.refl _ w).alloc (Nat.le_refl _) (.cells (⟨7, a, b, 0, d, 0, 0, 0, 0, false⟩ : Ed).cells 34)
  have hx := i64_3 ha hb hd
  have hz := ints_size [a, b, d] hx (by simp)
  simp only [Ed.val, Ed.cells, Int.cast_ofNat_Int] at h9 hA ⊢
  go_enter Tryd.func12, Tryd.ntmps12
  go_wp2_with (go_at_call 31; refine (ints_any _ [a, b, d] hx (by simp) (by simp) _ (ints_at _ _ (by simp) [a, b, d] #[.int .i64 a, .int .i64 b, .int .i64 d] rfl (by simp) _ rfl) (hv.below (hA.alloc (by simp) _))).mono ?_; rintro e w2 ⟨rfl, hb2⟩; generalize hs : bs (join ([a, b, d].map itoa) [32]) = s at hz ⊢; have h92 := (h9.below ((Below.refl _ _).alloc (Nat.le_refl _) _)).below hb2; have c0 : w2.cell? ⟨w.heap.size, 0, none⟩ = some (.int .i64 7) := h92.c0; have hA2 := (hA.alloc (by simp) _).trans (hb2.mono (by simp; omega)))
  have hwd := word_at w2 7 (by decide)
  have hwz := W_size 7 (by decide)
  have c0' := (World.cell?_alloc_old w2 (.cells (strs WL).toArray 9) _ (Nat.ne_of_lt h92.lt)).trans c0
  go_region_with (go_at_call 23; refine (words_any _).mono ?_; rintro e w4 ⟨rfl, rfl⟩)
  all_goals
    go_wp2_with fail
    go_ret2
    exact ⟨fin 7 _ _ _ hs.symm (by simp [joinA, join_cons, joinTail]), (hA2.alloc hA2.size _).drew⟩
set_option maxHeartbeats 8000000 in
set_option maxRecDepth 100000 in
theorem Edit_link (a : Int) (b : Int) (c : Int) (d : Int) (ha : I64 a) (hb : I64 b) (hc : I64 c) (hd : I64 d) (w : World) (hv : VarsW w) :
    Calls Tryd.prog 12 #[(⟨4, a, b, c, d, 0, 0, 0, 0, false⟩ : Ed).val] w fun e' w' => e' = .returned (.tuple #[.string (bs (joinA 32 [W 4, itoa a, itoa b, itoa c, itoa d])), .int .i64 0]) ∧ Below w.heap.size w w' := by
  have h9 := E9.new w ⟨4, a, b, c, d, 0, 0, 0, 0, false⟩
  have hA := (Below.refl _ w).alloc (Nat.le_refl _) (.cells (⟨4, a, b, c, d, 0, 0, 0, 0, false⟩ : Ed).cells 34)
  have hx := i64_4 ha hb hc hd
  have hz := ints_size [a, b, c, d] hx (by simp)
  simp only [Ed.val, Ed.cells, Int.cast_ofNat_Int] at h9 hA ⊢
  go_enter Tryd.func12, Tryd.ntmps12
  go_wp2_with (go_at_call 31; refine (ints_any _ [a, b, c, d] hx (by simp) (by simp) _ (ints_at _ _ (by simp) [a, b, c, d] #[.int .i64 a, .int .i64 b, .int .i64 c, .int .i64 d] rfl (by simp) _ rfl) (hv.below (hA.alloc (by simp) _))).mono ?_; rintro e w2 ⟨rfl, hb2⟩; generalize hs : bs (join ([a, b, c, d].map itoa) [32]) = s at hz ⊢; have h92 := (h9.below ((Below.refl _ _).alloc (Nat.le_refl _) _)).below hb2; have c0 : w2.cell? ⟨w.heap.size, 0, none⟩ = some (.int .i64 4) := h92.c0; have hA2 := (hA.alloc (by simp) _).trans (hb2.mono (by simp; omega)))
  have hwd := word_at w2 4 (by decide)
  have hwz := W_size 4 (by decide)
  have c0' := (World.cell?_alloc_old w2 (.cells (strs WL).toArray 9) _ (Nat.ne_of_lt h92.lt)).trans c0
  go_region_with (go_at_call 23; refine (words_any _).mono ?_; rintro e w4 ⟨rfl, rfl⟩)
  all_goals
    go_wp2_with fail
    go_ret2
    exact ⟨fin 4 _ _ _ hs.symm (by simp [joinA, join_cons, joinTail]), (hA2.alloc hA2.size _).drew⟩
end Go.Proofs.YtcociflljbaicaaDoor
namespace Go.Proofs.YtcociflljbaicaaDoor
open Go.RowKit Go.Lib

set_option maxHeartbeats 8000000 in
set_option maxRecDepth 100000 in
theorem Edit_over (a : Int) (f : Bool) (ha : I64 a) (w : World) (hv : VarsW w) :
    Calls Tryd.prog 12 #[(⟨3, a, 0, 0, 0, 0, 0, 0, 0, f⟩ : Ed).val] w fun e' w' => e' = .returned (.tuple #[.string (bs (joinA 32 [W 3, itoa a, flL f])), .int .i64 0]) ∧ Below w.heap.size w w' := by
  have h9 := E9.new w ⟨3, a, 0, 0, 0, 0, 0, 0, 0, f⟩
  have hA := (Below.refl _ w).alloc (Nat.le_refl _) (.cells (⟨3, a, 0, 0, 0, 0, 0, 0, 0, f⟩ : Ed).cells 34)
  have h1 := i64_1 ha
  have hz := ints_size [a] h1 (by simp)
  simp only [Ed.val, Ed.cells, Int.cast_ofNat_Int] at h9 hA ⊢
  cases f <;> (
    go_enter Tryd.func12, Tryd.ntmps12
    go_wp2_with fail
    refine (ints_any _ [a] h1 (by simp) (by simp) _ (ints_at _ _ (by simp) [a] #[.int .i64 a] rfl (by simp) _ rfl) (hv.below (hA.alloc (by simp) _))).mono ?_
    rintro e w2 ⟨rfl, hb2⟩
    generalize hs : bs (join ([a].map itoa) [32]) = s at hz ⊢
    have h92 := (h9.below ((Below.refl _ _).alloc (Nat.le_refl _) _)).below hb2
    have hA2 := (hA.alloc (by simp) _).trans (hb2.mono (by simp; omega))
    have c0 : w2.cell? ⟨w.heap.size, 0, none⟩ = some (.int .i64 3) := h92.c0
    have c1 : w2.cell? ⟨w.heap.size, 1, none⟩ = some (.int .i64 a) := h92.c1
    have c8 := h92.c8
    dsimp only at c8
    go_wp2_with fail)
  · have hwd := word_at w2 3 (by decide)
    have hwz := W_size 3 (by decide)
    have c0' := kind_of h92 3 rfl
    go_region_with (go_at_call 23; refine (words_any _).mono ?_; rintro e w4 ⟨rfl, rfl⟩)
    all_goals
      go_wp2_with fail
      go_ret2
      exact ⟨fin 3 (join [itoa a] [32] ++ [32] ++ offL) _ _ (by rw [← hs, List.append_assoc, ← bs_append]; rfl) (by simp [joinA, join_one, flL]), (hA2.alloc hA2.size _).drew⟩
  · refine (ints_any _ [a] h1 (by simp) (by simp) _ (ints_at _ _ rfl [a] #[.int .i64 a] rfl (by simp) _ rfl) ((hv.below hA2).below ((Below.refl _ _).alloc (Nat.le_refl _) _))).mono ?_
    rintro e w3 ⟨rfl, hb3⟩
    rw [hs]
    have h93 := (h92.below ((Below.refl _ _).alloc (Nat.le_refl _) _)).below hb3
    have hA3 := (hA2.alloc hA2.size _).trans (hb3.mono (by simp; have := hA2.size; omega))
    clear c0 c1 c8
    have c0 : w3.cell? ⟨w.heap.size, 0, none⟩ = some (.int .i64 3) := h93.c0
    have hwd := word_at w3 3 (by decide)
    have hwz := W_size 3 (by decide)
    have c0' := kind_of h93 3 rfl
    go_wp2_with fail
    go_region_with (go_at_call 23; refine (words_any _).mono ?_; rintro e w4 ⟨rfl, rfl⟩)
    all_goals
      go_wp2_with fail
      go_ret2
      exact ⟨fin 3 (join [itoa a] [32] ++ [32] ++ onL) _ _ (by rw [← hs, List.append_assoc, ← bs_append]; rfl) (by simp [joinA, join_one, flL]), (hA3.alloc hA3.size _).drew⟩
set_option maxHeartbeats 8000000 in
set_option maxRecDepth 100000 in
theorem Edit_unpin (a : Int) (pa : Nat) (pn : Int) (ha : I64 a) (hp : pa < 4294967296) (hsn : snd pa pn = true) (w : World) (hv : VarsW w) :
    Calls Tryd.prog 12 #[(⟨10, a, 0, 0, 0, 0, 0, pa, pn, false⟩ : Ed).val] w fun e' w' => e' = .returned (.tuple #[.string (bs (joinA 32 [W 10, itoa a, pfxL pa pn])), .int .i64 0]) ∧ Below w.heap.size w w' := by
  have h9 := E9.new w ⟨10, a, 0, 0, 0, 0, 0, pa, pn, false⟩
  have hA := (Below.refl _ w).alloc (Nat.le_refl _) (.cells (⟨10, a, 0, 0, 0, 0, 0, pa, pn, false⟩ : Ed).cells 34)
  have h1 := i64_1 ha
  have hz := ints_size [a] h1 (by simp)
  have hzp : (bs (pfxL pa pn)).size ≤ 18 := by rw [bs_size]; exact pfx_len pa pn hsn
  simp only [Ed.val, Ed.cells, Int.cast_ofNat_Int] at h9 hA ⊢
  go_enter Tryd.func12, Tryd.ntmps12
  go_wp2_with fail
  refine (Prefix_good pa hp pn hsn (snd_bd hsn) _ (hv.below hA)).mono ?_
  rintro e w1 ⟨rfl, hb1⟩
  have h91 := h9.below hb1
  have hA1 := hA.trans (hb1.mono hA.size)
  have c0 : w1.cell? ⟨w.heap.size, 0, none⟩ = some (.int .i64 10) := h91.c0
  have c1 : w1.cell? ⟨w.heap.size, 1, none⟩ = some (.int .i64 a) := h91.c1
  go_wp2_with fail
  refine (ints_any _ [a] h1 (by simp) (by simp) _ (ints_at _ _ rfl [a] #[.int .i64 a] rfl (by simp) _ rfl) ((hv.below hA1).below ((Below.refl _ _).alloc (Nat.le_refl _) _))).mono ?_
  rintro e w2 ⟨rfl, hb2⟩
  generalize hs : bs (join ([a].map itoa) [32]) = s at hz ⊢
  generalize hs2 : bs (pfxL pa pn) = s2 at hzp ⊢
  have h92 := (h91.below ((Below.refl _ _).alloc (Nat.le_refl _) _)).below hb2
  have hA2 := (hA1.alloc hA1.size _).trans (hb2.mono (by simp; have := hA1.size; omega))
  clear c0 c1
  have c0 : w2.cell? ⟨w.heap.size, 0, none⟩ = some (.int .i64 10) := h92.c0
  have hwd := word_at w2 10 (by decide)
  have hwz := W_size 10 (by decide)
  have c0' := kind_of h92 10 rfl
  go_wp2_with fail
  go_region_with (go_at_call 23; refine (words_any _).mono ?_; rintro e w4 ⟨rfl, rfl⟩)
  all_goals
    go_wp2_with fail
    go_ret2
    exact ⟨fin 10 (join [itoa a] [32] ++ [32] ++ pfxL pa pn) _ _ (by rw [← hs, ← hs2, ← bs_append, ← bs_append]; rfl) (by simp [joinA, join_one]), (hA2.alloc hA2.size _).drew⟩
set_option maxHeartbeats 8000000 in
set_option maxRecDepth 100000 in
theorem Edit_pin (a c : Int) (pa : Nat) (pn : Int) (ha : I64 a) (hc : I64 c) (hp : pa < 4294967296) (hsn : snd pa pn = true) (w : World) (hv : VarsW w) :
    Calls Tryd.prog 12 #[(⟨9, a, 0, c, 0, 0, 0, pa, pn, false⟩ : Ed).val] w fun e' w' => e' = .returned (.tuple #[.string (bs (joinA 32 [W 9, itoa a, pfxL pa pn, itoa c])), .int .i64 0]) ∧ Below w.heap.size w w' := by
  have h9 := E9.new w ⟨9, a, 0, c, 0, 0, 0, pa, pn, false⟩
  have hA := (Below.refl _ w).alloc (Nat.le_refl _) (.cells (⟨9, a, 0, c, 0, 0, 0, pa, pn, false⟩ : Ed).cells 34)
  have h1 := i64_1 ha
  have h3 := i64_1 hc
  have hz := ints_size [a] h1 (by simp)
  have hz3 := ints_size [c] h3 (by simp)
  have hzp : (bs (pfxL pa pn)).size ≤ 18 := by rw [bs_size]; exact pfx_len pa pn hsn
  simp only [Ed.val, Ed.cells, Int.cast_ofNat_Int] at h9 hA ⊢
  go_enter Tryd.func12, Tryd.ntmps12
  go_wp2_with fail
  refine (Prefix_good pa hp pn hsn (snd_bd hsn) _ (hv.below hA)).mono ?_
  rintro e w1 ⟨rfl, hb1⟩
  have h91 := h9.below hb1
  have hA1 := hA.trans (hb1.mono hA.size)
  have c0 : w1.cell? ⟨w.heap.size, 0, none⟩ = some (.int .i64 9) := h91.c0
  have c1 : w1.cell? ⟨w.heap.size, 1, none⟩ = some (.int .i64 a) := h91.c1
  go_wp2_with fail
  refine (ints_any _ [a] h1 (by simp) (by simp) _ (ints_at _ _ rfl [a] #[.int .i64 a] rfl (by simp) _ rfl) ((hv.below hA1).below ((Below.refl _ _).alloc (Nat.le_refl _) _))).mono ?_
  rintro e w2 ⟨rfl, hb2⟩
  generalize hs : bs (join ([a].map itoa) [32]) = s at hz ⊢
  generalize hs2 : bs (pfxL pa pn) = s2 at hzp ⊢
  have h92 := (h91.below ((Below.refl _ _).alloc (Nat.le_refl _) _)).below hb2
  have hA2 := (hA1.alloc hA1.size _).trans (hb2.mono (by simp; have := hA1.size; omega))
  clear c0 c1
  have c0 : w2.cell? ⟨w.heap.size, 0, none⟩ = some (.int .i64 9) := h92.c0
  have c3 : w2.cell? ⟨w.heap.size, 3, none⟩ = some (.int .i64 c) := h92.c3
  go_wp2_with fail
  refine (ints_any _ [c] h3 (by simp) (by simp) _ (ints_at _ _ rfl [c] #[.int .i64 c] rfl (by simp) _ rfl) ((hv.below hA2).below ((Below.refl _ _).alloc (Nat.le_refl _) _))).mono ?_
  rintro e w3 ⟨rfl, hb3⟩
  generalize hs3 : bs (join ([c].map itoa) [32]) = s3 at hz3 ⊢
  have h93 := (h92.below ((Below.refl _ _).alloc (Nat.le_refl _) _)).below hb3
  have hA3 := (hA2.alloc hA2.size _).trans (hb3.mono (by simp; have := hA2.size; omega))
  clear c0 c3
  have c0 : w3.cell? ⟨w.heap.size, 0, none⟩ = some (.int .i64 9) := h93.c0
  have hwd := word_at w3 9 (by decide)
  have hwz := W_size 9 (by decide)
  have c0' := kind_of h93 9 rfl
  go_wp2_with fail
  go_region_with (go_at_call 23; refine (words_any _).mono ?_; rintro e w4 ⟨rfl, rfl⟩)
  all_goals
    go_wp2_with fail
    go_ret2
    exact ⟨fin 9 (join [itoa a] [32] ++ [32] ++ pfxL pa pn ++ ([32] ++ join [itoa c] [32])) _ _ (by rw [← hs, ← hs2, ← hs3, ← bs_append, ← bs_append, ← bs_append, ← bs_append]; rfl) (by simp [joinA, join_one]), (hA3.alloc hA3.size _).drew⟩
end Go.Proofs.YtcociflljbaicaaDoor
