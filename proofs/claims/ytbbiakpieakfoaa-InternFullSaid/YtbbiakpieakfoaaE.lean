/- The law InternFull: the walk. -/
import Derived.Test.YtbbiakpieakfoaaD
namespace Go.Proofs.Ytbbiakpieakfoaa
open Go.RowKit

/-- The table's sets after k rounds. -/
def fullL (f : UInt64) (k : Nat) : List Bt := (0, 0) :: (List.range k).map fun j => (f, UInt64.ofNat (j + 1))
theorem fullL_length (f : UInt64) (k : Nat) : (fullL f k).length = k + 1 := by simp [fullL]
theorem fullL_succ (f : UInt64) (k : Nat) : fullL f (k + 1) = fullL f k ++ [(f, UInt64.ofNat (k + 1))] := by
  simp [fullL, List.range_succ]
theorem ofNat_inj {a b : Nat} (ha : a < 10000) (hb : b < 10000) (h : UInt64.ofNat a = UInt64.ofNat b) : a = b := by
  have := congrArg UInt64.toNat h
  rw [UInt64.toNat_ofNat', UInt64.toNat_ofNat'] at this
  omega
theorem u_ofNat (n : Nat) (h : n < 10000) : u (UInt64.ofNat n) = (n : Int) := by
  unfold u; rw [UInt64.toNat_ofNat']; omega
theorem fullL_at (f : UInt64) (k j : Nat) (hj : 0 < j) (hk : j ≤ k) : (fullL f k)[j]? = some (f, UInt64.ofNat j) := by
  unfold fullL
  obtain ⟨j, rfl⟩ : ∃ i, j = i + 1 := ⟨j - 1, by omega⟩
  simp only [List.getElem?_cons_succ, List.getElem?_map]
  rw [List.getElem?_range (by omega)]
  rfl
theorem fullL_nodup (f : UInt64) (k : Nat) (hk : k < 2000) : (fullL f k).Nodup := by
  unfold fullL
  rw [List.nodup_cons]
  constructor
  · simp only [List.mem_map, List.mem_range, not_exists, not_and]
    intro j hj h
    have h2 := congrArg Prod.snd h
    have := ofNat_inj (a := j + 1) (b := 0) (by omega) (by omega) h2
    omega
  · refine List.Pairwise.map _ (fun a b h => ?_) (List.Pairwise.and_mem.1 List.nodup_range)
    intro e
    have h2 := congrArg Prod.snd e
    have hm := h.2.1
    have hm1 := h.1
    simp at hm hm1
    have := ofNat_inj (a := a + 1) (b := b + 1) (by omega) (by omega) h2
    exact h.2.2 (by omega)
theorem fullL_none (f : UInt64) (k m : Nat) (hk : k < 2000) (hm : k < m) (hm2 : m < 10000) : idxFrom 0 (f, UInt64.ofNat m) (fullL f k) = none := by
  cases h : idxFrom 0 (f, UInt64.ofNat m) (fullL f k) with
  | none => rfl
  | some j =>
    have h2 := (idxFrom_some _ _ _ _ h).2
    rw [Nat.sub_zero] at h2
    have hj : j < k + 1 := by
      have := (List.getElem?_eq_some_iff.1 h2).1
      rwa [fullL_length] at this
    rcases Nat.eq_zero_or_pos j with rfl | h0
    · simp [fullL] at h2
      have := ofNat_inj (a := 0) (b := m) (by omega) (by omega) h2.2
      omega
    · rw [fullL_at f k j h0 (by omega)] at h2
      simp at h2
      have := ofNat_inj (a := j) (b := m) (by omega) (by omega) h2
      omega

/-- A round: the next set is new. -/
theorem ID_step (f : UInt64) (k : Nat) (T M g B : Nat) (w : World) (h : Tab w T M g (fullL f k)) (hk : k < 1023) (hB : B ≤ w.heap.size) (hT : B ≤ T) (hM : B ≤ M) (hg : B ≤ g) :
    Calls Try.prog 9 #[.pointer (some ⟨T, 0, none⟩), .agg #[.int .u64 (u f), .int .u64 ((k : Int) + 1)]] w fun e w' => e = .returned (.tuple #[.int .i64 ((k : Int) + 1), .int .i64 0]) ∧ Below B w w' ∧ ∃ g', B ≤ g' ∧ Tab w' T M g' (fullL f (k + 1)) := by
  have e : u (UInt64.ofNat (k + 1)) = (k : Int) + 1 := by rw [u_ofNat _ (by omega)]; omega
  have := ID_new (f, UInt64.ofNat (k + 1)) T M g (fullL f k) w h (fullL_none f k (k + 1) (by omega) (by omega) (by omega)) (by rw [fullL_length]; omega)
  have hv : bv (f, UInt64.ofNat (k + 1)) = .agg #[.int .u64 (u f), .int .u64 ((k : Int) + 1)] := by
    show Value.agg #[_, .int .u64 (u (UInt64.ofNat (k + 1)))] = _
    rw [e]
  have hl : ((fullL f k).length : Int) = (k : Int) + 1 := by rw [fullL_length]; rfl
  rw [hv, hl, ← fullL_succ] at this
  refine this.mono ?_
  rintro _ w' ⟨rfl, g', h1, h2, h3⟩
  exact ⟨rfl, Below.keep (Below.refl _ _) hB h2 (by rintro i (rfl | rfl | rfl) <;> assumption), g', by omega, h1⟩

theorem ID_over (f : UInt64) (T M g : Nat) (w : World) (h : Tab w T M g (fullL f 1023)) :
    Calls Try.prog 9 #[.pointer (some ⟨T, 0, none⟩), .agg #[.int .u64 (u f), .int .u64 5000]] w fun e w' => e = .returned (.tuple #[.int .i64 0, .int .i64 7]) ∧ Below w.heap.size w w' := by
  have := ID_full (f, UInt64.ofNat 5000) T M g (fullL f 1023) w h (fullL_none f 1023 5000 (by omega) (by omega) (by omega)) (by rw [fullL_length]; omega)
  exact this
theorem ID_seven (f : UInt64) (T M g : Nat) (w : World) (h : Tab w T M g (fullL f 1023)) :
    Calls Try.prog 9 #[.pointer (some ⟨T, 0, none⟩), .agg #[.int .u64 (u f), .int .u64 7]] w fun e w' => e = .returned (.tuple #[.int .i64 7, .int .i64 0]) ∧ Below w.heap.size w w' := by
  have := ID_found (f, UInt64.ofNat 7) T M g 7 (fullL f 1023) w h (idxFrom_nodup _ _ (fullL_nodup f 1023 (by omega)) 7 (fullL_at f 1023 7 (by omega) (by omega)))
  exact this
theorem Union_full (f : UInt64) (T M g : Nat) (w : World) (h : Tab w T M g (fullL f 1023)) :
    Calls Try.prog 10 #[.pointer (some ⟨T, 0, none⟩), .int .i64 1, .int .i64 1022] w fun e w' => e = .returned (.tuple #[.int .i64 1023, .int .i64 0]) ∧
      ∃ g', Tab w' T M g' (fullL f 1023) ∧ Keep (fun k => k = T ∨ k = M ∨ k = g) w w' ∧ (g' = g ∨ w.heap.size ≤ g') := by
  obtain ⟨h1, e1⟩ := List.getElem?_eq_some_iff.1 (fullL_at f 1023 1 (by omega) (by omega))
  obtain ⟨h2, e2⟩ := List.getElem?_eq_some_iff.1 (fullL_at f 1023 1022 (by omega) (by omega))
  have := Union_in T M g 1 1022 (fullL f 1023) w h h1 h2
  have eo : orB (f, UInt64.ofNat 1) (f, UInt64.ofNat 1022) = (f, UInt64.ofNat 1023) := by
    unfold orB
    simp only [UInt64.or_self]
    rw [show UInt64.ofNat 1 ||| UInt64.ofNat 1022 = UInt64.ofNat 1023 by decide]
  have er : idRes (f, UInt64.ofNat 1023) (fullL f 1023) = (1023, 0, fullL f 1023) := by
    unfold idRes
    rw [idxFrom_nodup _ _ (fullL_nodup f 1023 (by omega)) 1023 (fullL_at f 1023 1023 (by omega) (by omega))]
  rw [e1, e2, eo, er] at this
  exact this

set_option maxHeartbeats 4000000 in
set_option maxRecDepth 100000 in
theorem InternFull_walk (f : UInt64) (w : World) :
    Calls Try.prog 4 #[.int .u64 (u f)] w fun e w' => e = .returned (.bool true) ∧ Below w.heap.size w w' := by
  go_enter Try.func4, Try.ntmps4
  go_wp2_with fail
  refine (New_any w).mono ?_
  rintro e w1 ⟨T, M, g, rfl, hb1, h1, hT, hM, hg⟩
  go_wp2_with fail
  refine (awake_true w1).mono ?_
  rintro e w2 ⟨rfl, hb2⟩
  have h2 := h1.below hb2
  have HB2 : Below w.heap.size w w2 := hb1.trans (hb2.mono hb1.size)
  clear hb1 hb2 h1
  go_wp2_with fail
  go_loopw [4] (fun i wr => ∃ k g : Nat, k ≤ 1023 ∧ i = .int .i64 ((k : Int) + 1) ∧ Below w.heap.size w wr ∧ w.heap.size ≤ g ∧ Tab wr T M g (fullL f k)) (fun i _ => 1024 - (intOf i).toNat)
  case atStart => exact ⟨0, g, by omega, rfl, HB2, hg, h2⟩
  case round =>
    clear HB2 h2 hg
    clear g
    obtain ⟨k, g, hk, rfl, hb, hg, ht⟩ := hrel
    have hbs := hb.size
    by_cases hlt : k < 1023
    · go_wp2_with (go_at_call 9; refine (ID_step f k T M g w.heap.size _ ht hlt hbs hT hM hg).mono ?_; rintro e w' ⟨rfl, hb', g', hg', ht'⟩)
      go_roundw
      case rel => exact ⟨k + 1, g', by omega, by go_num, hb.trans hb', hg', ht'⟩
      case measure => simp [intOf]; omega
    · have hk2 : k = 1023 := by omega
      subst hk2
      go_wp2_with fail
      refine (ID_over f T M g wr ht).mono ?_
      rintro e w3 ⟨rfl, hb3⟩
      have ht3 := ht.below hb3
      have hb3' := hb.trans (hb3.mono hbs)
      clear hb3 ht
      go_wp2_with fail
      refine (ID_seven f T M g w3 ht3).mono ?_
      rintro e w4 ⟨rfl, hb4⟩
      have ht4 := ht3.below hb4
      have hb4' := hb3'.trans (hb4.mono hb3'.size)
      clear hb4 hb3' ht3
      go_wp2_with fail
      refine (Union_full f T M g w4 ht4).mono ?_
      rintro e w5 ⟨rfl, g5, ht5, k5, r5⟩
      have hb5 := Below.keep hb4' hb4'.size k5 (by rintro i (rfl | rfl | rfl) <;> omega)
      clear k5 r5 hb4' ht4
      go_wp2_with fail
      refine (Len_any T M g5 _ w5 ht5).mono ?_
      rintro e w6 ⟨rfl, rfl⟩
      have hlen := fullL_length f 1023
      go_wp2_with fail
      go_ret
      exact ⟨ret_bool (by simp), hb5⟩
end Go.Proofs.Ytbbiakpieakfoaa
