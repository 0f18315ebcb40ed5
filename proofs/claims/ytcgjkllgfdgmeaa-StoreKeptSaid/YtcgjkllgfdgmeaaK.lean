/- The store: the law StoreKept. -/
import Derived.Test.YtcgjkllgfdgmeaaJ
namespace Go.Proofs.Ytcgjkllgfdgmeaa
open Go.RowKit

theorem asc_range {k : Nat} (h : k ≤ 128) : Asc (List.range k) := ⟨fun x hx => by have := List.mem_range.1 hx; omega, List.pairwise_lt_range⟩
set_option maxHeartbeats 8000000 in
set_option maxRecDepth 100000 in
theorem StoreKept_walk (c : Int) (h0 : 0 ≤ c) (w : World) :
    Calls Try.prog 3 #[.int .u8 c] w fun e w' => e = .returned (.bool true) ∧ Below w.heap.size w w' := by
  obtain ⟨n, hn, hc⟩ : ∃ n : Nat, n < 40 ∧ c.tmod 40 = n := ⟨(c.tmod 40).toNat, by rw [Int.tmod_eq_emod_of_nonneg h0]; omega, by rw [Int.tmod_eq_emod_of_nonneg h0]; omega⟩
  go_enter Try.func3, Try.ntmps3
  go_wp2_with (first
    | (go_at_call 4; refine (New_any List.range rfl).mono ?_; rintro e w1 ⟨S, rfl, ring, hT1⟩)
    | (go_at_call 5; refine (awake_any).mono ?_; rintro e w2 ⟨rfl, hb2⟩; have hT2 := hT1.below hb2))
  clear hT1 hb2 hc h0
  go_loopw [6] (fun x wr => ∃ i : Nat, x = .int .i64 i ∧ i ≤ n ∧ ∃ ring', ST w wr S i ring' List.range) (fun x _ => n - (kO x).toNat)
  case atStart => exact ⟨0, rfl, Nat.zero_le _, _, hT2⟩
  case round =>
    clear hT2
    obtain ⟨i, rfl, hi, ring', hT⟩ := hrel
    by_cases hlt : i < n
    · go_wp2_with (go_at_call 6; refine (Commit_any (hT.below ((Below.refl _ _).alloc (Nat.le_refl _) _)) (by omega) (asc_range (by omega)) _ i (ed_new _ i) (by omega) (fun x hx => List.mem_range.1 hx) List.range_succ).mono ?_; rintro e w4 ⟨rfl, ring4, hT4⟩; have e5 : ((i : Int) + 1 != (i : Int) + 1) = false := (by simp))
      go_roundw
      case rel => exact ⟨i + 1, by go_num, by omega, _, hT4⟩
      case measure => simp [kO]; omega
    · have hin : i = n := by omega
      subst hin
      go_wp2_with fail
      go_loopw [10] (fun x wr => ∃ k : Nat, x = .int .i64 k ∧ k ≤ i + 1 ∧ ST w wr S i ring' List.range) (fun x _ => (i + 1) - (kO x).toNat)
      case atStart => exact ⟨0, rfl, Nat.zero_le _, hT⟩
      case round =>
        clear hT
        obtain ⟨k, rfl, hk, hT⟩ := hrel
        by_cases hlt2 : k ≤ i
        · by_cases hold : k + 8 ≤ i
          · have f1 : decide ((k : Int) ≤ (i : Int) - 8) = true := by simp; omega
            have f2 : decide ((k : Int) > (i : Int) - 8) = false := by simp; omega
            go_wp2_with (go_at_call 7; refine (Graph_err k 9 (.inr rfl) (fun w2 hw2 => find_old (hT.below hw2) k hlt2 hold (by omega))).mono ?_; rintro e w4 ⟨rfl, hb4⟩; have hT4 := (hT.below hb4).below ((Below.refl _ w4).alloc (Nat.le_refl _) (.cells #[.slice none 0 0, .slice none 0 0, .slice none 0 0] 30)); have hB3 := B3.new w4 (.slice none 0 0) (.slice none 0 0) (.slice none 0 0); have r0 := hB3.c0; have r1 := hB3.c1; have r2 := hB3.c2; have rf := hB3.f)
            go_roundw
            case rel => exact ⟨k + 1, by go_num, by omega, hT4⟩
            case measure => simp [kO]; omega
          · have f1 : decide ((k : Int) ≤ (i : Int) - 8) = false := by simp; omega
            have f2 : decide ((k : Int) > (i : Int) - 8) = true := by simp; omega
            have hL : (List.range k).length = k := List.length_range
            go_wp2_with (go_at_call 7; refine (Graph_kept hT k hlt2 (by omega) (by omega) (asc_range (by omega))).mono ?_; rintro e w4 ⟨v4, rfl, hv4, hb4⟩; obtain ⟨a4, cp4, rfl, _, _⟩ := hv4.form; rw [hL]; have hT4 := (hT.below hb4).below ((Below.refl _ w4).alloc (Nat.le_refl _) (.cells #[.slice a4 k cp4, .slice none 0 0, .slice none 0 0] 30)); have hB3 := B3.new w4 (.slice a4 k cp4) (.slice none 0 0) (.slice none 0 0); have r0 := hB3.c0; have r1 := hB3.c1; have r2 := hB3.c2; have rf := hB3.f)
            go_roundw
            case rel => exact ⟨k + 1, by go_num, by omega, hT4⟩
            case measure => simp [kO]; omega
        · have hki : k = i + 1 := by omega
          subst hki
          go_wp2_with fail
          refine (Graph_err ((i : Int) + 1) 2 (.inl rfl) (fun w2 hw2 => find_out (hT.below hw2) _ (.inr (by omega)))).mono ?_
          rintro e w4 ⟨rfl, hb4⟩
          have hT4 := hT.below hb4
          go_wp2_with fail
          refine (Graph_err (-1) 2 (.inl rfl) (fun w2 hw2 => find_out (hT4.below hw2) _ (.inl (by decide)))).mono ?_
          rintro e w5 ⟨rfl, hb5⟩
          have hT5 := (hT4.below hb5).below ((Below.refl _ w5).alloc (Nat.le_refl _) (.cells #[.slice none 0 0, .slice none 0 0, .slice none 0 0] 30))
          go_wp2_with (go_at_call 8; refine (Now_any hT5).mono ?_; rintro e w6 ⟨rfl, rfl⟩)
          go_ret
          exact ⟨rfl, hT5.hb⟩
end Go.Proofs.Ytcgjkllgfdgmeaa
