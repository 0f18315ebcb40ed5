/- The store: awake. -/
import Derived.Test.YtcgjkllgfdgmeaaI
namespace Go.Proofs.Ytcgjkllgfdgmeaa
open Go.RowKit

theorem ed_new (w : World) (n : Nat) : SlR (w.alloc (.cells #[.int .i64 1, .int .i64 n, .int .i64 0, .int .i64 0, .int .i64 0, .complex .f64 0 0, .int .u32 0, .int .i64 0, .bool false] 39)) 9 (.slice (some ⟨w.heap.size, 0, none⟩) 1 1) 1 (ed n) := by
  refine ⟨rfl, by decide, _, _, rfl, nofun, .inr ⟨_, _, rfl, fun j u hu => ?_⟩⟩
  rw [Nat.zero_add]
  exact box_new w _ 39 j u (by rw [← hu]; simp [ed])
def G4 (k : Nat) : List Nat := if k = 0 then [] else [4]
set_option maxHeartbeats 8000000 in
set_option maxRecDepth 100000 in
theorem awake_any {w : World} :
    Calls Try.prog 5 #[] w fun e w' => e = .returned (.bool true) ∧ Below w.heap.size w w' := by
  go_enter Try.func5, Try.ntmps5
  go_wp2_with (first
    | (go_at_call 4; refine (New_any G4 rfl).mono ?_; rintro e w1 ⟨S, rfl, ring, hT⟩; have hA1 := (Below.refl _ w1).alloc (Nat.le_refl _) (.cells #[.int .i64 1, .int .i64 4, .int .i64 0, .int .i64 0, .int .i64 0, .complex .f64 0 0, .int .u32 0, .int .i64 0, .bool false] 39))
    | (go_at_call 6; refine (Commit_any (hT.below hA1) (by decide) ⟨fun _ h => (nomatch h), List.Pairwise.nil⟩ _ 4 (ed_new w1 4) (by decide) (fun _ h => nomatch h) rfl).mono ?_; rintro e w2 ⟨rfl, ring2, hT2⟩)
    | (go_at_call 7; refine (Graph_kept hT2 1 (Nat.le_refl 1) (by decide) (by decide) ⟨by decide, by decide⟩).mono ?_; rintro e w3 ⟨v3, rfl, hv3, hb3⟩; obtain ⟨a3, cp3, rfl, _, _⟩ := hv3.form; have hA3 := (Below.refl _ w3).alloc (Nat.le_refl _) (.cells #[.slice a3 (G4 1).length cp3, .slice none 0 0, .slice none 0 0] 30); have hB3 := B3.new w3 (.slice a3 (G4 1).length cp3) (.slice none 0 0) (.slice none 0 0); have r0 := hB3.c0; have r1 := hB3.c1; have r2 := hB3.c2; have rf := hB3.f; have hT3 := (hT2.below hb3).below hA3; have hL : (G4 1).length = 1 := rfl)
    | (go_at_call 8; refine (Now_any hT3).mono ?_; rintro e w4 ⟨rfl, rfl⟩))
  go_ret
  exact ⟨rfl, hT3.hb⟩
end Go.Proofs.Ytcgjkllgfdgmeaa
