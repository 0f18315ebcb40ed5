/- The heap: New, Len, Top, in. -/
import Derived.Test.YtpapknmkiampgaaD
namespace Go.Proofs.Ytpapknmkiampgaa
open Go.RowKit

/-- The cells of a heap that holds nothing. -/
def heap0 : Array Value := #[.slice none 0 0] ++ Array.replicate 128 (.int .i64 0)
theorem heap0_zero : heap0[0]? = some (.slice none 0 0) := by kernel_rfl
theorem heap0_at (n : Nat) (h : n < 128) : heap0[1 + n]? = some (.int .i64 0) := by
  unfold heap0
  rw [Array.getElem?_append_right (by simp), Array.getElem?_replicate]
  simp [h]
theorem zero66 (w : World) : (zeroValue 66).run Try.prog w = .ok (.agg heap0) w := by kernel_rfl
theorem HW.new (w : World) : HW (w.alloc (.cells heap0 66)) w.heap.size (.slice none 0 0) [] (fun _ => 0) :=
  ⟨new_cell w _ rfl _ _ 0 _ heap0_zero, new_free w _ _ _, fun n hn => new_cell w _ rfl _ _ _ _ (heap0_at n hn), fun n _ => new_free w _ _ _, World.ownsRow_nil _ _ _ _, by simp [Value.ownBlock], by simp, by simp, by simp⟩
theorem new_any (w : World) : Calls Try.prog 8 #[] w fun e w' => e = .returned (.pointer (some ⟨w.heap.size, 0, none⟩)) ∧ HW w' w.heap.size (.slice none 0 0) [] (fun _ => 0) ∧ Below w.heap.size w w' := by
  have hz := zero66 w
  go_enter Try.func8, Try.ntmps8
  go_wp2
  go_ret
  exact ⟨rfl, HW.new w, (Below.refl _ _).alloc (Nat.le_refl _) _⟩

theorem in_any (n : Int) (w : World) : Calls Try.prog 35 #[.int .i64 n] w fun e w' => e = .returned (.bool (decide (0 ≤ n) && decide (n ≤ 127))) ∧ w = w' := by
  go_enter Try.func35, Try.ntmps35
  by_cases h : 0 ≤ n
  all_goals
    go_wp2
    go_ret
    exact ⟨ret_bool (by first | (simp [h]; done) | (simp; omega)), rfl⟩

theorem len_any (H : Nat) (v : Value) (s : HS) (w : World) (h : HW w H v s.1 s.2) : Calls Try.prog 11 #[.pointer (some ⟨H, 0, none⟩)] w fun e w' => e = .returned (.int .i64 s.1.length) ∧ w = w' := by
  have c0 := h.c0
  obtain ⟨a, cap, hv⟩ : ∃ a cap, v = .slice a s.1.length cap := by
    rcases h.own.2 with ⟨e, h0⟩ | ⟨g, cap, cur, e, _⟩
    · exact ⟨none, 0, by rw [e, h0]⟩
    · exact ⟨_, _, e⟩
  subst hv
  go_enter Try.func11, Try.ntmps11
  go_wp2
  go_ret
  exact ⟨rfl, rfl⟩
theorem len_nil (w : World) : Calls Try.prog 11 #[.pointer none] w fun e w' => e = .returned (.int .i64 0) ∧ w = w' := by
  go_enter Try.func11, Try.ntmps11
  go_wp2
  go_ret
  exact ⟨rfl, rfl⟩

def topR (es : List En) : Value := match es with | [] => .tuple #[.int .i64 0, .int .i64 0, .int .i64 8] | a :: _ => .tuple #[.int .i64 a.2, .int .i64 a.1, .int .i64 0]
theorem top_any (H : Nat) (v : Value) (s : HS) (w : World) (h : HW w H v s.1 s.2) : Calls Try.prog 28 #[.pointer (some ⟨H, 0, none⟩)] w fun e w' => e = .returned (topR s.1) ∧ ∃ n, w' = w.drewN n := by
  obtain ⟨es, po⟩ := s
  have c0 := h.c0
  cases es with
  | nil =>
    obtain ⟨a, cap, hv⟩ : ∃ a cap, v = .slice a 0 cap := by
      rcases h.own.2 with ⟨e, h0⟩ | ⟨g, cap, cur, e, _⟩
      · exact ⟨none, 0, by rw [e]⟩
      · exact ⟨_, _, e⟩
    subst hv
    go_enter Try.func28, Try.ntmps28
    go_wp2
    go_ret3
    exact ⟨rfl, 0, rfl⟩
  | cons a es =>
    obtain ⟨G, cap, rfl, hG, hGl, hcap, hcm, hrow⟩ := h.row (by simp)
    obtain ⟨i0, i1, _, _⟩ := hrow 0 a rfl
    simp only [Nat.zero_mul, Nat.zero_add, List.length_cons] at i0 i1 c0 hcap
    clear hrow
    unfold maxLen at hcm
    go_enter Try.func28, Try.ntmps28
    go_wp2
    go_quiet (fail)
    go_wp2
    go_ret3
    exact ⟨rfl, _, rfl⟩
theorem top_nil (w : World) : Calls Try.prog 28 #[.pointer none] w fun e w' => e = .returned (.tuple #[.int .i64 0, .int .i64 0, .int .i64 2]) ∧ w = w' := by
  go_enter Try.func28, Try.ntmps28
  go_wp2
  go_ret3
  exact ⟨rfl, rfl⟩
end Go.Proofs.Ytpapknmkiampgaa
