/- Slices that are read; Least. -/
import Derived.Test.YtpclmpgemlcbpaaA
import Derived.Lib.Hide
namespace Go.Proofs.Ytpclmpgemlcbpaa
open Go.RowKit

def leastF (xs : List Int) : Int := xs.foldl (fun d n => if clampI n < d then clampI n else d) 1073741824
theorem leastF_snoc (xs : List Int) (k : Nat) (hk : k < xs.length) : leastF (xs.take (k + 1)) = if clampI xs[k] < leastF (xs.take k) then clampI xs[k] else leastF (xs.take k) := by
  unfold leastF; rw [List.take_succ_eq_append_getElem hk, List.foldl_append]; rfl
theorem leastF_bd (xs : List Int) : 0 ≤ leastF xs ∧ leastF xs ≤ 1073741824 := by
  have : ∀ (l : List Int) (d : Int), 0 ≤ d → d ≤ 1073741824 → 0 ≤ l.foldl (fun d n => if clampI n < d then clampI n else d) d ∧ l.foldl (fun d n => if clampI n < d then clampI n else d) d ≤ 1073741824 := by
    intro l
    induction l with
    | nil => intro d h1 h2; exact ⟨h1, h2⟩
    | cons x l ih =>
      intro d h1 h2
      have := clampI_bd x
      simp only [List.foldl_cons]
      apply ih <;> split <;> omega
  exact this xs _ (by omega) (by omega)

set_option maxHeartbeats 400000 in
theorem Least_any (v : Value) (xs : List Int) (w : World) (h : SlR w 1 v xs.length (ints xs)) :
    Calls Try.prog 12 #[v] w fun e w' => e = .returned (.int .i64 (leastF xs)) ∧ w = w' := by
  obtain ⟨a, cap, rfl, hm, hc⟩ := h.form
  go_enter Try.func12, Try.ntmps12
  go_wp2_with fail
  go_loop [3, 5, 8] (fun d x i => ∃ k : Nat, k ≤ xs.length ∧ i = .int .i64 k ∧ d = .int .i64 (leastF (xs.take k))) (fun _ _ i => xs.length - (intOf i).toNat)
  case atStart => exact ⟨0, Nat.zero_le _, rfl, rfl⟩
  case round =>
    obtain ⟨k, hk, rfl, rfl⟩ := hrel
    by_cases hlt : k < xs.length
    · obtain ⟨b, off, rfl, hcell⟩ := hc.int_at k hlt
      clear hc
      have hs := leastF_snoc xs k hlt
      have HS := Lib.hid hs
      clear hs
      go_wp2_with (go_at_call 18; refine (clamp_any _ _).mono ?_; rintro e w' ⟨rfl, rfl⟩)
      go_round
      case rel => exact ⟨k + 1, by omega, by go_num, by rw [HS.out]⟩
      case measure => simp [intOf]; omega
    · go_wp2
      go_ret
      exact ⟨ret_int (by rw [List.take_of_length_le (by omega)]), rfl⟩

theorem lessB_lt (n d : Int) (h0 : 0 ≤ d) (h1 : d ≤ 1073741824) : lessB n d = decide (clampI n < d) := by
  have : clampI d = d := by unfold clampI; (repeat' split) <;> omega
  unfold lessB; rw [this]

set_option maxHeartbeats 400000 in
theorem refLeast_any (v : Value) (xs : List Int) (w : World) (h : SlR w 1 v xs.length (ints xs)) :
    Calls Try.prog 13 #[v] w fun e w' => e = .returned (.int .i64 (leastF xs)) ∧ w = w' := by
  obtain ⟨a, cap, rfl, hm, hc⟩ := h.form
  go_enter Try.func13, Try.ntmps13
  go_wp2_with fail
  go_loop [3, 4] (fun d i => ∃ k : Nat, k ≤ xs.length ∧ i = .int .i64 k ∧ d = .int .i64 (leastF (xs.take k))) (fun _ i => xs.length - (intOf i).toNat)
  case atStart => exact ⟨0, Nat.zero_le _, rfl, rfl⟩
  case round =>
    obtain ⟨k, hk, rfl, rfl⟩ := hrel
    by_cases hlt : k < xs.length
    · obtain ⟨b, off, rfl, hcell⟩ := hc.int_at k hlt
      clear hc
      have hs := leastF_snoc xs k hlt
      have HS := Lib.hid hs
      clear hs
      have hbd := leastF_bd (xs.take k)
      have hle := lessB_lt xs[k] (leastF (xs.take k)) hbd.1 hbd.2
      by_cases hd : clampI xs[k] < leastF (xs.take k)
      all_goals
        go_wp2_with (first | (go_at_call 10; refine (refLess_any _ _ _).mono ?_; rintro e w' ⟨rfl, rfl⟩) | (go_at_call 11; refine (Clamp_any _ _).mono ?_; rintro e w' ⟨rfl, rfl⟩))
        go_round
        case rel => exact ⟨k + 1, by omega, by go_num, by rw [HS.out]; first | rw [if_pos hd] | rw [if_neg (by omega)]⟩
        case measure => simp [intOf]; omega
    · go_wp2
      go_ret
      exact ⟨ret_int (by rw [List.take_of_length_le (by omega)]), rfl⟩

theorem info3 : (Try.prog.info? 3).map (fun i => (i.zero, i.size, i.bytes)) = some (some (.int .i64 0), 1, 8) := by kernel_rfl

theorem foldMin_le (xs : List Int) : ∀ (d : Int), (xs.foldl (fun d n => if clampI n < d then clampI n else d) d) ≤ d ∧ ∀ x ∈ xs, (xs.foldl (fun d n => if clampI n < d then clampI n else d) d) ≤ clampI x := by
  induction xs with
  | nil => intro d; exact ⟨Int.le_refl _, by simp⟩
  | cons y l ih =>
    intro d
    simp only [List.foldl_cons]
    obtain ⟨h1, h2⟩ := ih (if clampI y < d then clampI y else d)
    generalize hg : (if clampI y < d then clampI y else d) = g at *
    have hg1 : g ≤ d ∧ g ≤ clampI y := by rw [← hg]; split <;> omega
    refine ⟨by omega, ?_⟩
    intro x hx
    rcases List.mem_cons.1 hx with rfl | hx
    · omega
    · exact h2 x hx
theorem leastF_none (xs : List Int) (k : Nat) (hk : k < xs.length) : ¬ clampI xs[k] < leastF xs := by
  have := (foldMin_le xs 1073741824).2 xs[k] (List.getElem_mem hk)
  unfold leastF
  omega

set_option maxHeartbeats 400000 in
theorem DistLeast_walk (v : Value) (xs : List Int) (w : World) (h : SlR w 1 v xs.length (ints xs)) (hr : xs.length * 8 ≤ 140737488351232) :
    Calls Try.prog 4 #[v] w fun e w' => e = .returned (.bool true) ∧ Below w.heap.size w w' := by
  obtain ⟨a, cap, rfl, hm, hc⟩ := h.form
  have hbd := leastF_bd xs
  go_enter Try.func4, Try.ntmps4
  go_wp2_with (first | (go_at_call 6; refine (awake_true _).mono ?_; rintro e w' ⟨rfl, rfl⟩) | (at_builtin; refine wpList_append_sl rfl _ _ 26 3 rfl w.heap.size (.int .i64 0) 1 8 Try.underlying26 info3 rfl (by decide) (by decide) (.slice (some ⟨w.heap.size, 0, none⟩) 0 0) 0 [] rfl (World.ownsRow_made w #[] 0 (Nat.le_refl _) (by simp [maxLen]) rfl) _ xs.length (ints xs) rfl (hc.alloc _) (ints_one xs) (by omega) (by simp) ?_; intro v1 w1 hown hg hat) | (go_at_call 12; refine (Least_any _ xs _ (by simpa using SlR.of_owns hown)).mono ?_; rintro e w' ⟨rfl, rfl⟩))
  have hb : Below w.heap.size w w1 := ((Below.refl _ _).alloc (Nat.le_refl _) _).grown hg (by simp) (by intro k hk; simp [Value.ownBlock] at hk; exact Nat.le_of_eq hk)
  have hc1 := hc.below hb
  obtain ⟨b1, off1, h1⟩ : ∃ a1 c1, v1 = .slice a1 xs.length c1 := by
    obtain ⟨a1, c1, h1, _⟩ := (SlR.of_owns hown).form
    exact ⟨a1, c1, by simpa using h1⟩
  subst h1
  have ho1 : SlR w1 1 (.slice b1 xs.length off1) xs.length (ints xs) := by simpa using SlR.of_owns hown
  clear hown hg hat
  go_loopw [5] (fun i wr => ∃ k : Nat, k ≤ xs.length ∧ i = .int .i64 k ∧ Below w.heap.size w wr ∧ SlR wr 1 (.slice a xs.length cap) xs.length (ints xs) ∧ SlR wr 1 (.slice b1 xs.length off1) xs.length (ints xs)) (fun i _ => xs.length - (intOf i).toNat)
  case atStart => exact ⟨0, Nat.zero_le _, rfl, hb, hc1, ho1⟩
  case round =>
    clear hb hc1 ho1 hc h
    obtain ⟨k, hk, rfl, hb, hc, ho⟩ := hrel
    by_cases hlt : k < xs.length
    · obtain ⟨b, off, rfl, hcell⟩ := hc.int_at k hlt
      obtain ⟨b', off', rfl, hcell'⟩ := ho.int_at k hlt
      have hne : (xs[k] != xs[k]) = false := by simp
      have hle : lessB xs[k] (leastF xs) = false := by rw [lessB_lt _ _ hbd.1 hbd.2]; simpa using leastF_none xs k hlt
      go_wp2
      go_quiet ((go_at_call 9; exact quiet_same (Less_any _ _ _)))
      go_wp2
      go_roundw
      case rel => exact ⟨k + 1, by omega, by go_num, below_drewN hb _, hc.drewN _, ho.drewN _⟩
      case measure => simp [intOf]; omega
    · go_wp2_with (go_at_call 13; refine (refLeast_any _ xs _ hc).mono ?_; rintro e w' ⟨rfl, rfl⟩)
      go_ret
      exact ⟨ret_bool (by simp), hb⟩
end Go.Proofs.Ytpclmpgemlcbpaa
