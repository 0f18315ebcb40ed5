/- The law HeapNil. -/
import Derived.Test.YtpapknmkiampgaaJ
namespace Go.Proofs.Ytpapknmkiampgaa
open Go.RowKit

theorem push_nil (n k : Int) (w : World) : Calls Try.prog 9 #[.pointer none, .int .i64 n, .int .i64 k] w fun e w' => e = .returned (.int .i64 2) ∧ w = w' := push_out _ n k w (.inl rfl) (.inl rfl)
theorem drop_nil (n : Int) (w : World) : Calls Try.prog 10 #[.pointer none, .int .i64 n] w fun e w' => e = .returned (.int .i64 2) ∧ w = w' := drop_out _ n w (.inl rfl) (.inl rfl)

set_option maxHeartbeats 4000000 in
set_option maxRecDepth 100000 in
theorem HeapNil_walk (n k : Int) (w : World) : Calls Try.prog 6 #[.int .i64 n, .int .i64 k] w fun e w' => e = .returned (.bool true) ∧ Below w.heap.size w w' := by
  go_enter Try.func6, Try.ntmps6
  go_wp2_with (first | (go_at_call 12; refine (pop_nil _).mono ?_; rintro e w' ⟨rfl, rfl⟩) | (go_at_call 28; refine (top_nil _).mono ?_; rintro e w' ⟨rfl, rfl⟩) | (go_at_call 24; refine (key_nil _ _).mono ?_; rintro e w' ⟨rfl, rfl⟩) | (go_at_call 9; refine (push_nil _ _ _).mono ?_; rintro e w' ⟨rfl, rfl⟩) | (go_at_call 19; refine (lower_nil _ _ _).mono ?_; rintro e w' ⟨rfl, rfl⟩) | (go_at_call 10; refine (drop_nil _ _).mono ?_; rintro e w' ⟨rfl, rfl⟩) | (go_at_call 11; refine (len_nil _).mono ?_; rintro e w' ⟨rfl, rfl⟩) | (go_at_call 13; refine (nodes_nil _).mono ?_; rintro e w' ⟨rfl, rfl⟩))
  refine (New_any w).mono ?_
  rintro e w1 ⟨rfl, hB, hb⟩
  obtain ⟨v, hv⟩ : ∃ v, v = Value.slice none 0 0 := ⟨_, rfl⟩
  have hg : ∀ g, v.ownBlock = some g → w.heap.size ≤ g := by rw [hv]; intro g h; cases h
  rw [← hv] at hB
  obtain ⟨H, hH⟩ : ∃ H, H = w.heap.size := ⟨_, rfl⟩
  rw [← hH] at hB ⊢
  have hH' : w.heap.size ≤ H := by omega
  clear hv hH
  go_wp2_with fail
  refine (awake_true _).mono ?_
  rintro e w2 ⟨rfl, hb2⟩
  have hB2 := hB.below hb2
  have hb3 : Below w.heap.size w w2 := hb.trans (hb2.mono hb.size)
  clear hb hb2 hB
  go_wp2_with fail
  refine (Push_new H v [] 4 _ k _ rfl hB2 (by omega) (by simp)).mono ?_
  rintro e w3 ⟨rfl, hS⟩
  obtain ⟨v3, hB3, hb4, hg3⟩ := hS.below hb3 hH' hg
  have e3 : ins (k, 4) [] = [(k, 4)] := rfl
  rw [e3] at hB3
  clear hS hB2 hb3 hg e3
  go_wp2_with fail
  refine (Nodes_any H v3 _ _ hB3).mono ?_
  rintro e w4 ⟨out, rfl, ho, hb5⟩
  obtain ⟨g, cap, rfl⟩ := own_form (by simp) ho
  have hB4 := hB3.below hb5
  have hlt := ho.lt g rfl
  have hgw : w.heap.size ≤ g := by have := hb4.size; omega
  have c0 := ho.cellAt 0 (by simp)
  have f0 := ho.frozenAt 0
  have hne : H ≠ g := by have := hB3.lt; omega
  have hb6 := hb4.trans (hb5.mono hb4.size)
  have hB5 : HB (w4.setCell ⟨g, 0, none⟩ (.int .i64 9)) H v3 [(k, 4)] := hB4.keep ((Keep.refl (fun x => x = g) w4).setCell ⟨g, 0, none⟩ _ (.inl rfl)) hne (fun G hG e => by have := hB3.own_lt G hG; omega)
  have hb7 : Below w.heap.size w (w4.setCell ⟨g, 0, none⟩ (.int .i64 9)) := hb6.setCell hgw _
  simp only [List.map_cons, List.map_nil, natL, ints, List.getElem?_cons_zero] at c0
  clear ho hB3 hb4 hb5 hB4 hb6
  go_wp2_with fail
  refine (Nodes_any H v3 _ _ hB5).mono ?_
  rintro e w5 ⟨out2, rfl, ho2, hb8⟩
  obtain ⟨g2, cap2, rfl⟩ := own_form (by simp) ho2
  have c2 := ho2.cellAt 0 (by simp)
  simp only [List.map_cons, List.map_nil, natL, ints, List.getElem?_cons_zero] at c2
  have hb9 := hb7.trans (hb8.mono hb7.size)
  clear ho2 hb7 hb8 hB5
  go_wp2
  go_ret
  exact ⟨rfl, hb9⟩
end Go.Proofs.Ytpapknmkiampgaa
