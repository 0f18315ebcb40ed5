/- Graphs of nodes alone: nodes in a row; the place of a new node. -/
import Derived.Test.YtcgjkllgfdgmeaaA
namespace Go.Proofs.Ytcgjkllgfdgmeaa
open Go.RowKit

/-- A node at nought. -/
def nd (n : Nat) : List Value := [.int .i64 n, .bool false, .complex .f64 0 0]
theorem nd_at (os : List Nat) : ∀ (i : Nat) (hi : i < os.length) (j : Nat), j < 3 → (os.flatMap nd)[i * 3 + j]? = (nd os[i])[j]? := by
  induction os with
  | nil => intro i hi; simp at hi
  | cons o os ih =>
    intro i hi j hj
    rw [List.flatMap_cons]
    cases i with
    | zero =>
      rw [List.getElem?_append_left (by simp [nd]; omega)]
      simp
    | succ i =>
      rw [List.getElem?_append_right (by simp [nd]; omega)]
      have := ih i (by simpa using hi) j hj
      simp only [List.getElem_cons_succ]
      rw [← this]
      congr 1
      simp [nd]
      omega
theorem nd_len (os : List Nat) : (os.flatMap nd).length = os.length * 3 := by
  induction os with
  | nil => rfl
  | cons o os ih => rw [List.flatMap_cons, List.length_append, ih]; simp [nd]; omega
theorem store_c (w : World) (a : Addr) : (store a (.complex .f64 0 0)).run Try.prog w = stored Try.prog w a (.complex .f64 0 0) .plain := run_store Try.prog w a _ _ rfl
/-- v reads as the nodes ids. -/
def NS (w : World) (v : Value) (ids : List Nat) : Prop := SlR w 3 v ids.length (ids.flatMap nd)
theorem NS.below {w w' : World} {v : Value} {ids : List Nat} (h : NS w v ids) (b : Below w.heap.size w w') : NS w' v ids := SlR.below h b
theorem NS.at_ {w : World} {a : Option Addr} {n cap : Nat} {os : List Nat} (h : NS w (.slice a n cap) os) (i : Nat) (hi : i < os.length) :
    ∃ b off, a = some ⟨b, off, none⟩ ∧ w.cell? ⟨b, off + i * 3, none⟩ = some (.int .i64 (os[i] : Nat)) ∧ w.cell? ⟨b, off + i * 3 + 1, none⟩ = some (.bool false) ∧ w.cell? ⟨b, off + i * 3 + 2, none⟩ = some (.complex .f64 0 0) := by
  obtain ⟨_, _, a', cap', he, _, hc⟩ := h
  injection he with e1 e2 e3
  subst e1
  rcases hc with hc | ⟨b, off, rfl, hc⟩
  · have := nd_at os i hi 0 (by omega)
    rw [hc] at this
    simp [nd] at this
  · have q : ∀ j, j < 3 → w.cell? ⟨b, off + i * 3 + j, none⟩ = (nd os[i])[j]? := by
      intro j hj
      have h1 := nd_at os i hi j hj
      obtain ⟨x, hx⟩ : ∃ x, (nd os[i])[j]? = some x := ⟨(nd os[i])[j]'(by simp [nd]; omega), List.getElem?_eq_getElem _⟩
      rw [hx] at h1 ⊢
      have := hc _ _ h1
      rwa [← Nat.add_assoc] at this
    exact ⟨b, off, rfl, q 0 (by omega), q 1 (by omega), q 2 (by omega)⟩
theorem NS.len {w : World} {a : Option Addr} {n cap : Nat} {os : List Nat} (h : NS w (.slice a n cap) os) : n = os.length := by
  obtain ⟨_, _, a', cap', he, _, hc⟩ := h
  injection he with e1 e2 e3
theorem NS.form {w : World} {v : Value} {os : List Nat} (h : NS w v os) : ∃ a cap, v = .slice a os.length cap ∧ os.length ≤ 9223372036854775807 ∧ NS w (.slice a os.length cap) os := SlR.form h
theorem NS.nil (w : World) : NS w (.slice none 0 0) [] := SlR.nil w 3
def kO : Value → Int
  | .int _ n => n
  | _ => 0
theorem compareNode_any (n : Nat) (b : Bool) (c : Value) (t : Int) (w : World) (hc : c = .complex .f64 0 0) : Calls Try.prog 40 #[.agg #[.int .i64 n, .bool b, c], .int .i64 t] w fun e w' => e = .returned (.int .i64 (cmpI n t)) ∧ Below w.heap.size w w' := by
  subst hc
  go_enter Try.func40, Try.ntmps40
  go_wp2_with (go_at_call 36; refine (Compare_any _ _ _).mono ?_; rintro e w' ⟨rfl, rfl⟩)
  go_ret
  exact ⟨rfl, (Below.refl _ w).alloc (Nat.le_refl _) _⟩
set_option maxHeartbeats 2000000 in
theorem search_any (v : Value) (ids : List Nat) (t : Nat) (w : World) (h : NS w v ids) (hl : ids.length ≤ 128) (ht : ∀ x ∈ ids, x < t) :
    Calls Try.prog 39 #[v, .int .i64 t, .func (.func 40) #[] #[]] w fun e w' => e = .returned (.tuple #[.int .i64 ids.length, .bool false]) ∧ Below w.heap.size w w' := by
  obtain ⟨a, cap, rfl, hm, hc⟩ := h.form
  go_enter Try.func39, Try.ntmps39
  go_wp2_with fail
  go_loopw [9, 10] (fun x y wr => ∃ i : Nat, x = .int .i64 i ∧ y = .int .i64 ids.length ∧ i ≤ ids.length ∧ Below w.heap.size w wr) (fun x _ _ => ids.length - (kO x).toNat)
  case atStart => exact ⟨0, rfl, rfl, Nat.zero_le _, Below.refl _ _⟩
  case round =>
    obtain ⟨i, rfl, rfl, hi, hb⟩ := hrel
    by_cases hlt : i < ids.length
    · have hh : (i + ids.length) / 2 < ids.length := by omega
      obtain ⟨b, off, rfl, q0, q1, q2⟩ := (hc.below hb).at_ ((i + ids.length) / 2) hh
      have ht' := ht ids[(i + ids.length) / 2] (List.getElem_mem hh)
      generalize ids[(i + ids.length) / 2] = n at q0 ht'
      have hcm : cmpI n t = -1 := by unfold cmpI; rw [if_pos (by omega)]
      go_wp2_with fail
      refine (compareNode_any n _ _ t _ rfl).mono ?_
      rintro e w2 ⟨rfl, hb2⟩
      rw [hcm]
      go_wp2_with fail
      go_roundw
      case rel => exact ⟨(i + ids.length) / 2 + 1, by go_num, rfl, by omega, hb.trans (hb2.mono hb.size)⟩
      case measure => simp [kO]; omega
    · have e : i = ids.length := by omega
      subst e
      go_wp2_with fail
      go_ret2
      exact ⟨rfl, hb⟩
/-- A graph's value. -/
def gv (v : Value) : Value := .agg #[v, .slice none 0 0, .slice none 0 0]
set_option maxHeartbeats 2000000 in
theorem nodeAt_any (v : Value) (ids : List Nat) (t : Nat) (w : World) (h : NS w v ids) (hl : ids.length ≤ 128) (ht : ∀ x ∈ ids, x < t) :
    Calls Try.prog 23 #[.agg #[v, .slice none 0 0, .slice none 0 0], .int .i64 t] w fun e w' => e = .returned (.tuple #[.int .i64 ids.length, .bool false]) ∧ Below w.heap.size w w' := by
  obtain ⟨a, cap, rfl, hm, hc⟩ := h.form
  have hA := fun o => (Below.refl _ w).alloc (Nat.le_refl _) o
  go_enter Try.func23, Try.ntmps23
  go_wp2_with (go_at_call 39; refine (search_any _ ids t _ (hc.below (hA _)) hl ht).mono ?_; rintro e w2 ⟨rfl, hb2⟩)
  go_ret2
  exact ⟨rfl, (hA _).trans (hb2.mono (hA _).size)⟩
end Go.Proofs.Ytcgjkllgfdgmeaa
