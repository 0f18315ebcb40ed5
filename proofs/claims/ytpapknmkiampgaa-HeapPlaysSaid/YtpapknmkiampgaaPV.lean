/- The law HeapPlays: of keys and first nodes. -/
import Derived.Test.YtpapknmkiampgaaPX
namespace Go.Proofs.Ytpapknmkiampgaa
open Go.RowKit

theorem PS.smG {w wr : World} {H : Nat} {v : Value} {G : Nat} {u r : Value} {Lh Lg Lr : List En} {Xs : List Nat} (h : PS w wr H v G u r Lh Lg Lr Xs) : ∀ a ∈ Lg, S.sm a.1 := by
  obtain ⟨s, h1, h2⟩ := h.ig
  intro a ha
  exact (h1.node a (h2.perm.mem_iff.2 ha)).2
theorem key_sm {L : List En} {n x c : Int} (h : ∀ a ∈ L, S.sm a.1) (e : keyR L n = (x, c)) (hc : c = 0) : S.sm x := by
  unfold keyR at e
  split at e
  · injection e with e1 e2; omega
  · split at e
    · injection e with e1 e2; omega
    · rename_i a hf
      injection e with e1 e2
      rw [← e1]
      exact h a (List.mem_of_find?_eq_some hf)
theorem top_sm {L : List En} {n x c : Int} (h : ∀ a ∈ L, S.sm a.1) (e : topE L = (n, x, c)) (hc : c = 0) : S.sm x := by
  cases L with
  | nil => simp [topE] at e; omega
  | cons a L => simp [topE] at e; rw [← e.2.1]; exact h a (List.mem_cons_self ..)
theorem drop_head {w : World} {H : Nat} {v : Value} {a : En} {L : List En} (h : HB w H v (a :: L)) : dropL (a :: L) a.2 = L := by
  have hn : ¬ ((a.2 : Int) < 0 ∨ 127 < (a.2 : Int)) := by
    have := h.node a (List.mem_cons_self ..)
    omega
  have hf := find_some (L := a :: L) (n := a.2) (a := a) (List.mem_cons_self ..) rfl fun b hb eb => h.inj hb (List.mem_cons_self ..) eb
  have e1 : dropE (a :: L) a.2 = 0 := by unfold dropE; rw [if_neg hn, hf]
  unfold dropL
  rw [e1, if_pos rfl, List.filter_cons_of_neg (by simp)]
  refine List.filter_eq_self.2 fun b hb => ?_
  have hne : b.2 ≠ (a.2 : Int).toNat := by
    intro e
    have e2 : b = a := h.inj (List.mem_cons_of_mem _ hb) (List.mem_cons_self ..) (by omega)
    have hs := h.srt
    unfold Srt at hs
    have := List.rel_of_pairwise_cons hs hb
    rw [e2, be_irrefl] at this
    cases this
  simpa using hne
theorem top_some {w : World} {H : Nat} {v : Value} {L : List En} {n x c : Int} (h : HB w H v L) (e : topE L = (n, x, c)) (hc : c = 0) : dropL L n = L.tail := by
  cases L with
  | nil => simp [topE] at e; omega
  | cons a L => simp [topE] at e; rw [← e.1]; exact drop_head h
theorem top_tail {L : List En} {n x c : Int} (e : topE L = (n, x, c)) (hc : ¬ c = 0) : L.tail = L := by
  cases L with
  | nil => rfl
  | cons a L => simp [topE] at e; omega
end Go.Proofs.Ytpapknmkiampgaa
