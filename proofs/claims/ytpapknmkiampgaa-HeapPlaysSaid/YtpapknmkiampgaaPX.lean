/- The law HeapPlays: a script's steps. -/
import Derived.Test.YtpapknmkiampgaaPS
import Derived.Deep.DeepCutAuto
import Derived.Test.YtpapknmkiampgaaQ
import Derived.BigQuiet
namespace Go.Proofs.Ytpapknmkiampgaa
open Go.RowKit

structure OpD where
  kind : Int
  n : Int
  k : Int
def oc (o : OpD) : List Value := [.int .i64 o.kind, .int .i64 o.n, .int .i64 o.k]
theorem oc_at (os : List OpD) : ∀ (i : Nat) (hi : i < os.length) (j : Nat), j < 3 → (os.flatMap oc)[i * 3 + j]? = (oc os[i])[j]? := by
  induction os with
  | nil => intro i hi; simp at hi
  | cons o os ih =>
    intro i hi j hj
    rw [List.flatMap_cons]
    cases i with
    | zero =>
      rw [List.getElem?_append_left (by simp [oc]; omega)]
      simp
    | succ i =>
      rw [List.getElem?_append_right (by simp [oc]; omega)]
      have := ih i (by simpa using hi) j hj
      simp only [List.getElem_cons_succ]
      rw [← this]
      congr 1
      simp [oc]
      omega
/-- The box of a step. -/
structure OpB (w : World) (B : Nat) (o : OpD) : Prop where
  c0 : w.cell? ⟨B, 0, none⟩ = some (.int .i64 o.kind)
  c1 : w.cell? ⟨B, 1, none⟩ = some (.int .i64 o.n)
  c2 : w.cell? ⟨B, 2, none⟩ = some (.int .i64 o.k)
theorem OpB.same {w w' : World} {B : Nat} {o : OpD} {Xs : List Nat} (h : OpB w B o) (k : Same Xs w w') (hX : B ∈ Xs) : OpB w' B o := ⟨k.cell hX h.c0, k.cell hX h.c1, k.cell hX h.c2⟩
theorem OpB.new (w : World) (o : OpD) : OpB (w.alloc (.cells #[.int .i64 o.kind, .int .i64 o.n, .int .i64 o.k] 44)) w.heap.size o := by
  have h := heap_alloc_new w (.cells #[.int .i64 o.kind, .int .i64 o.n, .int .i64 o.k] 44)
  exact ⟨by simp only [World.cell?, h]; rfl, by simp only [World.cell?, h]; rfl, by simp only [World.cell?, h]; rfl⟩
theorem op_at {w : World} {a : Option Addr} {n cap : Nat} {os : List OpD} (h : SlR w 3 (.slice a n cap) n (os.flatMap oc)) (i : Nat) (hi : i < os.length) :
    ∃ b off, a = some ⟨b, off, none⟩ ∧ ∀ j, j < 3 → w.cell? ⟨b, off + i * 3 + j, none⟩ = (oc os[i])[j]? := by
  obtain ⟨_, _, a', cap', he, _, hc⟩ := h
  injection he with e1 e2 e3
  subst e1
  rcases hc with hc | ⟨b, off, rfl, hc⟩
  · have := oc_at os i hi 0 (by omega)
    rw [hc] at this
    simp [oc] at this
  · refine ⟨b, off, rfl, fun j hj => ?_⟩
    have h1 := oc_at os i hi j hj
    obtain ⟨x, hx⟩ : ∃ x, (oc os[i])[j]? = some x := ⟨(oc os[i])[j]'(by simp [oc]; omega), List.getElem?_eq_getElem _⟩
    rw [hx] at h1 ⊢
    have := hc _ _ h1
    rwa [← Nat.add_assoc] at this
/-- What lies at the loop's head. -/
def SW (w : World) (H G B5 : Nat) (L : List En) (wr : World) : Prop :=
  ∃ v u r, PS w wr H v G u r L L L [B5] ∧ wr.cell? ⟨B5, 0, none⟩ = some r ∧ wr.frozen? ⟨B5, 0, none⟩ = false
theorem SW.below_ {w : World} {H G B5 : Nat} {L : List En} {wr : World} (h : SW w H G B5 L wr) : Below w.heap.size w wr := by
  obtain ⟨_, _, _, h, _⟩ := h
  exact h.ib
def kO : Value → Int
  | .int _ n => n
  | _ => 0
end Go.Proofs.Ytpapknmkiampgaa
