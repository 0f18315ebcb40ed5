/- Drawn regions whose head only reads and whose tail stands in one order. No program stands in it. -/
import Derived.Test.YtbbiakpieakfoaaQ
import Derived.StillTail
import Derived.BigQuiet
namespace Go.Proofs.Ytbbiakpieakfoaa
open Go.RowKit

theorem still_of_quiet {P : Program} {ops : Array Oper} {w : World} {K : Act → Prop} : ∀ (l : List Oper) (a : Act), wpQuiet P ops (fun w' => w' = w) K l a → wpStill P ops w K l a
  | [], _, h => h
  | o :: l, a, h => by
    unfold wpQuiet at h
    unfold wpStill
    split
    · rename_i hw
      rw [if_pos hw] at h
      obtain ⟨v, h1, h2⟩ := h
      have h3 := h1 w rfl
      have h4 := still_of_quiet l _ h2
      unfold Oper.quietAt at h3
      unfold Oper.still
      generalize (execOp a.eval o).run P w = r at h3 ⊢
      cases r with
      | ok n w' =>
        cases n with
        | value u =>
          obtain ⟨e1, e2⟩ := h3
          subst e2
          exact ⟨e1, h4⟩
        | skip =>
          obtain ⟨e1, e2⟩ := h3
          subst e2
          exact ⟨e1, h4⟩
        | enter f args =>
          obtain ⟨e1, e2⟩ := h3
          exact ⟨e1, v, e2, h4⟩
        | _ => exact h3.elim
      | _ => exact h3.elim
    · rename_i hw
      rw [if_neg hw] at h
      exact still_of_quiet l _ h

theorem region_tail {P : Program} {id : Nat} {Q : Exit → Act → World → Prop} {a : Act} {w : World} {l : List Oper} (n : Nat) (hm : P.follows .mixedOrders = true) (hB : Region.lexTailB .any l.toArray n = true)
    (h : wpQuiet P l.toArray (fun w' => w' = w.drew) (fun a' => wpList P l.toArray Q (l.drop n) a' w.drew) (l.take n) a) : (Code.region id l.toArray true).wp P Q a w :=
  wp_region_still_tail n hm hB (still_of_quiet _ _ h)
end Go.Proofs.Ytbbiakpieakfoaa
