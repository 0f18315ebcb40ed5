/- The law BitsEach: its return over the marks. -/
import Derived.Test.YthhinchifegofaaDoorX4
namespace Go.Proofs.YthhinchifegofaaDoor
open Go.RowKit

theorem MarksOk.put {S D : Nat} {wr : World} (o : Obj) : ∀ {ds : List Deferred}, MarksOk S ds wr → (∀ d ∈ ds, d ≠ { target := .collected D, args := #[] }) → MarksOk S ds (wr.putObj D o)
  | [], _, _ => trivial
  | d :: ds, ⟨⟨D', h1, h2, h3, h4⟩, h⟩, hn => by
    refine ⟨⟨D', h1, h2, ?_, h4⟩, h.put o fun d' hd' => hn d' (List.mem_cons_of_mem _ hd')⟩
    have hne : D' ≠ D := fun e => hn d List.mem_cons_self (by rw [h1, e])
    rw [World.putObj_heap_other hne]
    exact h3
theorem leave_marks (tmps : Array Value) (S : Nat) (w : World) (h4 : tmps.getD 4 undef = .pointer (some ⟨S + 1 + 1, 0, none⟩)) : ∀ (ds : List Deferred) (wr : World), MarksOk S ds wr → wr.cell? ⟨S + 1 + 1, 0, none⟩ = some (.bool true) → Below S w wr →
    LeavesInM Fence.wide 5 Tryd.prog Tryd.f3 tmps (fun e w' => e = .returned (.bool true) ∧ Below S w w') ds .returning wr
  | [], wr, _, hc, hb => by
    refine ⟨_, ?_, rfl, hb⟩
    have h4' : tmps[4]?.getD undef = .pointer (some ⟨S + 1 + 1, 0, none⟩) := by simpa using h4
    simp [results, Tryd.f3, h4', hc, go_sem]
  | d :: ds, wr, ⟨⟨D, h1, h2, h3, hd⟩, h⟩, hc, hb => by
    subst h1
    refine ⟨by simp, .inl ⟨_, _, rfl, run_takeDeferred h3, ?_⟩⟩
    exact leave_marks tmps S w h4 ds _ (h.put _ hd) (cell_kept hc (grownBy_putObj' wr D _) (fun r e => by cases e; exact ⟨_, h3, rfl⟩)) (hb.trans ((Below.refl S wr).grown (grownBy_putObj' wr D _) (by have := (Array.getElem?_eq_some_iff.1 h3).1; omega) (fun k e => by cases e; exact h2)))
theorem MarksOk.set {S : Nat} {wr : World} {p : Addr} {u : Value} (v : Value) (hp : wr.cell? p = some u) : ∀ {ds : List Deferred}, MarksOk S ds wr → MarksOk S ds (wr.setCell p v)
  | [], _ => trivial
  | d :: ds, ⟨⟨D, h1, h2, h3, h4⟩, h⟩ => by
    refine ⟨⟨D, h1, h2, ?_, h4⟩, h.set v hp⟩
    have hne : D ≠ p.block := by
      intro e
      subst e
      simp [World.cell?, h3] at hp
    rw [Below.heap_setCell _ _ _ _ hne]
    exact h3
end Go.Proofs.YthhinchifegofaaDoor
