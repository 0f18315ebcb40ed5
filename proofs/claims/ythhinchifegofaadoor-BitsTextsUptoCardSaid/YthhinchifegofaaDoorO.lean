/- Drawn regions, walked once for each order that may come up. No program stands in it. -/
import Derived.OrdersIn
import Derived.TacticsIn
import Derived.RowKit
namespace Go.Proofs.YthhinchifegofaaDoor
open Go.RowKit

/-- The orders in which a region's operations may come up. -/
def ords (md : Region.Mode) (ops : Array Oper) : Nat → Array Bool → List (List Nat)
  | 0, _ => [[]]
  | fuel + 1, listed => match Region.ready md ops listed with
    | [] => [[]]
    | i :: r => (i :: r).flatMap fun i => (ords md ops fuel (listed.setIfInBounds i true)).map (i :: ·)
theorem ords_go (md : Region.Mode) (ops : Array Oper) : ∀ (fuel t : Nat) (listed : Array Bool), Region.linearise.go md ops fuel t listed [] ∈ ords md ops fuel listed
  | 0, t, listed => by simp [Region.linearise.go, ords]
  | fuel + 1, t, listed => by
    simp only [Region.linearise.go]
    change (match (Region.ready md ops listed)[t % (Region.ready md ops listed).length]? with
      | some i => Region.linearise.go md ops fuel (t / (Region.ready md ops listed).length) (listed.setIfInBounds i true) [i]
      | none => [].reverse) ∈ _
    cases hr : Region.ready md ops listed with
    | nil => simp [ords, hr]
    | cons x xs =>
      have hlt : t % (x :: xs).length < (x :: xs).length := Nat.mod_lt _ (by simp)
      rw [List.getElem?_eq_getElem hlt]
      simp only []
      rw [linearise_go_acc, List.reverse_singleton, List.singleton_append]
      simp only [ords, hr]
      exact List.mem_flatMap.2 ⟨_, List.getElem_mem hlt, List.mem_map.2 ⟨_, ords_go md ops fuel _ _, rfl⟩⟩
/-- The operation at a place. -/
def nthO : List Oper → Nat → Oper
  | o :: _, 0 => o
  | _ :: l, k + 1 => nthO l k
  | [], _ => default
theorem nthO_zero (o : Oper) (l : List Oper) : nthO (o :: l) 0 = o := rfl
theorem nthO_succ (o : Oper) (l : List Oper) (k : Nat) : nthO (o :: l) (k + 1) = nthO l k := rfl
/-- The operations in an order. -/
def pickO (l : List Oper) : List Nat → List Oper
  | [] => []
  | i :: is => nthO l i :: pickO l is
theorem pickO_nil (l : List Oper) : pickO l [] = [] := rfl
theorem pickO_cons (l : List Oper) (i : Nat) (is : List Nat) : pickO l (i :: is) = nthO l i :: pickO l is := rfl
theorem nthO_some : ∀ (l : List Oper) (i : Nat), i < l.length → l[i]? = some (nthO l i)
  | [], i, h => absurd h (by simp)
  | o :: l, 0, _ => rfl
  | o :: l, i + 1, h => by simpa [nthO] using nthO_some l i (by simpa using h)
theorem pickO_eq (l : List Oper) : ∀ (is : List Nat), (∀ i ∈ is, i < l.length) → is.filterMap (l.toArray[·]?) = pickO l is
  | [], _ => rfl
  | i :: is, h => by
    rw [List.filterMap_cons, List.getElem?_toArray, nthO_some l i (h i List.mem_cons_self), pickO_eq l is fun j hj => h j (List.mem_cons_of_mem _ hj)]
    rfl
theorem opsIn_list {F : Fence} {n : Nat} {P : Program} {ops : Array Oper} {Q : Exit → Act → World → Prop} : ∀ (is : List Nat), wpOpsIn F n P ops Q is = wpListIn F n P ops Q (is.filterMap (ops[·]?))
  | [] => by funext a w; simp [wpOpsIn, wpListIn]
  | i :: is => by
    have ih := opsIn_list (F := F) (n := n) (P := P) (ops := ops) (Q := Q) is
    funext a w
    cases h : ops[i]? with
    | none => simp [wpOpsIn, h, ih]
    | some o => simp [wpOpsIn, wpListIn, h, ih]
theorem regionIn_ords {F : Fence} {n : Nat} {P : Program} {id : Nat} {Q : Exit → Act → World → Prop} {a : Act} {w : World} {l : List Oper} {L : List (List Nat)} (hm : P.follows .mixedOrders = true)
    (hL : ords .any l.toArray l.length (Array.replicate l.length false) = L) (hb : (L.all fun o => o.all fun i => decide (i < l.length)) = true)
    (h : ∀ o ∈ L, wpListIn F n P l.toArray Q (pickO l o) a w.drew) : (Code.region id l.toArray true).wpIn F n P Q a w :=
  wpIn_region_draw fun t => by
    simp only [Region.schedule, hm, Bool.true_or, if_true]
    rw [opsIn_list]
    have hm2 : Region.linearise.go .any l.toArray l.toArray.size t (Array.replicate l.toArray.size false) [] ∈ L := by
      rw [← hL]
      exact ords_go _ _ _ _ _
    have hlt : ∀ i ∈ Region.linearise.go .any l.toArray l.toArray.size t (Array.replicate l.toArray.size false) [], i < l.length := fun i hi => by
      have := List.all_eq_true.1 (List.all_eq_true.1 hb _ hm2) i hi
      exact of_decide_eq_true this
    have h2 := h _ hm2
    rw [← pickO_eq l _ hlt] at h2
    exact h2
theorem ops_list {P : Program} {ops : Array Oper} {Q : Exit → Act → World → Prop} : ∀ (is : List Nat), wpOps P ops Q is = wpList P ops Q (is.filterMap (ops[·]?))
  | [] => by funext a w; simp [wpOps, wpList]
  | i :: is => by
    have ih := ops_list (P := P) (ops := ops) (Q := Q) is
    funext a w
    cases h : ops[i]? with
    | none => simp [wpOps, h, ih]
    | some o => simp [wpOps, wpList, h, ih]
theorem region_ords {P : Program} {id : Nat} {Q : Exit → Act → World → Prop} {a : Act} {w : World} {l : List Oper} {L : List (List Nat)} (hm : P.follows .mixedOrders = true)
    (hL : ords .any l.toArray l.length (Array.replicate l.length false) = L) (hb : (L.all fun o => o.all fun i => decide (i < l.length)) = true)
    (h : ∀ o ∈ L, wpList P l.toArray Q (pickO l o) a w.drew) : (Code.region id l.toArray true).wp P Q a w :=
  wp_region_draw fun t => by
    simp only [Region.schedule, hm, Bool.true_or, if_true]
    rw [ops_list]
    have hm2 : Region.linearise.go .any l.toArray l.toArray.size t (Array.replicate l.toArray.size false) [] ∈ L := by
      rw [← hL]
      exact ords_go _ _ _ _ _
    have hlt : ∀ i ∈ Region.linearise.go .any l.toArray l.toArray.size t (Array.replicate l.toArray.size false) [], i < l.length := fun i hi => by
      have := List.all_eq_true.1 (List.all_eq_true.1 hb _ hm2) i hi
      exact of_decide_eq_true this
    have h2 := h _ hm2
    rw [← pickO_eq l _ hlt] at h2
    exact h2
end Go.Proofs.YthhinchifegofaaDoor
