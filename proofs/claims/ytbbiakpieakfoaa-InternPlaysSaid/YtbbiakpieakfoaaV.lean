/- Scripts, and the state at their start. -/
import Derived.Test.YtbbiakpieakfoaaK
import Derived.BigQuiet
namespace Go.Proofs.Ytbbiakpieakfoaa
open Go.RowKit

/-- A step of a script. -/
structure OpD where
  kind : Int
  on : Int
  s : Bt
  a : Int
  b : Int
def oc (o : OpD) : List Value := [.int .i64 o.kind, .int .i64 o.on, .int .u64 (u o.s.1), .int .u64 (u o.s.2), .int .i64 o.a, .int .i64 o.b]
theorem oc_at (os : List OpD) : ∀ (i : Nat) (hi : i < os.length) (j : Nat), j < 6 → (os.flatMap oc)[i * 6 + j]? = (oc os[i])[j]? := by
  induction os with
  | nil => intro i hi; simp at hi
  | cons o os ih =>
    intro i hi j hj
    rw [List.flatMap_cons]
    cases i with
    | zero =>
      rw [List.getElem?_append_left (by simp [oc]; omega)]
      simp
    | succ i =>
      rw [List.getElem?_append_right (by simp [oc]; omega)]
      have := ih i (by simpa using hi) j hj
      simp only [List.getElem_cons_succ]
      rw [← this]
      congr 1
      simp [oc]
      omega

/-- The box of a step. -/
structure OpB (w : World) (B : Nat) (o : OpD) : Prop where
  c0 : w.cell? ⟨B, 0, none⟩ = some (.int .i64 o.kind)
  c1 : w.cell? ⟨B, 1, none⟩ = some (.int .i64 o.on)
  c2 : w.cell? ⟨B, 2, none⟩ = some (.int .u64 (u o.s.1))
  c3 : w.cell? ⟨B, 3, none⟩ = some (.int .u64 (u o.s.2))
  c4 : w.cell? ⟨B, 4, none⟩ = some (.int .i64 o.a)
  c5 : w.cell? ⟨B, 5, none⟩ = some (.int .i64 o.b)
theorem OpB.keep {w w' : World} {B : Nat} {o : OpD} {S : Nat → Prop} (h : OpB w B o) (k : Keep S w w') (hS : ¬ S B) : OpB w' B o :=
  ⟨k.cell h.c0 hS, k.cell h.c1 hS, k.cell h.c2 hS, k.cell h.c3 hS, k.cell h.c4 hS, k.cell h.c5 hS⟩
theorem OpB.below {w w' : World} {B : Nat} {o : OpD} (h : OpB w B o) (hb : Below w.heap.size w w') : OpB w' B o := h.keep (Keep.of_below (S := fun _ => False) hb) (by simp)

theorem op_at {w : World} {a : Option Addr} {n cap : Nat} {os : List OpD} (h : SlR w 6 (.slice a n cap) n (os.flatMap oc)) (i : Nat) (hi : i < os.length) :
    ∃ b off, a = some ⟨b, off, none⟩ ∧ ∀ j, j < 6 → w.cell? ⟨b, off + i * 6 + j, none⟩ = (oc os[i])[j]? := by
  obtain ⟨_, _, a', cap', he, _, hc⟩ := h
  injection he with e1 e2 e3
  subst e1
  rcases hc with hc | ⟨b, off, rfl, hc⟩
  · have := oc_at os i hi 0 (by omega)
    rw [hc] at this
    simp [oc] at this
  · refine ⟨b, off, rfl, fun j hj => ?_⟩
    have h1 := oc_at os i hi j hj
    obtain ⟨x, hx⟩ : ∃ x, (oc os[i])[j]? = some x := ⟨(oc os[i])[j]'(by simp [oc]; omega), List.getElem?_eq_getElem _⟩
    rw [hx] at h1 ⊢
    have := hc _ _ h1
    rwa [← Nat.add_assoc] at this

def two {A : Type} (x y : A) : Nat → A := fun j => if j = 0 then x else y
theorem two0 {A : Type} (x y : A) : two x y 0 = x := rfl
theorem two1 {A : Type} (x y : A) : two x y 1 = y := rfl
theorem lt2 {k : Nat} (h : k < 2) : k = 0 ∨ k = 1 := by omega

theorem arr2 (w : World) (x y : Value) (t : TypeId) : (∀ k, k < 2 → (w.alloc (.cells #[x, y] t)).cell? ⟨w.heap.size, k, none⟩ = some (two x y k)) ∧ (∀ k, k < 2 → (w.alloc (.cells #[x, y] t)).frozen? ⟨w.heap.size, k, none⟩ = false) := by
  have h := heap_alloc_new w (.cells #[x, y] t)
  constructor
  · intro k hk
    rcases lt2 hk with rfl | rfl
    · simp only [World.cell?, h]; rfl
    · simp only [World.cell?, h]; rfl
  · intro k hk
    rcases lt2 hk with rfl | rfl
    · simp only [World.frozen?, h]; rfl
    · simp only [World.frozen?, h]; rfl

set_option maxHeartbeats 4000000 in
theorem St.new {w w1 w2 w3 w4 w5 : World} {T0 M0 g0 T1 M1 g1 G0 G1 : Nat} {v0 v1 : Value} (hb1 : Below w.heap.size w w1)
    (hb2 : Below w1.heap.size w1 w2) (ht0 : Tab w2 T0 M0 g0 [(0, 0)]) (lT0 : w1.heap.size ≤ T0) (lM0 : w1.heap.size ≤ M0) (lg0 : w1.heap.size ≤ g0)
    (hb3 : Below w2.heap.size w2 w3) (ht1 : Tab w3 T1 M1 g1 [(0, 0)]) (lT1 : w2.heap.size ≤ T1) (lM1 : w2.heap.size ≤ M1) (lg1 : w2.heap.size ≤ g1)
    (hb4 : Below (w3.alloc (.cells #[.pointer (some ⟨T0, 0, none⟩), .pointer (some ⟨T1, 0, none⟩)] 38)).heap.size (w3.alloc (.cells #[.pointer (some ⟨T0, 0, none⟩), .pointer (some ⟨T1, 0, none⟩)] 38)) w4)
    (hr0 : RefT w4 v0 [(0, 0)] G0) (lG0 : (w3.alloc (.cells #[.pointer (some ⟨T0, 0, none⟩), .pointer (some ⟨T1, 0, none⟩)] 38)).heap.size ≤ G0)
    (hb5 : Below w4.heap.size w4 w5) (hr1 : RefT w5 v1 [(0, 0)] G1) (lG1 : w4.heap.size ≤ G1) :
    St w (w5.alloc (.cells #[v0, v1] 43)) w3.heap.size w5.heap.size (two T0 T1) (two M0 M1) (two g0 g1) (two G0 G1) (fun _ => [(0, 0)]) (fun _ => [(0, 0)]) (two v0 v1) := by
  have z1 := hb1.size
  have z2 := hb2.size
  have z3 := hb3.size
  have z4 := hb4.size
  have z5 := hb5.size
  rw [World.size_alloc] at z4 lG0
  have b6 : Below w5.heap.size w5 (w5.alloc (.cells #[v0, v1] 43)) := (Below.refl _ _).alloc (Nat.le_refl _) _
  have b3a : Below w3.heap.size w3 (w3.alloc (.cells #[.pointer (some ⟨T0, 0, none⟩), .pointer (some ⟨T1, 0, none⟩)] 38)) := (Below.refl _ _).alloc (Nat.le_refl _) _
  have l0 := ht0.lt
  have l1 := ht1.lt
  have r0 := hr0.lt
  have r1 := hr1.lt
  have A3 := arr2 w3 (.pointer (some ⟨T0, 0, none⟩)) (.pointer (some ⟨T1, 0, none⟩)) 38
  have A4 := arr2 w5 v0 v1 43
  have k4 := Keep.of_below (S := fun _ => False) hb4
  have k5 := Keep.of_below (S := fun _ => False) hb5
  have k6 := Keep.of_below (S := fun _ => False) b6
  have B5 : Below w.heap.size w w5 := hb1.trans ((hb2.mono z1).trans ((hb3.mono (by omega)).trans ((b3a.mono (by omega)).trans ((hb4.mono (by simp; omega)).trans (hb5.mono (by omega))))))
  refine {
    b := B5.trans (b6.mono B5.size)
    c3 := fun k hk => by
      have e : two (Value.pointer (some ⟨T0, 0, none⟩)) (Value.pointer (some ⟨T1, 0, none⟩)) k = .pointer (some ⟨two T0 T1 k, 0, none⟩) := by
        rcases lt2 hk with rfl | rfl <;> rfl
      have := A3.1 k hk
      rw [e] at this
      exact k6.cell (k5.cell (k4.cell this (by simp)) (by simp)) (by simp)
    f3 := fun k hk => by
      have hc := A3.1 k hk
      have h4 := k4.unfrozen (World.block_lt_of_cell? _ _ hc) (A3.2 k hk) (by simp)
      have hc4 := k4.cell hc (by simp)
      have h5 := k5.unfrozen (World.block_lt_of_cell? _ _ hc4) h4 (by simp)
      exact k6.unfrozen (World.block_lt_of_cell? _ _ (k5.cell hc4 (by simp))) h5 (by simp)
    c4 := A4.1
    f4 := A4.2
    tab := fun k hk => by
      rcases lt2 hk with rfl | rfl
      · exact ((((ht0.below hb3).below b3a).below hb4).below hb5).below b6
      · exact (((ht1.below b3a).below hb4).below hb5).below b6
    ref := fun k hk => by
      rcases lt2 hk with rfl | rfl
      · exact (hr0.below hb5).below b6
      · exact hr1.below b6
    len := fun k hk => by simp
    lenR := fun k hk => by simp
    low := ⟨by omega, by omega, by omega, by simp; omega, by simp⟩
    lowT := fun k hk => by rcases lt2 hk with rfl | rfl <;> simp only [two0, two1] <;> omega
    ap3 := fun k hk => by rcases lt2 hk with rfl | rfl <;> simp only [two0, two1] <;> omega
    ap4 := fun k hk => by rcases lt2 hk with rfl | rfl <;> simp only [two0, two1] <;> omega
    apG := fun j k hj hk => by rcases lt2 hj with rfl | rfl <;> rcases lt2 hk with rfl | rfl <;> simp only [two0, two1] <;> omega
    apT := fun j k hj hk hjk => by rcases lt2 hj with rfl | rfl <;> rcases lt2 hk with rfl | rfl <;> simp only [two0, two1] <;> omega }

end Go.Proofs.Ytbbiakpieakfoaa
