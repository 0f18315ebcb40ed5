/- A map whose keys are sets (arrays of two words) and whose elements are numbers, known whole. No program stands in it. -/
import Derived.Test.YthhinchifegofaaDoorU
import Derived.ChangeKeysEq
import Derived.Maps.Own
namespace Go.Proofs.YthhinchifegofaaDoor
open Go.RowKit

section
variable {P : Program} {t e : TypeId} {i : TypeInfo}

/-- '==' of two sets. -/
theorem run_equalIn_bt (hu : P.underlying t = some (.array 2 e)) (he : P.underlying e = some (.int .u64)) (hi : P.info? e = some i) (hc : P.cellsOf e = 1) (a b : Bt) (d : Nat) (w : World) :
    (Op.equalIn (d + 2) t (bv a) (bv b)).run P w = .ok (a == b) w := by
  rw [run_equalIn_array w (d + 1) _ _ hu hi]
  have hp0 : ∀ (s : Bt) (w : World), (part e #[.int .u64 (u s.1), .int .u64 (u s.2)] 0).run P w = .ok (.int .u64 (u s.1)) w := by
    intro s w
    simp [part, run_underlying he, isAgg]
  have hp1 : ∀ (s : Bt) (w : World), (part e #[.int .u64 (u s.1), .int .u64 (u s.2)] 1).run P w = .ok (.int .u64 (u s.2)) w := by
    intro s w
    simp [part, run_underlying he, isAgg]
  have hq : ∀ (x y : UInt64) (w : World), (Op.equalIn (d + 1) e (.int .u64 (u x)) (.int .u64 (u y))).run P w = .ok (x == y) w := by
    intro x y w
    simp [Op.equalIn, run_underlying he, u_beq]
  rw [hc]
  simp only [List.range_succ, List.range_zero, List.nil_append, List.cons_append, Op.eqItems, Sem.run_bind, Nat.zero_mul, Nat.one_mul, hp0, hq, Result.andThen_ok]
  by_cases h1 : a.1 = b.1
  · have e1 : (a.1 == b.1) = true := by simpa using h1
    by_cases h2 : a.2 = b.2
    · have e2 : (a.2 == b.2) = true := by simpa using h2
      have : (a == b) = true := by rw [beq_iff_eq]; exact Prod.ext h1 h2
      simp [e1, e2, this, hp1, hq]
    · have e2 : (a.2 == b.2) = false := by simpa using h2
      have : (a == b) = false := by rw [beq_eq_false_iff_ne]; intro h; exact h2 (by rw [h])
      simp [e1, e2, this, hp1, hq]
  · have e1 : (a.1 == b.1) = false := by simpa using h1
    have : (a == b) = false := by rw [beq_eq_false_iff_ne]; intro h; exact h1 (by rw [h])
    simp [e1, this]

/-- The key's look ahead. -/
theorem run_checkKey_bt (hu : P.underlying t = some (.array 2 e)) (he : P.underlying e = some (.int .u64)) (hi : P.info? e = some i) (hc : P.cellsOf e = 1) (em : Bool) (a : Bt) (d : Nat) (w : World) :
    (Instr.checkKey em (d + 2) t (bv a)).run P w = .ok () w := by
  have hs : i.size = 1 := by have := hc; simp [Program.cellsOf, hi] at this; exact this
  have hp0 : ∀ (s : Bt) (w : World), (part e #[.int .u64 (u s.1), .int .u64 (u s.2)] 0).run P w = .ok (.int .u64 (u s.1)) w := by
    intro s w
    simp [part, run_underlying he, isAgg]
  have hp1 : ∀ (s : Bt) (w : World), (part e #[.int .u64 (u s.1), .int .u64 (u s.2)] 1).run P w = .ok (.int .u64 (u s.2)) w := by
    intro s w
    simp [part, run_underlying he, isAgg]
  have hq : ∀ (x : UInt64) (w : World), (Instr.checkKey em (d + 1) e (.int .u64 (u x))).run P w = .ok () w := by
    intro x w
    simp [Instr.checkKey, run_underlying he]
  rw [show d + 2 = (d + 1) + 1 from rfl, Instr.checkKey]
  simp only [Sem.run_bind, run_underlying hu, Result.andThen_ok]
  simp only [Std.Legacy.Range.forIn_eq_forIn_range', Std.Legacy.Range.size, Nat.sub_zero, Nat.add_one_sub_one, Nat.div_one]
  simp [List.range', sizeOf, typeInfo, hi, hs, hp0, hp1, hq]

/-- The entries of a map that numbers the sets of a list. -/
def entriesFrom (n : Nat) : List Bt → List MapEntry
  | [] => []
  | s :: l => { key := bv s, val := .int .i64 (n : Int), born := n } :: entriesFrom (n + 1) l
theorem entriesFrom_snoc (l : List Bt) (s : Bt) : ∀ n, entriesFrom n (l ++ [s]) = entriesFrom n l ++ [{ key := bv s, val := .int .i64 ((n + l.length : Nat) : Int), born := n + l.length }] := by
  induction l with
  | nil => intro n; simp [entriesFrom]
  | cons x l ih => intro n; simp only [List.cons_append, entriesFrom, ih, List.length_cons, show n + 1 + l.length = n + (l.length + 1) by omega]
theorem entriesFrom_length (l : List Bt) : ∀ n, (entriesFrom n l).length = l.length := by
  induction l with
  | nil => intro n; rfl
  | cons x l ih => intro n; simp [entriesFrom, ih]

/-- Where a set stands in a list, counted from n. -/
def idxFrom (n : Nat) (s : Bt) : List Bt → Option Nat
  | [] => none
  | x :: l => if s = x then some n else idxFrom (n + 1) s l

theorem run_findAsking_bt (hu : P.underlying t = some (.array 2 e)) (he : P.underlying e = some (.int .u64)) (hi : P.info? e = some i) (hc : P.cellsOf e = 1) (s : Bt) (w : World) : ∀ (l : List Bt) (n k : Nat),
    (Instr.findAsking t (bv s) (entriesFrom n l) k).run P w = .ok ((idxFrom n s l).map fun j => (k + (j - n), .int .i64 (j : Int))) w := by
  have hge : ∀ (l : List Bt) (n j : Nat), idxFrom n s l = some j → n ≤ j := by
    intro l
    induction l with
    | nil => intro n j h; simp [idxFrom] at h
    | cons x l ih =>
      intro n j h
      unfold idxFrom at h
      split at h
      · simp at h; omega
      · have := ih _ _ h; omega
  intro l
  induction l with
  | nil => intro n k; simp [entriesFrom, Instr.findAsking, idxFrom]
  | cons x l ih =>
    intro n k
    have heq : (Op.equal t (bv s) (bv x)).run P w = .ok (s == x) w := run_equalIn_bt hu he hi hc s x 9998 w
    simp only [entriesFrom, Instr.findAsking, Sem.run_bind, heq, Result.andThen_ok]
    by_cases hx : s = x
    · simp [idxFrom, hx]
    · have hb : (s == x) = false := by simpa using hx
      simp only [hb, idxFrom, if_neg hx, Bool.false_eq_true, if_false]
      rw [ih]
      congr 1
      cases h : idxFrom (n + 1) s l with
      | none => rfl
      | some j =>
        have := hge _ _ _ h
        simp only [Option.map_some, Option.some.injEq, Prod.mk.injEq, and_true]
        omega

theorem run_findKey_bt (hu : P.underlying t = some (.array 2 e)) (he : P.underlying e = some (.int .u64)) (hi : P.info? e = some i) (hc : P.cellsOf e = 1) (s : Bt) (w : World) (l : List Bt) :
    (Instr.findKey t (bv s) (entriesFrom 0 l)).run P w = .ok ((idxFrom 0 s l).map fun j => (j, .int .i64 (j : Int))) w := by
  unfold Instr.findKey
  simp only [Sem.run_bind, run_underlying hu, Result.andThen_ok]
  cases l with
  | nil => simp [entriesFrom, Instr.findNow, idxFrom]
  | cons x l =>
    have h := run_findAsking_bt hu he hi hc s w (x :: l) 0 0
    simp only [entriesFrom, Instr.findNow, Instr.sameNow] at h ⊢
    rw [h]
    congr 1
    cases idxFrom 0 s (x :: l) <;> simp

theorem entries_at (l : List Bt) : ∀ (n j : Nat) (s : Bt), l[j]? = some s → (entriesFrom n l)[j]? = some { key := bv s, val := .int .i64 ((n + j : Nat) : Int), born := n + j } := by
  induction l with
  | nil => intro n j s h; simp at h
  | cons x l ih =>
    intro n j s h
    cases j with
    | zero => simp at h; subst h; rfl
    | succ j =>
      simp at h
      simp only [entriesFrom, List.getElem?_cons_succ]
      rw [ih (n + 1) j s h, show n + 1 + j = n + (j + 1) by omega]

/-- 'v, ok := m[s]'. -/
theorem run_lookup_bt {tm el : TypeId} (hm : P.underlying tm = some (.map t el)) (hz : ∀ w, (zeroValue el).run P w = .ok (.int .i64 0) w)
    (hu : P.underlying t = some (.array 2 e)) (he : P.underlying e = some (.int .u64)) (hi : P.info? e = some i) (hc : P.cellsOf e = 1) (s : Bt) (M : Nat) (l : List Bt) (w : World)
    (h : w.heap[M]? = some (.map (entriesFrom 0 l).toArray l.length)) :
    (Instr.lookup tm (.map (some M)) (bv s) true).run P w = .ok (.tuple #[.int .i64 (((idxFrom 0 s l).getD 0 : Nat) : Int), .bool (idxFrom 0 s l).isSome]) w := by
  have hk := run_findKey_bt hu he hi hc s w l
  have hck : ∀ em, (Instr.checkKey em 10000 t (bv s)).run P w = .ok () w := fun em => run_checkKey_bt hu he hi hc em s 9998 w
  have hg : (getObj M).run P w = .ok (.map (entriesFrom 0 l).toArray l.length) w := by simp [getObj, Sem.run, h]
  unfold Instr.lookup
  simp only [Sem.run_bind, run_underlying hm, Result.andThen_ok, hg, hck, hk, Sem.run_pure]
  cases h2 : idxFrom 0 s l with
  | none => simp [hz]
  | some j => simp

/-- 'm[s] = number', a set that is not there. -/
theorem run_mapUpdate_bt {tm el : TypeId} (hm : P.underlying tm = some (.map t el))
    (hu : P.underlying t = some (.array 2 e)) (he : P.underlying e = some (.int .u64)) (hi : P.info? e = some i) (hc : P.cellsOf e = 1) (s : Bt) (M : Nat) (l : List Bt) (w : World)
    (h : w.heap[M]? = some (.map (entriesFrom 0 l).toArray l.length)) (hn : idxFrom 0 s l = none) :
    (Instr.mapUpdate tm (.map (some M)) (bv s) (.int .i64 (l.length : Int))).run P w = .ok () { w with heap := w.heap.setIfInBounds M (.map (entriesFrom 0 (l ++ [s])).toArray (l ++ [s]).length) } := by
  have hk := run_findKey_bt hu he hi hc s w l
  rw [hn] at hk
  have hck : ∀ em, (Instr.checkKey em 10000 t (bv s)).run P w = .ok () w := fun em => run_checkKey_bt hu he hi hc em s 9998 w
  have hg : (getObj M).run P w = .ok (.map (entriesFrom 0 l).toArray l.length) w := by simp [getObj, Sem.run, h]
  unfold Instr.mapUpdate
  simp only [Sem.run_bind, run_underlying hm, Result.andThen_ok, hg, hck, hk, Option.map_none]
  simp [setObj, Sem.run, h, entriesFrom_snoc]
end
end Go.Proofs.YthhinchifegofaaDoor
