/- Parts of this proof, joined. -/
import Derived.Test.YtpebpfaecdmabaaGreatDoorZFVA
import Derived.Test.YtpebpfaecdmabaaGreatDoorZF05
import Derived.Lib.SliceRun
import Derived.Test.YtpebpfaecdmabaaGreatDoorRows
import Derived.StillTailTactics
import Derived.Deep.RegionHeld3
import Derived.Deep.RegionLaw
import Derived.Deep.AppendLies
import Derived.Test.YtpebpfaecdmabaaGreatDoorZF06
/- Clones of rows; a sort of one. -/
namespace Go.Proofs.YtpebpfaecdmabaaGreatDoor
open Go.RowKit

theorem info3 : (Tryz.prog.info? 3).map (fun i => (i.zero, i.size, i.bytes)) = some (some (.int .i64 0), 1, 8) := by kernel_rfl
theorem info32 : (Tryz.prog.info? 28).map (fun i => (i.zero, i.size, i.bytes)) = some (some (.agg #[.int .u64 0, .int .u64 0]), 2, 16) := by kernel_rfl
/-- A slice of no elements, made just now. -/
theorem made_row (w : World) (n : Nat) (hz : w.heap.size = n) (e : TypeId) (size : Nat) : (w.alloc (.cells #[] e)).ownsRow n e size (.slice (some ⟨n, 0, none⟩) 0 0) 0 [] := by
  subst hz
  exact ⟨by simp, .inr ⟨w.heap.size, 0, #[], rfl, Nat.le_refl _, heap_alloc_new w _, by simp, by simp [maxLen], by simp, by simp⟩⟩
theorem own_slice {w : World} {base : Nat} {e : TypeId} {size : Nat} {v : Value} {n : Nat} {xs : List Value} (hn : 0 < n) (h : w.ownsRow base e size v n xs) : ∃ g cap, v = .slice (some ⟨g, 0, none⟩) n cap ∧ base ≤ g ∧ g < w.heap.size := by
  have hl := h.lt
  rcases h.2 with ⟨_, h0⟩ | ⟨g, cap, cur, e, _⟩
  · omega
  · subst e; exact ⟨g, cap, rfl, (hl g rfl)⟩
theorem clone_grown {w w1 : World} {o : Obj} {x : Nat} (hx : x = w.heap.size) (hg : (w.alloc o).grownBy w1 (some x)) : Below w.heap.size w w1 :=
  ((((Keep.refl (fun _ => False) w).alloc o)).grown hg (fun k hk => by injection hk with hk; subst hk; exact .inr (by omega))).below (fun k hk => ⟨hk, id⟩)

set_option maxHeartbeats 2000000 in
theorem Clone44 {w : World} {v : Value} {n : Nat} {xs : List Int} (h : SlR w 1 v n (ints xs)) (hn : 0 < n) (hm : n ≤ 1000) :
    Calls Tryz.prog 47 #[v] w fun e w' => ∃ g cap, e = .returned (.slice (some ⟨g, 0, none⟩) n cap) ∧ w.heap.size ≤ g ∧ SlR w' 1 (.slice (some ⟨g, 0, none⟩) n cap) n (ints xs) ∧ Below w.heap.size w w' := by
  obtain ⟨a, cap, rfl, _, hc⟩ := h.form
  obtain ⟨ad, rfl⟩ : ∃ ad, a = some ad := by
    obtain ⟨_, _, a', cap', e1, h0, _⟩ := hc
    injection e1 with e1 e2 e3
    subst e1
    cases a with
    | none => have := (h0 rfl).1; omega
    | some ad => exact ⟨ad, rfl⟩
  have hmr := made_row w _ rfl 3 1
  have hq := fun (w : World) => Lib.run_eql_slice_nil (P := Tryz.prog) w 67 3 (some ad) n cap 0 0 Tryz.underlying67
  go_enter Tryz.func47, Tryz.ntmps47
  go_wp2_with (at_builtin; refine wpList_append_sl rfl _ _ 67 3 rfl w.heap.size (.int .i64 0) 1 8 Tryz.underlying67 info3 rfl (by decide) (by decide) (.slice (some ⟨w.heap.size, 0, none⟩) 0 0) 0 [] rfl hmr _ n (ints xs) rfl (hc.alloc _) (ints_one xs) (by omega) (by simp) ?_; intro v1 w1 hown1 hg1 hat1; obtain ⟨g1, cap1, rfl, hr1⟩ := own_slice (by omega) hown1; rw [Nat.zero_add] at hown1)
  go_ret
  exact ⟨g1, cap1, rfl, hr1.1, by have := SlR.of_owns hown1; simpa using this, clone_grown rfl hg1⟩

theorem bc_all (L : List Bt) : ∀ u ∈ L.flatMap bc, u.oneCell' = true := by
  intro x hx
  obtain ⟨s, _, h⟩ := List.mem_flatMap.1 hx
  exact bc_one s x h
set_option maxHeartbeats 2000000 in
theorem Clone45 {w : World} {v : Value} {n : Nat} {L : List Bt} (h : SlR w 2 v n (L.flatMap bc)) (hn : 0 < n) (hm : n ≤ 1000) :
    Calls Tryz.prog 48 #[v] w fun e w' => ∃ g cap, e = .returned (.slice (some ⟨g, 0, none⟩) n cap) ∧ w.heap.size ≤ g ∧ SlR w' 2 (.slice (some ⟨g, 0, none⟩) n cap) n (L.flatMap bc) ∧ Below w.heap.size w w' := by
  obtain ⟨a, cap, rfl, _, hc⟩ := h.form
  obtain ⟨ad, rfl⟩ : ∃ ad, a = some ad := by
    obtain ⟨_, _, a', cap', e1, h0, _⟩ := hc
    injection e1 with e1 e2 e3
    subst e1
    cases a with
    | none => have := (h0 rfl).1; omega
    | some ad => exact ⟨ad, rfl⟩
  have hmr := made_row w _ rfl 28 2
  have hq := fun (w : World) => Lib.run_eql_slice_nil (P := Tryz.prog) w 68 28 (some ad) n cap 0 0 Tryz.underlying68
  go_enter Tryz.func48, Tryz.ntmps48
  go_wp2_with (at_builtin; refine wpList_append_sl rfl _ _ 68 28 rfl w.heap.size (.agg #[.int .u64 0, .int .u64 0]) 2 16 Tryz.underlying68 info32 rfl (by decide) (by decide) (.slice (some ⟨w.heap.size, 0, none⟩) 0 0) 0 [] rfl hmr _ n (L.flatMap bc) rfl (hc.alloc _) (bc_all L) (by omega) (by simp) ?_; intro v1 w1 hown1 hg1 hat1; obtain ⟨g1, cap1, rfl, hr1⟩ := own_slice (by omega) hown1; rw [Nat.zero_add] at hown1)
  go_ret
  exact ⟨g1, cap1, rfl, hr1.1, by have := SlR.of_owns hown1; simpa using this, clone_grown rfl hg1⟩
end Go.Proofs.YtpebpfaecdmabaaGreatDoor
/- Sorts of one element. -/
namespace Go.Proofs.YtpebpfaecdmabaaGreatDoor
open Go.RowKit

theorem ins83 (v f : Value) (w : World) : Calls Tryz.prog 86 #[v, .int .i64 0, .int .i64 1, f] w fun e w' => e = .returned (.tuple #[]) ∧ w = w' := by
  go_enter Tryz.func86, Tryz.ntmps86
  go_wp2_with fail
  go_loopw [8] (fun x wr => x = .int .i64 1 ∧ wr = w) (fun _ _ => 0)
  case atStart => exact ⟨rfl, rfl⟩
  case round =>
    obtain ⟨rfl, rfl⟩ := hrel
    go_wp2_with fail
    go_end0
    exact ⟨rfl, rfl⟩
theorem ins53 (v f : Value) (w : World) : Calls Tryz.prog 56 #[v, .int .i64 0, .int .i64 1, f] w fun e w' => e = .returned (.tuple #[]) ∧ w = w' := by
  go_enter Tryz.func56, Tryz.ntmps56
  go_wp2_with fail
  go_loopw [8] (fun x wr => x = .int .i64 1 ∧ wr = w) (fun _ _ => 0)
  case atStart => exact ⟨rfl, rfl⟩
  case round =>
    obtain ⟨rfl, rfl⟩ := hrel
    go_wp2_with fail
    go_end0
    exact ⟨rfl, rfl⟩
theorem stable68 (v f : Value) (w : World) : Calls Tryz.prog 71 #[v, .int .i64 1, f] w fun e w' => e = .returned (.tuple #[]) ∧ w = w' := by
  go_enter Tryz.func71, Tryz.ntmps71
  go_wp2_with fail
  go_loopw [7, 8] (fun x y wr => x = .int .i64 0 ∧ y = .int .i64 20 ∧ wr = w) (fun _ _ _ => 0)
  case atStart => exact ⟨rfl, rfl, rfl⟩
  case round =>
    obtain ⟨rfl, rfl, rfl⟩ := hrel
    go_wp2_with (go_at_call 86; refine (ins83 _ _ _).mono ?_; rintro e w2 ⟨rfl, rfl⟩)
    go_loopw [6] (fun x w2 => x = .int .i64 20 ∧ w2 = wr) (fun _ _ => 0)
    case atStart => exact ⟨rfl, rfl⟩
    case round =>
      obtain ⟨rfl, rfl⟩ := hrel
      go_wp2_with fail
      go_end0
      exact ⟨rfl, rfl⟩
theorem stable46 (a : Option Addr) (cap : Nat) (f : Value) (w : World) : Calls Tryz.prog 49 #[.slice a 1 cap, f] w fun e w' => e = .returned (.tuple #[]) ∧ w = w' := by
  go_enter Tryz.func49, Tryz.ntmps49
  go_wp2_with (go_at_call 71; refine (stable68 _ _ _).mono ?_; rintro e w2 ⟨rfl, rfl⟩)
  go_end0
  exact ⟨rfl, rfl⟩
set_option maxRecDepth 100000 in
set_option maxHeartbeats 2000000 in
theorem len62 (w : World) : Calls Tryz.prog 65 #[.int .u64 1] w fun e w' => e = .returned (.int .i64 1) ∧ w = w' := by
  go_enter Tryz.func65, Tryz.ntmps65
  go_wp2_with fail
  go_ret
  exact ⟨ret_int (by decide +kernel), rfl⟩
theorem len38 (w : World) : Calls Tryz.prog 43 #[.int .u64 1] w fun e w' => e = .returned (.int .i64 1) ∧ w = w' := by
  go_enter Tryz.func43, Tryz.ntmps43
  go_wp2_with (go_at_call 65; refine (len62 _).mono ?_; rintro e w2 ⟨rfl, rfl⟩)
  go_ret
  exact ⟨rfl, rfl⟩
theorem pdq37 (v f lim : Value) (w : World) : Calls Tryz.prog 42 #[v, .int .i64 0, .int .i64 1, lim, f] w fun e w' => e = .returned (.tuple #[]) ∧ w = w' := by
  go_enter Tryz.func42, Tryz.ntmps42
  go_wp2_with fail
  go_loopw [1, 2] (fun x y wr => x = .int .i64 0 ∧ y = .int .i64 1 ∧ wr = w) (fun _ _ _ => 0)
  case atStart => exact ⟨rfl, rfl, rfl⟩
  case round =>
    obtain ⟨rfl, rfl, rfl⟩ := hrel
    go_wp2_with (go_at_call 56; refine (ins53 _ _ _).mono ?_; rintro e w2 ⟨rfl, rfl⟩)
    exact bodyPost_ret (results_none rfl _ _ _) rfl ⟨rfl, rfl⟩
theorem sort26 (a : Option Addr) (cap : Nat) (f : Value) (w : World) : Calls Tryz.prog 33 #[.slice a 1 cap, f] w fun e w' => e = .returned (.tuple #[]) ∧ w = w' := by
  go_enter Tryz.func33, Tryz.ntmps33
  go_wp2_with (first | (go_at_call 43; refine (len38 _).mono ?_; rintro e w2 ⟨rfl, rfl⟩) | (go_at_call 42; refine (pdq37 _ _ _ _).mono ?_; rintro e w2 ⟨rfl, rfl⟩))
  go_end0
  exact ⟨rfl, rfl⟩
end Go.Proofs.YtpebpfaecdmabaaGreatDoor
/- The table of sets: contracts of its methods. -/
namespace Go.Proofs.YtpebpfaecdmabaaGreatDoor.It
open Go.RowKit

theorem cells24 : Tryz.prog.cellsOf 28 = 2 := by kernel_rfl
theorem cells22 : Tryz.prog.cellsOf 26 = 1 := by kernel_rfl
theorem has22 : (Tryz.prog.info? 26).isSome = true := by kernel_rfl
theorem zero3 (w : World) : (zeroValue 3).run Tryz.prog w = .ok (.int .i64 0) w := by kernel_rfl
theorem und24 : Tryz.prog.underlying 28 = some (.array 2 26) := Tryz.underlying28

def orB (a b : Bt) : Bt := (a.1 ||| b.1, a.2 ||| b.2)

set_option maxHeartbeats 400000 in
theorem Or_any (a b : Bt) (w : World) :
    Calls Tryz.prog 32 #[bv a, bv b] w fun e w' => e = .returned (bv (orB a b)) ∧ Below w.heap.size w w' := by
  have h1 := u_or a.1 b.1
  have h2 := u_or a.2 b.2
  go_enter Tryz.func32, Tryz.ntmps32
  go_wp2
  exact bodyPost_ret (v := bv (orB a b)) (by simp [results, Tryz.results32, go_sem, orB]) rfl ⟨rfl, (((Below.refl _ _).alloc (Nat.le_refl _) _).alloc (by simp) _).alloc (by simp; omega) _⟩

/-- A table: its struct in block T, its map in M, its list in g. -/
def Tab (w : World) (T M g : Nat) (sets : List Bt) : Prop :=
  ∃ cap, w.heap[T]? = some (.cells #[.map (some M), .slice (some ⟨g, 0, none⟩) sets.length cap] 125 (0, 0)) ∧ w.heap[M]? = some (.map (entriesFrom 0 sets).toArray sets.length) ∧ w.ownsRow 0 28 2 (.slice (some ⟨g, 0, none⟩) sets.length cap) sets.length (sets.flatMap bc)

theorem insert_new (w : World) : (Instr.mapUpdate 123 (.map (some w.heap.size)) (.agg #[.int .u64 0, .int .u64 0]) (.int .i64 0)).run Tryz.prog (w.alloc (.map #[] 0)) = .ok () (w.alloc (.map (entriesFrom 0 [(0, 0)]).toArray 1)) := by
  obtain ⟨i, hi⟩ := Option.isSome_iff_exists.1 has22
  have h := run_mapUpdate_bt (P := Tryz.prog) Tryz.underlying123 Tryz.underlying28 Tryz.underlying26 hi cells22 (0, 0) w.heap.size [] (w.alloc (.map #[] 0)) (by rw [heap_alloc_new]; rfl) rfl
  rw [set_alloc] at h
  exact h

set_option maxHeartbeats 400000 in
theorem New_any (w : World) :
    Calls Tryz.prog 51 #[] w fun e w' => ∃ T M g, e = .returned (.pointer (some ⟨T, 0, none⟩)) ∧ Below w.heap.size w w' ∧ Tab w' T M g [(0, 0)] ∧ w.heap.size ≤ T ∧ w.heap.size ≤ M ∧ w.heap.size ≤ g := by
  have hmm := @run_makeMap Tryz.prog
  have hins := insert_new w
  go_enter Tryz.func51, Tryz.ntmps51
  go_wp2
  go_ret
  refine ⟨w.heap.size + 1 + 1, w.heap.size, w.heap.size + 1, rfl, (((Below.refl _ _).alloc (Nat.le_refl _) _).alloc (by simp) _).alloc (by simp; omega) _, ⟨1, ?_, ?_, ?_⟩, by omega, by omega, by omega⟩
  · have := heap_alloc_new ((w.alloc (Obj.map (entriesFrom 0 [(0, 0)]).toArray 1)).alloc (Obj.cells #[Value.int IntKind.u64 0, Value.int IntKind.u64 0] 28)) (Obj.cells #[Value.map (some w.heap.size), Value.slice (some ⟨w.heap.size + 1, 0, none⟩) 1 1] 125)
    simpa using this
  · rw [Below.heap_alloc _ _ _ (by simp; omega), Below.heap_alloc _ _ _ (by simp), heap_alloc_new]
    rfl
  · have := (World.ownsRow_lit (base := 0) (e := 28) (size := 2) (w.alloc (Obj.map (entriesFrom 0 [(0, 0)]).toArray 1)) #[Value.int IntKind.u64 0, Value.int IntKind.u64 0] 1 (Nat.zero_le _) (by simp [maxLen]) rfl).alloc (Obj.cells #[Value.map (some w.heap.size), Value.slice (some ⟨w.heap.size + 1, 0, none⟩) 1 1] 125)
    have e : [((0, 0) : Bt)].flatMap bc = [Value.int IntKind.u64 0, Value.int IntKind.u64 0] := rfl
    rw [e]
    simpa using this

/-- The cells of a table, as the walk reads them. -/
theorem Tab.cells {w : World} {T M g : Nat} {sets : List Bt} (h : Tab w T M g sets) : ∃ cap, w.cell? ⟨T, 0, none⟩ = some (.map (some M)) ∧ w.cell? ⟨T, 1, none⟩ = some (.slice (some ⟨g, 0, none⟩) sets.length cap) ∧
    w.frozen? ⟨T, 0, none⟩ = false ∧ w.frozen? ⟨T, 1, none⟩ = false ∧ w.heap[M]? = some (.map (entriesFrom 0 sets).toArray sets.length) ∧ w.ownsRow 0 28 2 (.slice (some ⟨g, 0, none⟩) sets.length cap) sets.length (sets.flatMap bc) := by
  obtain ⟨cap, h1, h2, h3⟩ := h
  exact ⟨cap, by simp [World.cell?, h1], by simp [World.cell?, h1], by simp [World.frozen?, h1], by simp [World.frozen?, h1], h2, h3⟩

theorem Tab.lt {w : World} {T M g : Nat} {sets : List Bt} (h : Tab w T M g sets) : T < w.heap.size ∧ M < w.heap.size ∧ g < w.heap.size := by
  obtain ⟨cap, h1, h2, h3⟩ := h
  refine ⟨(Array.getElem?_eq_some_iff.1 h1).1, (Array.getElem?_eq_some_iff.1 h2).1, (h3.lt g rfl).2⟩

theorem Tab.keep {w w' : World} {T M g : Nat} {sets : List Bt} {S : Nat → Prop} (h : Tab w T M g sets) (hk : Keep S w w') (hT : ¬ S T) (hM : ¬ S M) (hg : ¬ S g) : Tab w' T M g sets := by
  have hlt := h.lt
  obtain ⟨cap, h1, h2, h3⟩ := h
  refine ⟨cap, (hk.block T hlt.1 hT).trans h1, (hk.block M hlt.2.1 hM).trans h2, h3.1, ?_⟩
  rcases h3.2 with ⟨h, _⟩ | ⟨g', cap', cur, he, hb, hh, r⟩
  · cases h
  · right
    refine ⟨g', cap', cur, he, hb, ?_, r⟩
    injection he with he1 he2 he3
    injection he1 with he1
    injection he1 with he1
    subst he1
    exact (hk.block g hlt.2.2 hg).trans hh
theorem Tab.below {w w' : World} {T M g : Nat} {sets : List Bt} (h : Tab w T M g sets) (hb : Below w.heap.size w w') : Tab w' T M g sets :=
  h.keep (Keep.of_below (S := fun _ => False) hb) (by simp) (by simp) (by simp)

/-- The three blocks of a table differ. -/
theorem Tab.apart {w : World} {T M g : Nat} {sets : List Bt} (h : Tab w T M g sets) : T ≠ M ∧ T ≠ g ∧ M ≠ g := by
  obtain ⟨cap, h1, h2, h3⟩ := h
  have hg : ∃ cur, w.heap[g]? = some (.cells cur 28 (0, 0)) := by
    rcases h3.2 with ⟨h, _⟩ | ⟨g', cap', cur, he, hb, hh, r⟩
    · cases h
    · injection he with he1 he2 he3
      injection he1 with he1
      injection he1 with he1
      subst he1
      exact ⟨cur, hh⟩
  obtain ⟨cur, hg⟩ := hg
  refine ⟨fun e => ?_, fun e => ?_, fun e => ?_⟩
  · subst e; rw [h1] at h2; cases h2
  · subst e; rw [h1] at hg; injection hg with hg; injection hg with _ hg; cases hg
  · subst e; rw [h2] at hg; cases hg

/-- What ID answers, and the sets behind it. -/
def idRes (s : Bt) (sets : List Bt) : Nat × Nat × List Bt :=
  match idxFrom 0 s sets with
  | some j => (j, 0, sets)
  | none => if 1024 ≤ sets.length then (0, 7, sets) else (sets.length, 0, sets ++ [s])

theorem lookup_q (s : Bt) (M : Nat) (sets : List Bt) (w : World) (h : w.heap[M]? = some (.map (entriesFrom 0 sets).toArray sets.length)) (n : Nat) :
    (Instr.lookup 123 (.map (some M)) (bv s) true).run Tryz.prog (w.drewN n) = .ok (.tuple #[.int .i64 (((idxFrom 0 s sets).getD 0 : Nat) : Int), .bool (idxFrom 0 s sets).isSome]) (w.drewN n) := by
  obtain ⟨i, hi⟩ := Option.isSome_iff_exists.1 has22
  exact run_lookup_bt Tryz.underlying123 zero3 Tryz.underlying28 Tryz.underlying26 hi cells22 s M sets (w.drewN n) h

set_option maxHeartbeats 1000000 in
set_option maxRecDepth 100000 in
theorem ID_found (s : Bt) (T M g j : Nat) (sets : List Bt) (w : World) (h : Tab w T M g sets) (hj : idxFrom 0 s sets = some j) :
    Calls Tryz.prog 54 #[.pointer (some ⟨T, 0, none⟩), bv s] w fun e w' => e = .returned (.tuple #[.int .i64 j, .int .i64 0]) ∧ Below w.heap.size w w' := by
  obtain ⟨cap, c0, c1, _, _, hM, _⟩ := h.cells
  have hlt := h.lt
  have hl := lookup_q s M sets (w.alloc (.cells #[.int .u64 (u s.1), .int .u64 (u s.2)] 28)) (by rw [Below.heap_alloc _ _ _ hlt.2.1]; exact hM)
  rw [hj] at hl
  simp only [Option.getD_some, Option.isSome_some] at hl
  clear hM
  go_enter Tryz.func54, Tryz.ntmps54
  go_wp2
  go_quiet (fail)
  go_wp2
  go_ret2
  exact ⟨rfl, below_drewN ((Below.refl _ _).alloc (Nat.le_refl _) _) _⟩

theorem bc_ones (_sets : List Bt) (s : Bt) : ∀ u ∈ [s].flatMap bc, u.oneCell' = true := by
  intro u hu
  simp only [List.flatMap_cons, List.flatMap_nil, List.append_nil] at hu
  exact bc_one s u hu

theorem info24 : (Tryz.prog.info? 28).map (fun i => (i.zero, i.size, i.bytes)) = some (some (.agg #[.int .u64 0, .int .u64 0]), 2, 16) := by kernel_rfl

set_option maxHeartbeats 1000000 in
set_option maxRecDepth 100000 in
theorem ID_full (s : Bt) (T M g : Nat) (sets : List Bt) (w : World) (h : Tab w T M g sets) (hj : idxFrom 0 s sets = none) (hn : 1024 ≤ sets.length) :
    Calls Tryz.prog 54 #[.pointer (some ⟨T, 0, none⟩), bv s] w fun e w' => e = .returned (.tuple #[.int .i64 0, .int .i64 7]) ∧ Below w.heap.size w w' := by
  obtain ⟨cap, c0, c1, _, _, hM, _⟩ := h.cells
  have hlt := h.lt
  have hl := lookup_q s M sets (w.alloc (.cells #[.int .u64 (u s.1), .int .u64 (u s.2)] 28)) (by rw [Below.heap_alloc _ _ _ hlt.2.1]; exact hM)
  rw [hj] at hl
  simp only [Option.getD_none, Option.isSome_none] at hl
  clear hM
  go_enter Tryz.func54, Tryz.ntmps54
  go_wp2
  go_quiet (fail)
  go_wp2
  go_ret2
  exact ⟨rfl, below_drewN ((Below.refl _ _).alloc (Nat.le_refl _) _) _⟩

theorem heap_setCell_at (w : World) (b o : Nat) (v : Value) (cs : Array Value) (t : TypeId) (fr : Nat × Nat) (h : w.heap[b]? = some (.cells cs t fr)) : (w.setCell ⟨b, o, none⟩ v).heap[b]? = some (.cells (cs.setIfInBounds o v) t fr) := by
  simp [World.setCell, Array.getElem?_modify, h]

theorem ID_close (s : Bt) (T M g gg cap2 : Nat) (sets : List Bt) (w W W2 w1 : World) (h : Tab w T M g sets) (KW : Keep (fun _ => False) w W)
    (K2 : Keep (fun k => k = M) W W2 ∧ W2.heap[M]? = some (.map (entriesFrom 0 (sets ++ [s])).toArray (sets ++ [s]).length)) {o : Obj} (hgrow : (W2.alloc o).drew.grownBy w1 (some g))
    (hown1 : w1.ownsRow 0 28 2 (.slice (some ⟨gg, 0, none⟩) (sets.length + 1) cap2) (sets.length + 1) (sets.flatMap bc ++ bc s)) (hat : g = gg ∨ gg = W2.heap.size + 1) :
    ∃ g', Tab (w1.setCell ⟨T, 1, none⟩ (.slice (some ⟨gg, 0, none⟩) (sets.length + 1) cap2)) T M g' (sets ++ [s]) ∧ Keep (fun k => k = T ∨ k = M ∨ k = g) w (w1.setCell ⟨T, 1, none⟩ (.slice (some ⟨gg, 0, none⟩) (sets.length + 1) cap2)) ∧ (g' = g ∨ w.heap.size ≤ g') := by
  have aT := h.apart
  have hlt := h.lt
  have KW2 : Keep (fun k => k = M) w W2 := (KW.mono (by simp)).trans K2.1
  have K1 : Keep (fun k => k = M ∨ k = g) w w1 := by
    refine ((KW2.mono (fun k _ hk => .inl hk)).alloc o).drewN 1 |>.grown (row := some g) hgrow (fun k hk => ?_)
    injection hk with hk; subst hk; exact .inl (.inr rfl)
  obtain ⟨cap, h1, h2, h3⟩ := h
  have hT1 := K1.obj h1 (by rintro (e | e); exact aT.1 e; exact aT.2.1 e)
  have hM1 : w1.heap[M]? = some (.map (entriesFrom 0 (sets ++ [s])).toArray (sets ++ [s]).length) := by
    have hM2 := (Array.getElem?_eq_some_iff.1 K2.2).1
    rw [hgrow.block M (by show M < (W2.alloc o).heap.size; simp; omega) (by simp; exact aT.2.2)]
    show (W2.alloc o).heap[M]? = _
    rw [Below.heap_alloc _ _ _ hM2]
    exact K2.2
  have hgT : gg ≠ T := by
    intro e
    obtain ⟨cur, hc⟩ := owns_cells hown1
    rw [e, hT1] at hc
    injection hc with hc; injection hc with _ hc; cases hc
  refine ⟨gg, ⟨cap2, ?_, ?_, ?_⟩, ?_, ?_⟩
  · rw [heap_setCell_at _ _ _ _ _ _ _ hT1]; simp
  · rw [Below.heap_setCell _ _ _ _ (Ne.symm aT.1)]; exact hM1
  · have Ks : Keep (fun k => k = T) w1 (w1.setCell ⟨T, 1, none⟩ (.slice (some ⟨gg, 0, none⟩) (sets.length + 1) cap2)) := (Keep.refl _ _).setCell _ _ (.inl rfl)
    have := Ks.owns hown1 (by intro k hk; simp [Value.ownBlock] at hk; subst hk; exact hgT)
    simpa using this
  · exact (K1.mono (fun k _ hk => .inr hk)).setCell _ _ (.inl (.inl rfl))
  · rcases hat with e | e
    · exact .inl e.symm
    · right; have := KW2.size; omega

set_option maxHeartbeats 1000000 in
set_option maxRecDepth 100000 in
theorem ID_new (s : Bt) (T M g : Nat) (sets : List Bt) (w : World) (h : Tab w T M g sets) (hj : idxFrom 0 s sets = none) (hn : sets.length < 1024) :
    Calls Tryz.prog 54 #[.pointer (some ⟨T, 0, none⟩), bv s] w fun e w' => e = .returned (.tuple #[.int .i64 sets.length, .int .i64 0]) ∧
      ∃ g', Tab w' T M g' (sets ++ [s]) ∧ Keep (fun k => k = T ∨ k = M ∨ k = g) w w' ∧ (g' = g ∨ w.heap.size ≤ g') := by
  obtain ⟨cap, c0, c1, f0, f1, hM, hown⟩ := h.cells
  have hlt := h.lt
  have hl := lookup_q s M sets (w.alloc (.cells #[.int .u64 (u s.1), .int .u64 (u s.2)] 28)) (by rw [Below.heap_alloc _ _ _ hlt.2.1]; exact hM)
  rw [hj] at hl
  simp only [Option.getD_none, Option.isSome_none] at hl
  go_enter Tryz.func54, Tryz.ntmps54
  go_wp2
  go_quiet (fail)
  go_wp2
  obtain ⟨W, hW⟩ : ∃ W, W = (w.alloc (.cells #[.int .u64 (u s.1), .int .u64 (u s.2)] 28)).drewN nq := ⟨_, rfl⟩
  have KW : Keep (fun _ => False) w W := by rw [hW]; exact ((Keep.refl _ _).alloc _).drewN _
  have cT0 := KW.cell c0 (by simp)
  have cb0 : W.cell? ⟨w.heap.size, 0, none⟩ = some (.int .u64 (u s.1)) := by rw [hW]; simp
  have cb1 : W.cell? ⟨w.heap.size, 1, none⟩ = some (.int .u64 (u s.2)) := by rw [hW]; simp
  have HS := Lib.hid (show W.heap.size = w.heap.size + 1 by rw [hW]; show (w.alloc _).heap.size = _; simp)
  rw [← hW]
  clear hW
  obtain ⟨W2, hup, K2⟩ : ∃ W2, (Instr.mapUpdate 123 (.map (some M)) (.agg #[.int .u64 (u s.1), .int .u64 (u s.2)]) (.int .i64 (sets.length : Int))).run Tryz.prog W.drew = .ok () W2 ∧ Hid (Keep (fun k => k = M) W W2 ∧ W2.heap[M]? = some (.map (entriesFrom 0 (sets ++ [s])).toArray (sets ++ [s]).length)) := by
    obtain ⟨i, hi⟩ := Option.isSome_iff_exists.1 has22
    have hMW : W.drew.heap[M]? = some (.map (entriesFrom 0 sets).toArray sets.length) := KW.obj hM (by simp)
    refine ⟨_, run_mapUpdate_bt (P := Tryz.prog) Tryz.underlying123 Tryz.underlying28 Tryz.underlying26 hi cells22 s M sets W.drew hMW hj, ?_⟩
    refine ⟨Keep.setObj ((Keep.refl _ W).drewN 1) M _ (.inl rfl), ?_⟩
    have hlt2 := (Array.getElem?_eq_some_iff.1 hMW).1
    simp only [Array.getElem?_setIfInBounds, if_pos hlt2, if_true]
  clear hl hM
  have aT := h.apart
  have KW2 : Keep (fun k => k = M) w W2 := (KW.mono (by simp)).trans K2.out.1
  have cT1 := KW2.cell c1 aT.1
  have fT1 := KW2.unfrozen hlt.1 f1 aT.1
  have cB0 := K2.out.1.cell cb0 (by simp; omega)
  have cB1 := K2.out.1.cell cb1 (by simp; omega)
  have hown2 := KW2.owns hown (by intro k hk; simp [Value.ownBlock] at hk; subst hk; exact fun e => aT.2.2 e.symm)
  have sz2 : w.heap.size + 1 ≤ W2.heap.size := by rw [← HS.out]; exact K2.out.1.size
  have cT2 := KW2.cell c0 aT.1
  go_region_held3 (fun w' => w'.cell? ⟨T, 0, none⟩ = some (.map (some M)) ∧ w'.cell? ⟨w.heap.size, 0, none⟩ = some (.int .u64 (u s.1)) ∧ w'.cell? ⟨w.heap.size, 1, none⟩ = some (.int .u64 (u s.2))) (go_keep) (fail)
  clear c0 c1 f0 f1 cT0 cb0 cb1 hup
  go_wp2_with fail
  obtain ⟨i0, hi0, hz0, hz1, hz2⟩ := info_parts info24
  have hgT : (Value.slice (some ⟨g, 0, none⟩) sets.length cap).ownBlock ≠ some T := by simp [Value.ownBlock]; exact fun e => aT.2.1 e.symm
  have hgB : (Value.slice (some ⟨g, 0, none⟩) sets.length cap).ownBlock ≠ some w.heap.size := by simp [Value.ownBlock]; omega
  have hcA : (W2.alloc (.cells #[.int .u64 (u s.1), .int .u64 (u s.2)] 28)).cell? ⟨T, 1, none⟩ = some (.slice (some ⟨g, 0, none⟩) sets.length cap) := (World.cell?_alloc_past _ _ _ (show T < _ by omega)).trans cT1
  go_region_law ((refine step_append_lies _ (by rfl) _ _ _ (by rfl) 0 28 i0 _ 2 16 Tryz.underlying68 hi0 hz0 hz1 hz2 rfl (by omega) (.slice (some ⟨g, 0, none⟩) sets.length cap) sets.length (sets.flatMap bc) (by rfl) ((hown2.alloc _).drew) ⟨W2.heap.size, 0, none⟩ 1 1 (bc s) (by rfl) (by rfl) (World.news_of_block (cs := #[.int .u64 (u s.1), .int .u64 (u s.2)]) (t := 28) (fr := (0, 0)) (heap_alloc_new W2 _)) (bc_one s) (by omega) (by unfold maxLen; omega) (by omega) (by omega) (W2.heap.size + 1) (by simp) ?_; intro gg cap2 w1 hown1 hgrow hat hlt1; have fw1 : w1.frozen? ⟨T, 1, none⟩ = false := (hgrow.frozen_far ⟨T, 1, none⟩ (show T < _ by simp; omega) (Ne.symm hgT)).trans (World.frozen?_alloc_past _ _ _ (show T < _ by omega) |>.trans fT1); have cw1 : w1.cell? ⟨T, 1, none⟩ = some (.slice (some ⟨g, 0, none⟩) sets.length cap) := (hgrow.cell_far ⟨T, 1, none⟩ (show T < _ by simp; omega) (Ne.symm hgT)).trans ((World.cell?_alloc_past _ _ _ (show T < _ by omega)).trans cT1); have hTw : T < w1.heap.size := by have := hgrow.size; simp at this; omega))
  all_goals
    go_wp2
    go_ret2
    exact ⟨rfl, ID_close s T M g gg cap2 sets w W W2 w1 h KW K2.out hgrow (by simpa using hown1) (by simpa [Value.ownBlock] using hat)⟩
end Go.Proofs.YtpebpfaecdmabaaGreatDoor.It
/- The table of sets: Set, Len, Union. -/
namespace Go.Proofs.YtpebpfaecdmabaaGreatDoor.It
open Go.RowKit

theorem flatMap_bc_at (sets : List Bt) : ∀ (i : Nat) (hi : i < sets.length), (sets.flatMap bc)[i * 2]? = some (.int .u64 (u sets[i].1)) ∧ (sets.flatMap bc)[i * 2 + 1]? = some (.int .u64 (u sets[i].2)) := by
  induction sets with
  | nil => intro i hi; simp at hi
  | cons s l ih =>
    intro i hi
    cases i with
    | zero => simp [bc]
    | succ i =>
      have := ih i (by simpa using hi)
      rw [List.flatMap_cons]
      have hl : (bc s).length = 2 := rfl
      rw [List.getElem?_append_right (by rw [hl]; omega), List.getElem?_append_right (by rw [hl]; omega), hl]
      rw [show (i + 1) * 2 - 2 = i * 2 by omega, show (i + 1) * 2 + 1 - 2 = i * 2 + 1 by omega]
      simpa using this

theorem Tab.set_at {w : World} {T M g : Nat} {sets : List Bt} (h : Tab w T M g sets) (i : Nat) (hi : i < sets.length) : w.cell? ⟨g, i * 2, none⟩ = some (.int .u64 (u sets[i].1)) ∧ w.cell? ⟨g, i * 2 + 1, none⟩ = some (.int .u64 (u sets[i].2)) := by
  obtain ⟨cap, _, _, h3⟩ := h
  have h1 := h3.cells (g := g) rfl (i * 2) _ (flatMap_bc_at sets i hi).1
  have h2 := h3.cells (g := g) rfl (i * 2 + 1) _ (flatMap_bc_at sets i hi).2
  rw [Addr.add_at] at h1 h2
  simpa using And.intro h1 h2

set_option maxHeartbeats 1000000 in
set_option maxRecDepth 100000 in
theorem Set_in (T M g i : Nat) (sets : List Bt) (w : World) (h : Tab w T M g sets) (hi : i < sets.length) :
    Calls Tryz.prog 53 #[.pointer (some ⟨T, 0, none⟩), .int .i64 i] w fun e w' => e = .returned (.tuple #[bv sets[i], .int .i64 0]) ∧ Below w.heap.size w w' := by
  obtain ⟨cap, c0, c1, _, _, hM, _⟩ := h.cells
  have hlt := h.lt
  obtain ⟨e0, e1⟩ := h.set_at i hi
  have d1 : ((sets.length : Int) ≤ (i : Int)) = False := by simp; omega
  have d0 : ((i : Int) < 0) = False := by simp
  clear hM
  go_enter Tryz.func53, Tryz.ntmps53
  go_wp2
  exact bodyPost_ret (v := .tuple #[bv sets[i], .int .i64 0]) (by simp [results, Tryz.results53, go_sem]) rfl ⟨rfl, (Below.refl _ _).alloc (Nat.le_refl _) _⟩

set_option maxHeartbeats 1000000 in
set_option maxRecDepth 100000 in
theorem Set_out (T M g : Nat) (n : Int) (sets : List Bt) (w : World) (h : Tab w T M g sets) (hi : n < 0 ∨ (sets.length : Int) ≤ n) :
    Calls Tryz.prog 53 #[.pointer (some ⟨T, 0, none⟩), .int .i64 n] w fun e w' => e = .returned (.tuple #[bv (0, 0), .int .i64 2]) ∧ Below w.heap.size w w' := by
  obtain ⟨cap, c0, c1, _, _, hM, _⟩ := h.cells
  have hlt := h.lt
  clear hM
  have hz : bv (0, 0) = .agg #[.int .u64 0, .int .u64 0] := rfl
  have HZ := Lib.hid hz
  clear hz
  by_cases h0 : n < 0
  · go_enter Tryz.func53, Tryz.ntmps53
    go_wp2
    exact bodyPost_ret (v := .tuple #[.agg #[.int .u64 0, .int .u64 0], .int .i64 2]) (by simp [results, Tryz.results53, go_sem]) rfl ⟨by rw [HZ.out], (Below.refl _ _).alloc (Nat.le_refl _) _⟩
  · have h1 : (sets.length : Int) ≤ n := by omega
    clear hi
    go_enter Tryz.func53, Tryz.ntmps53
    go_wp2
    exact bodyPost_ret (v := .tuple #[.agg #[.int .u64 0, .int .u64 0], .int .i64 2]) (by simp [results, Tryz.results53, go_sem]) rfl ⟨by rw [HZ.out], (Below.refl _ _).alloc (Nat.le_refl _) _⟩

/-- ID, whatever it meets. -/
theorem ID_any (s : Bt) (T M g : Nat) (sets : List Bt) (w : World) (h : Tab w T M g sets) :
    Calls Tryz.prog 54 #[.pointer (some ⟨T, 0, none⟩), bv s] w fun e w' => e = .returned (.tuple #[.int .i64 ((idRes s sets).1 : Nat), .int .i64 ((idRes s sets).2.1 : Nat)]) ∧
      ∃ g', Tab w' T M g' (idRes s sets).2.2 ∧ Keep (fun k => k = T ∨ k = M ∨ k = g) w w' ∧ (g' = g ∨ w.heap.size ≤ g') := by
  cases hj : idxFrom 0 s sets with
  | some j =>
    have e : idRes s sets = (j, 0, sets) := by simp [idRes, hj]
    rw [e]
    exact (ID_found s T M g j sets w h hj).mono fun _ w' ⟨h1, h2⟩ => ⟨h1, g, h.below h2, Keep.of_below h2, .inl rfl⟩
  | none =>
    by_cases hn : 1024 ≤ sets.length
    · have e : idRes s sets = (0, 7, sets) := by simp [idRes, hj, hn]
      rw [e]
      exact (ID_full s T M g sets w h hj hn).mono fun _ w' ⟨h1, h2⟩ => ⟨h1, g, h.below h2, Keep.of_below h2, .inl rfl⟩
    · have e : idRes s sets = (sets.length, 0, sets ++ [s]) := by simp [idRes, hj, hn]
      rw [e]
      exact ID_new s T M g sets w h hj (by omega)

end Go.Proofs.YtpebpfaecdmabaaGreatDoor.It
/- The lowest one of a word, by the library's table. -/
namespace Go.Proofs.YtpebpfaecdmabaaGreatDoor.Bs
open Go.RowKit

/-- The library's table of places. -/
def tzTab : List Nat := [0, 1, 56, 2, 57, 49, 28, 3, 61, 58, 42, 50, 38, 29, 17, 4, 62, 47, 59, 36, 45, 43, 51, 22, 53, 39, 33, 30, 24, 18, 12, 5, 63, 55, 48, 27, 60, 41, 37, 16, 46, 35, 44, 21, 52, 32, 23, 11, 54, 26, 40, 15, 34, 20, 31, 10, 25, 14, 19, 9, 13, 8, 7, 6]
/-- The table lies in its block. -/
structure TabW (w : World) : Prop where
  at' : ∀ (i k : Nat), tzTab[i]? = some k → w.cell? ⟨0, i, none⟩ = some (.int .u8 k)
theorem TabW.below {w w' : World} (h : TabW w) (hb : Below w.heap.size w w') : TabW w' :=
  ⟨fun i k hk => (hb.cell (World.block_lt_of_cell? w _ (h.at' i k hk))).trans (h.at' i k hk)⟩

theorem tz_tab : ∀ k : Nat, k < 64 → tzTab[(2 ^ k * 285870213051353865 % 18446744073709551616) / 288230376151711744]? = some k := by decide +kernel

/-- The lowest one of a word that is not nought. -/
theorem low_one (x : Nat) (hx : x ≠ 0) (hlt : x < 2 ^ 64) : ∃ k, k < 64 ∧ x.testBit k = true ∧ (∀ i, i < k → x.testBit i = false) ∧ x &&& (2 ^ 64 - x) = 2 ^ k := by
  obtain ⟨i0, hi0⟩ := Nat.exists_testBit_of_ne_zero hx
  have hex : ∃ k, x.testBit k = true ∧ ∀ i, i < k → x.testBit i = false := by
    have key : ∀ n i, i < n → x.testBit i = true → ∃ k, x.testBit k = true ∧ ∀ i, i < k → x.testBit i = false := by
      intro n
      induction n with
      | zero => intro i h; omega
      | succ n ih =>
        intro i hi ht
        by_cases h : ∃ j, j < i ∧ x.testBit j = true
        · obtain ⟨j, hj, hjt⟩ := h
          exact ih j (by omega) hjt
        · refine ⟨i, ht, fun j hj => ?_⟩
          cases hb : x.testBit j
          · rfl
          · exact (h ⟨j, hj, hb⟩).elim
    exact key (i0 + 1) i0 (by omega) hi0
  obtain ⟨k, hk, hlow⟩ := hex
  have hk64 : k < 64 := by
    by_cases h : k < 64
    · exact h
    · have hp : 2 ^ 64 ≤ 2 ^ k := Nat.pow_le_pow_right (by decide) (by omega)
      rw [Nat.testBit_lt_two_pow (Nat.lt_of_lt_of_le hlt hp)] at hk
      cases hk
  refine ⟨k, hk64, hk, hlow, ?_⟩
  have e : 2 ^ 64 - x = 2 ^ 64 - ((x - 1) + 1) := by omega
  have hd : ∀ i, (x - 1).testBit i = if i < k then true else if i = k then false else x.testBit i := by
    -- x = 2^k * (2m + 1)
    have hmod : x % 2 ^ k = 0 := by
      apply Nat.eq_of_testBit_eq
      intro i
      rw [Nat.testBit_mod_two_pow]
      by_cases h : i < k
      · simp [h, hlow i h]
      · simp [h]
    have hodd : x / 2 ^ k % 2 = 1 := by
      rw [Nat.testBit_eq_decide_div_mod_eq] at hk
      simpa using hk
    have hp : 0 < 2 ^ k := Nat.pow_pos (by decide)
    have hx1 : x = 2 ^ k * (x / 2 ^ k) := by
      have := Nat.div_add_mod x (2 ^ k)
      omega
    have hx2 : x - 1 = 2 ^ k * (x / 2 ^ k - 1) + (2 ^ k - 1) := by
      obtain ⟨m, hm⟩ : ∃ m, x / 2 ^ k = m + 1 := by
        generalize x / 2 ^ k = y at hodd
        exact ⟨y - 1, by omega⟩
      rw [hm] at hx1 ⊢
      rw [Nat.mul_add, Nat.mul_one] at hx1
      rw [Nat.add_sub_cancel]
      omega
    intro i
    rw [hx2, Nat.testBit_two_pow_mul_add _ (by omega)]
    by_cases h : i < k
    · simp [h, Nat.testBit_two_pow_sub_one]
    · rw [if_neg h, if_neg h]
      by_cases hik : i = k
      · subst hik
        rw [if_pos rfl, Nat.sub_self, Nat.testBit_zero]
        simp
        generalize x / 2 ^ i = y at hodd
        omega
      · rw [if_neg hik]
        have h1 : x.testBit i = (x / 2 ^ k).testBit (i - k) := by
          rw [Nat.testBit_div_two_pow]
          congr 1
          omega
        rw [h1]
        obtain ⟨j, hj⟩ : ∃ j, i - k = j + 1 := ⟨i - k - 1, by omega⟩
        rw [hj, Nat.testBit_succ, Nat.testBit_succ]
        congr 1
        generalize x / 2 ^ k = y at hodd
        omega
  apply Nat.eq_of_testBit_eq
  intro i
  rw [Nat.testBit_and, Nat.testBit_two_pow, e, Nat.testBit_two_pow_sub_succ (by omega), hd i]
  by_cases h : i < k
  · have : ¬ k = i := by omega
    simp [hlow i h, this]
  · by_cases hik : i = k
    · subst hik
      simp [hk, hk64]
    · have : ¬ k = i := by omega
      simp [h, hik, this]
      intro h1 h2
      exact h1

/-- The place of the lowest one; 64 if there is none. -/
def isTz (x : UInt64) (k : Nat) : Prop := (x = 0 ∧ k = 64) ∨ (k < 64 ∧ x.toNat.testBit k = true ∧ ∀ i, i < k → x.toNat.testBit i = false)

set_option maxHeartbeats 1000000 in
theorem Tz_some (x : UInt64) (hx : x ≠ 0) (w : World) (hT : TabW w) :
    ∃ k, (k < 64 ∧ x.toNat.testBit k = true ∧ ∀ i, i < k → x.toNat.testBit i = false) ∧ Calls Tryz.prog 73 #[.int .u64 (u x)] w fun e w' => e = .returned (.int .i64 k) ∧ w = w' := by
  have hx0 : x.toNat ≠ 0 := fun h => hx (UInt64.toNat_inj.1 (by simpa using h))
  obtain ⟨k, hk, hb, hl, he⟩ := low_one x.toNat hx0 (UInt64.toNat_lt x)
  refine ⟨k, ⟨hk, hb, hl⟩, ?_⟩
  have ht := tz_tab k hk
  obtain ⟨i, hi⟩ : ∃ i, (2 ^ k * 285870213051353865 % 18446744073709551616) / 288230376151711744 = i := ⟨_, rfl⟩
  rw [hi] at ht
  have hcell := hT.at' i k ht
  have hi64 : i < 64 := by rw [← hi]; omega
  obtain ⟨n1, hn1⟩ := ex_int (IntKind.u64.wrap (-(u x)))
  obtain ⟨a1, ha1⟩ := ex_int (bits .and .u64 (u x) n1)
  obtain ⟨m1, hm1⟩ := ex_int (IntKind.u64.wrap (a1 * 285870213051353865))
  have kn : n1 = ((2 ^ 64 - x.toNat : Nat) : Int) := by
    rw [← hn1]
    have := UInt64.toNat_lt x
    simp [IntKind.wrap, IntKind.signed, go_sem, u]
    omega
  have ka : a1 = ((2 ^ k : Nat) : Int) := by
    rw [← ha1, kn, ← he]
    exact u64_and_nat _ _ (UInt64.toNat_lt x) (by have := UInt64.toNat_lt x; omega)
  have km : m1 / 288230376151711744 = (i : Int) := by
    rw [← hm1, ka, ← hi]
    simp [IntKind.wrap, IntKind.signed, go_sem]
  have hne : (u x == 0) = false := by
    simp [u, hx0]
  clear kn ka hT
  go_enter Tryz.func73, Tryz.ntmps73
  go_wp2
  go_ret
  exact ⟨rfl, rfl⟩
end Go.Proofs.YtpebpfaecdmabaaGreatDoor.Bs
/- The bits of a word, rising: plain. -/
namespace Go.Proofs.YtpebpfaecdmabaaGreatDoor.Bs

/-- The places of a word that are one, rising. -/
def placesL (x : Nat) : List Nat := (List.range 64).filter fun i => x.testBit i
theorem clear_low (n t : Nat) (ht : n.testBit t = true) (hl : ∀ i, i < t → n.testBit i = false) (i : Nat) : (n &&& (n - 1)).testBit i = (n.testBit i && decide (i ≠ t)) := by
  have hn : n % 2 ^ t = 0 := by
    apply Nat.eq_of_testBit_eq
    intro j
    rw [Nat.testBit_mod_two_pow, Nat.zero_testBit]
    by_cases h : j < t
    · rw [hl j h]; simp
    · simp [h]
  obtain ⟨q, rfl⟩ : ∃ q, n = 2 ^ t * q := ⟨n / 2 ^ t, by have := Nat.div_add_mod n (2 ^ t); omega⟩
  have hq : q.testBit 0 = true := by
    rw [Nat.testBit_two_pow_mul] at ht
    simpa using ht
  have hodd : q % 2 = 1 := by simpa [Nat.testBit_zero] using hq
  obtain ⟨m, rfl⟩ : ∃ m, q = 2 * m + 1 := ⟨q / 2, by omega⟩
  have hp : 0 < 2 ^ t := Nat.two_pow_pos t
  have e : 2 ^ t * (2 * m + 1) - 1 = 2 ^ t * (2 * m) + (2 ^ t - 1) := by
    rw [Nat.mul_add, Nat.mul_one]
    omega
  rw [Nat.testBit_and, e, Nat.testBit_two_pow_mul_add _ (by omega), Nat.testBit_two_pow_mul]
  by_cases h : i < t
  · have h2 : ¬ t ≤ i := by omega
    simp [h2]
  · rw [if_neg h]
    have h2 : t ≤ i := by omega
    simp only [h2, decide_true, Bool.true_and]
    by_cases h3 : i = t
    · subst h3
      simp [Nat.testBit_zero]
    · obtain ⟨j, hj⟩ : ∃ j, i - t = j + 1 := ⟨i - t - 1, by omega⟩
      rw [hj, Nat.testBit_succ, Nat.testBit_succ, show (2 * m + 1) / 2 = m by omega, show 2 * m / 2 = m by omega]
      simp [h3]
theorem filter_first {p : Nat → Bool} {t : Nat} : ∀ {n a : Nat}, a ≤ t → t < a + n → p t = true → (∀ i, i < t → p i = false) → (List.range' a n).filter p = t :: (List.range' a n).filter (fun i => p i && decide (i ≠ t))
  | 0, a, h1, h2, _, _ => by omega
  | n + 1, a, h1, h2, hp, hl => by
    rw [List.range'_succ, List.filter_cons, List.filter_cons]
    by_cases h : a = t
    · subst h
      rw [hp]
      simp only [if_true, ne_eq, not_true_eq_false, decide_false, Bool.and_false, Bool.false_eq_true, if_false]
      congr 1
      apply List.filter_congr
      intro i hi
      rw [List.mem_range'_1] at hi
      have : i ≠ a := by omega
      simp [this]
    · rw [hl a (by omega)]
      simp only [Bool.false_eq_true, if_false, Bool.false_and]
      exact filter_first (by omega) (by omega) hp hl
theorem places_step (x t : Nat) (h64 : t < 64) (ht : x.testBit t = true) (hl : ∀ i, i < t → x.testBit i = false) : placesL x = t :: placesL (x &&& (x - 1)) := by
  unfold placesL
  rw [List.range_eq_range']
  rw [filter_first (p := fun i => x.testBit i) (Nat.zero_le t) (by omega) ht hl]
  congr 1
  apply List.filter_congr
  intro i _
  rw [clear_low x t ht hl i]
theorem places_zero : placesL 0 = [] := by simp [placesL]
end Go.Proofs.YtpebpfaecdmabaaGreatDoor.Bs
