/- The table of sets: contracts of its methods. -/
import Derived.Test.YtbbiakpieakfoaaRows
import Derived.Test.YtbbiakpieakfoaaM
import Derived.StillTailTactics
import Derived.Deep.RegionHeld3
import Derived.Deep.RegionLaw
import Derived.Deep.AppendLies
namespace Go.Proofs.Ytbbiakpieakfoaa
open Go.RowKit

theorem cells24 : Try.prog.cellsOf 24 = 2 := by kernel_rfl
theorem cells22 : Try.prog.cellsOf 22 = 1 := by kernel_rfl
theorem has22 : (Try.prog.info? 22).isSome = true := by kernel_rfl
theorem zero3 (w : World) : (zeroValue 3).run Try.prog w = .ok (.int .i64 0) w := by kernel_rfl
theorem und24 : Try.prog.underlying 24 = some (.array 2 22) := Try.underlying24

def orB (a b : Bt) : Bt := (a.1 ||| b.1, a.2 ||| b.2)

set_option maxHeartbeats 400000 in
theorem Or_any (a b : Bt) (w : World) :
    Calls Try.prog 19 #[bv a, bv b] w fun e w' => e = .returned (bv (orB a b)) ∧ Below w.heap.size w w' := by
  have h1 := u_or a.1 b.1
  have h2 := u_or a.2 b.2
  go_enter Try.func19, Try.ntmps19
  go_wp2
  exact bodyPost_ret (v := bv (orB a b)) (by simp [results, Try.results19, go_sem, orB]) rfl ⟨rfl, (((Below.refl _ _).alloc (Nat.le_refl _) _).alloc (by simp) _).alloc (by simp; omega) _⟩

/-- A table: its struct in block T, its map in M, its list in g. -/
def Tab (w : World) (T M g : Nat) (sets : List Bt) : Prop :=
  ∃ cap, w.heap[T]? = some (.cells #[.map (some M), .slice (some ⟨g, 0, none⟩) sets.length cap] 55 (0, 0)) ∧ w.heap[M]? = some (.map (entriesFrom 0 sets).toArray sets.length) ∧ w.ownsRow 0 24 2 (.slice (some ⟨g, 0, none⟩) sets.length cap) sets.length (sets.flatMap bc)

theorem insert_new (w : World) : (Instr.mapUpdate 53 (.map (some w.heap.size)) (.agg #[.int .u64 0, .int .u64 0]) (.int .i64 0)).run Try.prog (w.alloc (.map #[] 0)) = .ok () (w.alloc (.map (entriesFrom 0 [(0, 0)]).toArray 1)) := by
  obtain ⟨i, hi⟩ := Option.isSome_iff_exists.1 has22
  have h := run_mapUpdate_bt (P := Try.prog) Try.underlying53 Try.underlying24 Try.underlying22 hi cells22 (0, 0) w.heap.size [] (w.alloc (.map #[] 0)) (by rw [heap_alloc_new]; rfl) rfl
  rw [set_alloc] at h
  exact h

set_option maxHeartbeats 400000 in
theorem New_any (w : World) :
    Calls Try.prog 7 #[] w fun e w' => ∃ T M g, e = .returned (.pointer (some ⟨T, 0, none⟩)) ∧ Below w.heap.size w w' ∧ Tab w' T M g [(0, 0)] ∧ w.heap.size ≤ T ∧ w.heap.size ≤ M ∧ w.heap.size ≤ g := by
  have hmm := @run_makeMap Try.prog
  have hins := insert_new w
  go_enter Try.func7, Try.ntmps7
  go_wp2
  go_ret
  refine ⟨w.heap.size + 1 + 1, w.heap.size, w.heap.size + 1, rfl, (((Below.refl _ _).alloc (Nat.le_refl _) _).alloc (by simp) _).alloc (by simp; omega) _, ⟨1, ?_, ?_, ?_⟩, by omega, by omega, by omega⟩
  · have := heap_alloc_new ((w.alloc (Obj.map (entriesFrom 0 [(0, 0)]).toArray 1)).alloc (Obj.cells #[Value.int IntKind.u64 0, Value.int IntKind.u64 0] 24)) (Obj.cells #[Value.map (some w.heap.size), Value.slice (some ⟨w.heap.size + 1, 0, none⟩) 1 1] 55)
    simpa using this
  · rw [Below.heap_alloc _ _ _ (by simp; omega), Below.heap_alloc _ _ _ (by simp), heap_alloc_new]
    rfl
  · have := (World.ownsRow_lit (base := 0) (e := 24) (size := 2) (w.alloc (Obj.map (entriesFrom 0 [(0, 0)]).toArray 1)) #[Value.int IntKind.u64 0, Value.int IntKind.u64 0] 1 (Nat.zero_le _) (by simp [maxLen]) rfl).alloc (Obj.cells #[Value.map (some w.heap.size), Value.slice (some ⟨w.heap.size + 1, 0, none⟩) 1 1] 55)
    have e : [((0, 0) : Bt)].flatMap bc = [Value.int IntKind.u64 0, Value.int IntKind.u64 0] := rfl
    rw [e]
    simpa using this

/-- The cells of a table, as the walk reads them. -/
theorem Tab.cells {w : World} {T M g : Nat} {sets : List Bt} (h : Tab w T M g sets) : ∃ cap, w.cell? ⟨T, 0, none⟩ = some (.map (some M)) ∧ w.cell? ⟨T, 1, none⟩ = some (.slice (some ⟨g, 0, none⟩) sets.length cap) ∧
    w.frozen? ⟨T, 0, none⟩ = false ∧ w.frozen? ⟨T, 1, none⟩ = false ∧ w.heap[M]? = some (.map (entriesFrom 0 sets).toArray sets.length) ∧ w.ownsRow 0 24 2 (.slice (some ⟨g, 0, none⟩) sets.length cap) sets.length (sets.flatMap bc) := by
  obtain ⟨cap, h1, h2, h3⟩ := h
  exact ⟨cap, by simp [World.cell?, h1], by simp [World.cell?, h1], by simp [World.frozen?, h1], by simp [World.frozen?, h1], h2, h3⟩

theorem Tab.lt {w : World} {T M g : Nat} {sets : List Bt} (h : Tab w T M g sets) : T < w.heap.size ∧ M < w.heap.size ∧ g < w.heap.size := by
  obtain ⟨cap, h1, h2, h3⟩ := h
  refine ⟨(Array.getElem?_eq_some_iff.1 h1).1, (Array.getElem?_eq_some_iff.1 h2).1, (h3.lt g rfl).2⟩

theorem Tab.keep {w w' : World} {T M g : Nat} {sets : List Bt} {S : Nat → Prop} (h : Tab w T M g sets) (hk : Keep S w w') (hT : ¬ S T) (hM : ¬ S M) (hg : ¬ S g) : Tab w' T M g sets := by
  have hlt := h.lt
  obtain ⟨cap, h1, h2, h3⟩ := h
  refine ⟨cap, (hk.block T hlt.1 hT).trans h1, (hk.block M hlt.2.1 hM).trans h2, h3.1, ?_⟩
  rcases h3.2 with ⟨h, _⟩ | ⟨g', cap', cur, he, hb, hh, r⟩
  · cases h
  · right
    refine ⟨g', cap', cur, he, hb, ?_, r⟩
    injection he with he1 he2 he3
    injection he1 with he1
    injection he1 with he1
    subst he1
    exact (hk.block g hlt.2.2 hg).trans hh
theorem Tab.below {w w' : World} {T M g : Nat} {sets : List Bt} (h : Tab w T M g sets) (hb : Below w.heap.size w w') : Tab w' T M g sets :=
  h.keep (Keep.of_below (S := fun _ => False) hb) (by simp) (by simp) (by simp)

/-- The three blocks of a table differ. -/
theorem Tab.apart {w : World} {T M g : Nat} {sets : List Bt} (h : Tab w T M g sets) : T ≠ M ∧ T ≠ g ∧ M ≠ g := by
  obtain ⟨cap, h1, h2, h3⟩ := h
  have hg : ∃ cur, w.heap[g]? = some (.cells cur 24 (0, 0)) := by
    rcases h3.2 with ⟨h, _⟩ | ⟨g', cap', cur, he, hb, hh, r⟩
    · cases h
    · injection he with he1 he2 he3
      injection he1 with he1
      injection he1 with he1
      subst he1
      exact ⟨cur, hh⟩
  obtain ⟨cur, hg⟩ := hg
  refine ⟨fun e => ?_, fun e => ?_, fun e => ?_⟩
  · subst e; rw [h1] at h2; cases h2
  · subst e; rw [h1] at hg; injection hg with hg; injection hg with _ hg; cases hg
  · subst e; rw [h2] at hg; cases hg

/-- What ID answers, and the sets behind it. -/
def idRes (s : Bt) (sets : List Bt) : Nat × Nat × List Bt :=
  match idxFrom 0 s sets with
  | some j => (j, 0, sets)
  | none => if 1024 ≤ sets.length then (0, 7, sets) else (sets.length, 0, sets ++ [s])

theorem lookup_q (s : Bt) (M : Nat) (sets : List Bt) (w : World) (h : w.heap[M]? = some (.map (entriesFrom 0 sets).toArray sets.length)) (n : Nat) :
    (Instr.lookup 53 (.map (some M)) (bv s) true).run Try.prog (w.drewN n) = .ok (.tuple #[.int .i64 (((idxFrom 0 s sets).getD 0 : Nat) : Int), .bool (idxFrom 0 s sets).isSome]) (w.drewN n) := by
  obtain ⟨i, hi⟩ := Option.isSome_iff_exists.1 has22
  exact run_lookup_bt Try.underlying53 zero3 Try.underlying24 Try.underlying22 hi cells22 s M sets (w.drewN n) h

set_option maxHeartbeats 1000000 in
set_option maxRecDepth 100000 in
theorem ID_found (s : Bt) (T M g j : Nat) (sets : List Bt) (w : World) (h : Tab w T M g sets) (hj : idxFrom 0 s sets = some j) :
    Calls Try.prog 9 #[.pointer (some ⟨T, 0, none⟩), bv s] w fun e w' => e = .returned (.tuple #[.int .i64 j, .int .i64 0]) ∧ Below w.heap.size w w' := by
  obtain ⟨cap, c0, c1, _, _, hM, _⟩ := h.cells
  have hlt := h.lt
  have hl := lookup_q s M sets (w.alloc (.cells #[.int .u64 (u s.1), .int .u64 (u s.2)] 24)) (by rw [Below.heap_alloc _ _ _ hlt.2.1]; exact hM)
  rw [hj] at hl
  simp only [Option.getD_some, Option.isSome_some] at hl
  clear hM
  go_enter Try.func9, Try.ntmps9
  go_wp2
  go_quiet (fail)
  go_wp2
  go_ret2
  exact ⟨rfl, below_drewN ((Below.refl _ _).alloc (Nat.le_refl _) _) _⟩

theorem bc_ones (sets : List Bt) (s : Bt) : ∀ u ∈ [s].flatMap bc, u.oneCell' = true := by
  intro u hu
  simp only [List.flatMap_cons, List.flatMap_nil, List.append_nil] at hu
  exact bc_one s u hu

theorem info24 : (Try.prog.info? 24).map (fun i => (i.zero, i.size, i.bytes)) = some (some (.agg #[.int .u64 0, .int .u64 0]), 2, 16) := by kernel_rfl

set_option maxHeartbeats 1000000 in
set_option maxRecDepth 100000 in
theorem ID_full (s : Bt) (T M g : Nat) (sets : List Bt) (w : World) (h : Tab w T M g sets) (hj : idxFrom 0 s sets = none) (hn : 1024 ≤ sets.length) :
    Calls Try.prog 9 #[.pointer (some ⟨T, 0, none⟩), bv s] w fun e w' => e = .returned (.tuple #[.int .i64 0, .int .i64 7]) ∧ Below w.heap.size w w' := by
  obtain ⟨cap, c0, c1, _, _, hM, _⟩ := h.cells
  have hlt := h.lt
  have hl := lookup_q s M sets (w.alloc (.cells #[.int .u64 (u s.1), .int .u64 (u s.2)] 24)) (by rw [Below.heap_alloc _ _ _ hlt.2.1]; exact hM)
  rw [hj] at hl
  simp only [Option.getD_none, Option.isSome_none] at hl
  clear hM
  go_enter Try.func9, Try.ntmps9
  go_wp2
  go_quiet (fail)
  go_wp2
  go_ret2
  exact ⟨rfl, below_drewN ((Below.refl _ _).alloc (Nat.le_refl _) _) _⟩

theorem heap_setCell_at (w : World) (b o : Nat) (v : Value) (cs : Array Value) (t : TypeId) (fr : Nat × Nat) (h : w.heap[b]? = some (.cells cs t fr)) : (w.setCell ⟨b, o, none⟩ v).heap[b]? = some (.cells (cs.setIfInBounds o v) t fr) := by
  simp [World.setCell, Array.getElem?_modify, h]

theorem ID_close (s : Bt) (T M g gg cap2 : Nat) (sets : List Bt) (w W W2 w1 : World) (h : Tab w T M g sets) (KW : Keep (fun _ => False) w W)
    (K2 : Keep (fun k => k = M) W W2 ∧ W2.heap[M]? = some (.map (entriesFrom 0 (sets ++ [s])).toArray (sets ++ [s]).length)) {o : Obj} (hgrow : (W2.alloc o).drew.grownBy w1 (some g))
    (hown1 : w1.ownsRow 0 24 2 (.slice (some ⟨gg, 0, none⟩) (sets.length + 1) cap2) (sets.length + 1) (sets.flatMap bc ++ bc s)) (hat : g = gg ∨ gg = W2.heap.size + 1) :
    ∃ g', Tab (w1.setCell ⟨T, 1, none⟩ (.slice (some ⟨gg, 0, none⟩) (sets.length + 1) cap2)) T M g' (sets ++ [s]) ∧ Keep (fun k => k = T ∨ k = M ∨ k = g) w (w1.setCell ⟨T, 1, none⟩ (.slice (some ⟨gg, 0, none⟩) (sets.length + 1) cap2)) ∧ (g' = g ∨ w.heap.size ≤ g') := by
  have aT := h.apart
  have hlt := h.lt
  have KW2 : Keep (fun k => k = M) w W2 := (KW.mono (by simp)).trans K2.1
  have K1 : Keep (fun k => k = M ∨ k = g) w w1 := by
    refine ((KW2.mono (fun k _ hk => .inl hk)).alloc o).drewN 1 |>.grown (row := some g) hgrow (fun k hk => ?_)
    injection hk with hk; subst hk; exact .inl (.inr rfl)
  obtain ⟨cap, h1, h2, h3⟩ := h
  have hT1 := K1.obj h1 (by rintro (e | e); exact aT.1 e; exact aT.2.1 e)
  have hM1 : w1.heap[M]? = some (.map (entriesFrom 0 (sets ++ [s])).toArray (sets ++ [s]).length) := by
    have hM2 := (Array.getElem?_eq_some_iff.1 K2.2).1
    rw [hgrow.block M (by show M < (W2.alloc o).heap.size; simp; omega) (by simp; exact aT.2.2)]
    show (W2.alloc o).heap[M]? = _
    rw [Below.heap_alloc _ _ _ hM2]
    exact K2.2
  have hgT : gg ≠ T := by
    intro e
    obtain ⟨cur, hc⟩ := owns_cells hown1
    rw [e, hT1] at hc
    injection hc with hc; injection hc with _ hc; cases hc
  refine ⟨gg, ⟨cap2, ?_, ?_, ?_⟩, ?_, ?_⟩
  · rw [heap_setCell_at _ _ _ _ _ _ _ hT1]; simp
  · rw [Below.heap_setCell _ _ _ _ (Ne.symm aT.1)]; exact hM1
  · have Ks : Keep (fun k => k = T) w1 (w1.setCell ⟨T, 1, none⟩ (.slice (some ⟨gg, 0, none⟩) (sets.length + 1) cap2)) := (Keep.refl _ _).setCell _ _ (.inl rfl)
    have := Ks.owns hown1 (by intro k hk; simp [Value.ownBlock] at hk; subst hk; exact hgT)
    simpa using this
  · exact (K1.mono (fun k _ hk => .inr hk)).setCell _ _ (.inl (.inl rfl))
  · rcases hat with e | e
    · exact .inl e.symm
    · right; have := KW2.size; omega

set_option maxHeartbeats 1000000 in
set_option maxRecDepth 100000 in
theorem ID_new (s : Bt) (T M g : Nat) (sets : List Bt) (w : World) (h : Tab w T M g sets) (hj : idxFrom 0 s sets = none) (hn : sets.length < 1024) :
    Calls Try.prog 9 #[.pointer (some ⟨T, 0, none⟩), bv s] w fun e w' => e = .returned (.tuple #[.int .i64 sets.length, .int .i64 0]) ∧
      ∃ g', Tab w' T M g' (sets ++ [s]) ∧ Keep (fun k => k = T ∨ k = M ∨ k = g) w w' ∧ (g' = g ∨ w.heap.size ≤ g') := by
  obtain ⟨cap, c0, c1, f0, f1, hM, hown⟩ := h.cells
  have hlt := h.lt
  have hl := lookup_q s M sets (w.alloc (.cells #[.int .u64 (u s.1), .int .u64 (u s.2)] 24)) (by rw [Below.heap_alloc _ _ _ hlt.2.1]; exact hM)
  rw [hj] at hl
  simp only [Option.getD_none, Option.isSome_none] at hl
  go_enter Try.func9, Try.ntmps9
  go_wp2
  go_quiet (fail)
  go_wp2
  obtain ⟨W, hW⟩ : ∃ W, W = (w.alloc (.cells #[.int .u64 (u s.1), .int .u64 (u s.2)] 24)).drewN nq := ⟨_, rfl⟩
  have KW : Keep (fun _ => False) w W := by rw [hW]; exact ((Keep.refl _ _).alloc _).drewN _
  have cT0 := KW.cell c0 (by simp)
  have cb0 : W.cell? ⟨w.heap.size, 0, none⟩ = some (.int .u64 (u s.1)) := by rw [hW]; simp
  have cb1 : W.cell? ⟨w.heap.size, 1, none⟩ = some (.int .u64 (u s.2)) := by rw [hW]; simp
  have HS := Lib.hid (show W.heap.size = w.heap.size + 1 by rw [hW]; show (w.alloc _).heap.size = _; simp)
  rw [← hW]
  clear hW
  obtain ⟨W2, hup, K2⟩ : ∃ W2, (Instr.mapUpdate 53 (.map (some M)) (.agg #[.int .u64 (u s.1), .int .u64 (u s.2)]) (.int .i64 (sets.length : Int))).run Try.prog W.drew = .ok () W2 ∧ Hid (Keep (fun k => k = M) W W2 ∧ W2.heap[M]? = some (.map (entriesFrom 0 (sets ++ [s])).toArray (sets ++ [s]).length)) := by
    obtain ⟨i, hi⟩ := Option.isSome_iff_exists.1 has22
    have hMW : W.drew.heap[M]? = some (.map (entriesFrom 0 sets).toArray sets.length) := KW.obj hM (by simp)
    refine ⟨_, run_mapUpdate_bt (P := Try.prog) Try.underlying53 Try.underlying24 Try.underlying22 hi cells22 s M sets W.drew hMW hj, ?_⟩
    refine ⟨Keep.setObj ((Keep.refl _ W).drewN 1) M _ (.inl rfl), ?_⟩
    have hlt2 := (Array.getElem?_eq_some_iff.1 hMW).1
    simp only [Array.getElem?_setIfInBounds, if_pos hlt2, if_true]
  clear hl hM
  have aT := h.apart
  have KW2 : Keep (fun k => k = M) w W2 := (KW.mono (by simp)).trans K2.out.1
  have cT1 := KW2.cell c1 aT.1
  have fT1 := KW2.unfrozen hlt.1 f1 aT.1
  have cB0 := K2.out.1.cell cb0 (by simp; omega)
  have cB1 := K2.out.1.cell cb1 (by simp; omega)
  have hown2 := KW2.owns hown (by intro k hk; simp [Value.ownBlock] at hk; subst hk; exact fun e => aT.2.2 e.symm)
  have sz2 : w.heap.size + 1 ≤ W2.heap.size := by rw [← HS.out]; exact K2.out.1.size
  have cT2 := KW2.cell c0 aT.1
  go_region_held3 (fun w' => w'.cell? ⟨T, 0, none⟩ = some (.map (some M)) ∧ w'.cell? ⟨w.heap.size, 0, none⟩ = some (.int .u64 (u s.1)) ∧ w'.cell? ⟨w.heap.size, 1, none⟩ = some (.int .u64 (u s.2))) (go_keep) (fail)
  clear c0 c1 f0 f1 cT0 cb0 cb1 hup
  go_wp2_with fail
  obtain ⟨i0, hi0, hz0, hz1, hz2⟩ := info_parts info24
  have hgT : (Value.slice (some ⟨g, 0, none⟩) sets.length cap).ownBlock ≠ some T := by simp [Value.ownBlock]; exact fun e => aT.2.1 e.symm
  have hgB : (Value.slice (some ⟨g, 0, none⟩) sets.length cap).ownBlock ≠ some w.heap.size := by simp [Value.ownBlock]; omega
  have hcA : (W2.alloc (.cells #[.int .u64 (u s.1), .int .u64 (u s.2)] 24)).cell? ⟨T, 1, none⟩ = some (.slice (some ⟨g, 0, none⟩) sets.length cap) := (World.cell?_alloc_past _ _ _ (show T < _ by omega)).trans cT1
  go_region_law ((refine step_append_lies _ (by rfl) _ _ _ (by rfl) 0 24 i0 _ 2 16 Try.underlying39 hi0 hz0 hz1 hz2 rfl (by omega) (.slice (some ⟨g, 0, none⟩) sets.length cap) sets.length (sets.flatMap bc) (by rfl) ((hown2.alloc _).drew) ⟨W2.heap.size, 0, none⟩ 1 1 (bc s) (by rfl) (by rfl) (World.news_of_block (cs := #[.int .u64 (u s.1), .int .u64 (u s.2)]) (t := 24) (fr := (0, 0)) (heap_alloc_new W2 _)) (bc_one s) (by omega) (by unfold maxLen; omega) (by omega) (by omega) (W2.heap.size + 1) (by simp) ?_; intro gg cap2 w1 hown1 hgrow hat hlt1; have fw1 : w1.frozen? ⟨T, 1, none⟩ = false := (hgrow.frozen_far ⟨T, 1, none⟩ (show T < _ by simp; omega) (Ne.symm hgT)).trans (World.frozen?_alloc_past _ _ _ (show T < _ by omega) |>.trans fT1); have cw1 : w1.cell? ⟨T, 1, none⟩ = some (.slice (some ⟨g, 0, none⟩) sets.length cap) := (hgrow.cell_far ⟨T, 1, none⟩ (show T < _ by simp; omega) (Ne.symm hgT)).trans ((World.cell?_alloc_past _ _ _ (show T < _ by omega)).trans cT1); have hTw : T < w1.heap.size := by have := hgrow.size; simp at this; omega))
  all_goals
    go_wp2
    go_ret2
    exact ⟨rfl, ID_close s T M g gg cap2 sets w W W2 w1 h KW K2.out hgrow (by simpa using hown1) (by simpa [Value.ownBlock] using hat)⟩
end Go.Proofs.Ytbbiakpieakfoaa
