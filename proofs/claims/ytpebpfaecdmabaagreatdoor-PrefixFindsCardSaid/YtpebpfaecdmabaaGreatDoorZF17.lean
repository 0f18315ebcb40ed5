/- Parts of this proof, joined. -/
import Derived.Test.YtpebpfaecdmabaaGreatDoorZF16
/- The search for a prefix in a sound table. -/
namespace Go.Proofs.YtpebpfaecdmabaaGreatDoor
open Go Go.RowKit PL

set_option maxHeartbeats 4000000 in
set_option maxRecDepth 100000 in
theorem find1_any (r : Rt) (b m : Int) (w : World) : Calls Tryz.prog 14 #[rtv r, pfx b m] w fun e w' => e = .returned (.int .i64 (sgnP r.a r.n b m)) ∧ Below w.heap.size w w' := by
  have hA := (Below.refl _ w).alloc (Nat.le_refl _) (.cells #[.int .u32 r.a, .int .i64 r.n, .int .i64 r.m, .int .u64 (u r.o), .int .u64 (u r.p), .int .u64 (u r.h), .int .u64 (u r.k)] 30)
  have hA2 := hA.alloc hA.size (.cells #[.int .u32 b, .int .i64 m] 25)
  go_enter Tryz.func14, Tryz.ntmps14
  go_wp2_with (go_at_call 15; refine (compare_pfx _ _ _ _ _).mono ?_; rintro e w' ⟨rfl, hb⟩)
  go_ret
  exact ⟨rfl, hA2.trans (hb.mono hA2.size)⟩
theorem sgn_lt' (a n b m : Int) : sgnP a n b m < 0 ↔ ltP a n b m := by
  have h1 := sgn_lt a n b m
  have h2 := bef_lt a n b m
  rw [← h1, decide_eq_true_eq] at h2
  exact h2
theorem sgn_zero (a n b m : Int) : (sgnP a n b m == 0) = decide (a = b ∧ n = m) := by
  rw [Bool.eq_iff_iff]
  simp only [beq_iff_eq, decide_eq_true_eq]
  unfold sgnP
  split
  · exact ⟨fun h => by omega, fun h => by omega⟩
  · split
    · exact ⟨fun h => by omega, fun h => by omega⟩
    · split
      · exact ⟨fun h => by omega, fun h => by omega⟩
      · split
        · exact ⟨fun h => by omega, fun h => by omega⟩
        · exact ⟨fun h => by omega, fun h => rfl⟩
set_option maxHeartbeats 8000000 in
set_option maxRecDepth 100000 in
theorem search_rt (v : Value) (rs : List Rt) (a n : Int) (w : World) (h : RtS w v rs) (hl : rs.length ≤ 4398046511104) (hs : sdT rs = true) :
    Calls Tryz.prog 13 #[v, pfx a n, .func (.func 14) #[] #[]] w fun e w' => ∃ i f, e = .returned (.tuple #[.int .i64 (i : Nat), .bool f]) ∧ SpotP rs a n i f ∧ Below w.heap.size w w' := by
  obtain ⟨b, cap, rfl, hm, hc⟩ := h.form
  have hlt2 := sdT_lt' hs
  have hA := (Below.refl _ w).alloc (Nat.le_refl _) (.cells #[.int .u32 a, .int .i64 n] 25)
  have k0 := box_new w #[.int .u32 a, .int .i64 n] 25 0 (.int .u32 a) rfl
  have k1 := box_new w #[.int .u32 a, .int .i64 n] 25 1 (.int .i64 n) rfl
  clear hs
  have HT := Lib.hid hlt2
  clear hlt2
  go_enter Tryz.func13, Tryz.ntmps13
  go_wp2_with fail
  have hc1 := RecS.below hc hA
  clear hc h
  generalize hB : w.heap.size = B at *
  generalize w.alloc _ = w1 at *
  have HB := Lib.hid hB
  clear hB
  go_loopw [9, 10] (fun x y wr => ∃ i j : Nat, x = .int .i64 i ∧ y = .int .i64 j ∧ i ≤ j ∧ j ≤ rs.length ∧ Below w1.heap.size w1 wr ∧ (∀ (m : Nat) (h : m < rs.length), m < i → ltP rs[m].a rs[m].n a n) ∧ (∀ (m : Nat) (h : m < rs.length), j ≤ m → ¬ ltP rs[m].a rs[m].n a n)) (fun x y _ => (kO y).toNat - (kO x).toNat)
  case atStart => exact ⟨0, rs.length, rfl, rfl, Nat.zero_le _, Nat.le_refl _, Below.refl _ _, fun m h h2 => by omega, fun m h h2 => by omega⟩
  case round =>
    obtain ⟨i, j, rfl, rfl, hij, hj, hb, hlo, hhi⟩ := hrel
    have c0 := (hb.cell (World.block_lt_of_cell? _ _ k0)).trans k0
    have c1 := (hb.cell (World.block_lt_of_cell? _ _ k1)).trans k1
    by_cases hlt : i < j
    · have hh : (i + j) / 2 < rs.length := by omega
      obtain ⟨K, off, rfl, r0, r1, r2, r3, r4, r5, r6⟩ := RtS.row (RecS.below hc1 hb) ((i + j) / 2) hh
      by_cases ht : ltP rs[(i + j) / 2].a rs[(i + j) / 2].n a n
      · have hlo' : ∀ (m : Nat) (h : m < rs.length), m < (i + j) / 2 + 1 → ltP rs[m].a rs[m].n a n := fun m h h2 => by
          by_cases e : m = (i + j) / 2
          · subst e; exact ht
          · exact ltP_trans (HT.out m _ hh (by omega)) ht
        generalize rs[(i + j) / 2] = r at *
        have hcm := (sgn_lt' r.a r.n a n).2 ht
        have HL := Lib.hid hlo'
        have HH := Lib.hid hhi
        clear hlo' hlo hhi ht
        go_upto_region 5 with fail
        have q0 := fun n : ExtW wr => exw_cell r0 n
        have q1 := fun n : ExtW wr => exw_cell r1 n
        have q2 := fun n : ExtW wr => exw_cell r2 n
        have q3 := fun n : ExtW wr => exw_cell r3 n
        have q4 := fun n : ExtW wr => exw_cell r4 n
        have q5 := fun n : ExtW wr => exw_cell r5 n
        have q6 := fun n : ExtW wr => exw_cell r6 n
        have d0 := fun n : ExtW wr => exw_cell c0 n
        have d1 := fun n : ExtW wr => exw_cell c1 n
        clear r0 r1 r2 r3 r4 r5 r6 c0 c1
        refine region_ext (by kernel_rfl) (by kernel_rfl) ?_
        repeat (go_big_quiet_step ((go_at_call 14; exact ext_call (find1_any _ _ _ _))))
        refine wpQuiet_nil ?_
        rintro _ ⟨nq, rfl⟩
        clear q0 q1 q2 q3 q4 q5 q6 d0 d1
        have hbn := hb.trans ((exw_below nq).mono hb.size)
        generalize sgnP r.a r.n a n = cc at hcm ⊢
        go_wp2_with fail
        go_roundw
        case rel => exact ⟨(i + j) / 2 + 1, j, by go_num, rfl, by omega, by omega, hbn, HL.out, HH.out⟩
        case measure => simp only [kO]; omega
      · have hhi' : ∀ (m : Nat) (h : m < rs.length), (i + j) / 2 ≤ m → ¬ ltP rs[m].a rs[m].n a n := fun m h h2 => by
          by_cases e : m = (i + j) / 2
          · subst e; exact ht
          · exact fun h3 => ht (ltP_trans (HT.out _ m h (by omega)) h3)
        generalize rs[(i + j) / 2] = r at *
        have hcm : ¬ sgnP r.a r.n a n < 0 := fun h => ht ((sgn_lt' r.a r.n a n).1 h)
        have HL := Lib.hid hlo
        have HH := Lib.hid hhi'
        clear hhi' hlo hhi ht
        go_upto_region 5 with fail
        have q0 := fun n : ExtW wr => exw_cell r0 n
        have q1 := fun n : ExtW wr => exw_cell r1 n
        have q2 := fun n : ExtW wr => exw_cell r2 n
        have q3 := fun n : ExtW wr => exw_cell r3 n
        have q4 := fun n : ExtW wr => exw_cell r4 n
        have q5 := fun n : ExtW wr => exw_cell r5 n
        have q6 := fun n : ExtW wr => exw_cell r6 n
        have d0 := fun n : ExtW wr => exw_cell c0 n
        have d1 := fun n : ExtW wr => exw_cell c1 n
        clear r0 r1 r2 r3 r4 r5 r6 c0 c1
        refine region_ext (by kernel_rfl) (by kernel_rfl) ?_
        repeat (go_big_quiet_step ((go_at_call 14; exact ext_call (find1_any _ _ _ _))))
        refine wpQuiet_nil ?_
        rintro _ ⟨nq, rfl⟩
        clear q0 q1 q2 q3 q4 q5 q6 d0 d1
        have hbn := hb.trans ((exw_below nq).mono hb.size)
        have hcm2 : decide (sgnP r.a r.n a n < 0) = false := by simpa using hcm
        clear hcm
        generalize sgnP r.a r.n a n = cc at hcm2 ⊢
        go_wp2_with fail
        go_roundw
        case rel => exact ⟨i, (i + j) / 2, rfl, by go_num, by omega, by omega, hbn, HL.out, HH.out⟩
        case measure => simp only [kO]; omega
    · have e : i = j := by omega
      subst e
      by_cases hin : i < rs.length
      · obtain ⟨K, off, rfl, r0, r1, r2, r3, r4, r5, r6⟩ := RtS.row (RecS.below hc1 hb) i hin
        have hsp : SpotP rs a n i (decide (rs[i].a = a ∧ rs[i].n = n)) := ⟨hj, hlo, hhi, ⟨fun h => ⟨hin, by simpa using h⟩, fun ⟨_, h⟩ => by simpa using h⟩⟩
        have HS := Lib.hid hsp
        clear hsp hlo hhi
        generalize rs[i] = r at *
        have hz := sgn_zero r.a r.n a n
        generalize decide (r.a = a ∧ r.n = n) = f at *
        have HZ := Lib.hid hz
        clear hz
        go_upto_region 8 with fail
        have q0 := fun n : ExtW wr => exw_cell r0 n
        have q1 := fun n : ExtW wr => exw_cell r1 n
        have q2 := fun n : ExtW wr => exw_cell r2 n
        have q3 := fun n : ExtW wr => exw_cell r3 n
        have q4 := fun n : ExtW wr => exw_cell r4 n
        have q5 := fun n : ExtW wr => exw_cell r5 n
        have q6 := fun n : ExtW wr => exw_cell r6 n
        have d0 := fun n : ExtW wr => exw_cell c0 n
        have d1 := fun n : ExtW wr => exw_cell c1 n
        clear r0 r1 r2 r3 r4 r5 r6 c0 c1
        refine region_ext (by kernel_rfl) (by kernel_rfl) ?_
        repeat (go_big_quiet_step ((go_at_call 14; exact ext_call (find1_any _ _ _ _))))
        refine wpQuiet_nil ?_
        rintro _ ⟨nq, rfl⟩
        clear q0 q1 q2 q3 q4 q5 q6 d0 d1
        have hbn := hb.trans ((exw_below nq).mono hb.size)
        have hz := HZ.out
        clear HZ
        generalize sgnP r.a r.n a n = cc at hz ⊢
        go_wp2_with fail
        go_ret2
        exact ⟨i, (cc == 0), rfl, by rw [hz]; exact HS.out, by rw [HB.out]; exact hA.trans (hbn.mono (by rw [← HB.out] at hA ⊢; exact hA.size))⟩
      · have hsp : SpotP rs a n i false := ⟨hj, hlo, hhi, ⟨fun h => (nomatch h), fun ⟨h, _⟩ => absurd h hin⟩⟩
        have HS := Lib.hid hsp
        clear hsp hlo hhi
        go_upto_region 8 with fail
        refine region_ext (by kernel_rfl) (by kernel_rfl) ?_
        repeat (go_big_quiet_step (fail))
        refine wpQuiet_nil ?_
        rintro _ ⟨nq, rfl⟩
        have hbn := hb.trans ((exw_below nq).mono hb.size)
        go_wp2_with fail
        go_ret2
        exact ⟨i, false, rfl, HS.out, by rw [HB.out]; exact hA.trans (hbn.mono (by rw [← HB.out] at hA ⊢; exact hA.size))⟩
end Go.Proofs.YtpebpfaecdmabaaGreatDoor
/- Find of a table. -/
namespace Go.Proofs.YtpebpfaecdmabaaGreatDoor
open Go Go.RowKit PL

def hasP (a n : Int) (r : Rt) : Bool := r.a == a && r.n == n
def findR (rs : List Rt) (a n : Int) : Rt × Int :=
  if sdT rs = true then (if okP a n = true then (match rs.find? (hasP a n) with
    | some r => (r, 0)
    | none => (Rt.zero, 8)) else (Rt.zero, 2)) else (Rt.zero, 1)
theorem find_at {rs : List Rt} (hs : sdT rs = true) {a n : Int} {i : Nat} (hi : i < rs.length) (h1 : rs[i].a = a) (h2 : rs[i].n = n) : rs.find? (hasP a n) = some rs[i] := by
  rw [List.find?_eq_some_iff_getElem]
  refine ⟨by simp [hasP, h1, h2], i, hi, rfl, fun j hj => ?_⟩
  have := sdT_lt' hs j i hi hj
  unfold ltP at this
  simp only [hasP, Bool.not_eq_true', Bool.and_eq_false_iff, beq_eq_false_iff_ne]
  omega
theorem find_none {rs : List Rt} {a n : Int} (h : ∀ (j : Nat) (hj : j < rs.length), ¬ (rs[j].a = a ∧ rs[j].n = n)) : rs.find? (hasP a n) = none := by
  rw [List.find?_eq_none]
  intro r hr
  obtain ⟨j, hj, rfl⟩ := List.getElem_of_mem hr
  have := h j hj
  simp only [hasP, Bool.and_eq_true, beq_iff_eq]
  exact this
theorem findR_1 {rs : List Rt} {a n : Int} (h : sdT rs = false) : findR rs a n = (Rt.zero, 1) := by unfold findR; rw [h]; rfl
theorem findR_2 {rs : List Rt} {a n : Int} (h : sdT rs = true) (h2 : okP a n = false) : findR rs a n = (Rt.zero, 2) := by unfold findR; rw [h, h2]; rfl
theorem findR_8 {rs : List Rt} {a n : Int} {i : Nat} (h : sdT rs = true) (h2 : okP a n = true) (hp : SpotP rs a n i false) : findR rs a n = (Rt.zero, 8) := by
  unfold findR; rw [if_pos h, if_pos h2, find_none (hp.none h)]
theorem findR_0 {rs : List Rt} {a n : Int} {i : Nat} (h : sdT rs = true) (h2 : okP a n = true) (hp : SpotP rs a n i true) : ∃ hi : i < rs.length, findR rs a n = (rs[i], 0) := by
  obtain ⟨hi, e1, e2⟩ := hp.hit.1 rfl
  refine ⟨hi, ?_⟩
  unfold findR; rw [if_pos h, if_pos h2, find_at h hi e1 e2]
theorem res20 (w : World) (tmps : Array Value) (B : Nat) (v x0 x1 x2 x3 x4 x5 x6 : Value) (hp : tmps.getD 4 undef = .pointer (some ⟨B, 0, none⟩)) (hv : tmps.getD 5 undef = v)
    (h0 : w.cell? ⟨B, 0, none⟩ = some x0) (h1 : w.cell? ⟨B, 1, none⟩ = some x1) (h2 : w.cell? ⟨B, 2, none⟩ = some x2) (h3 : w.cell? ⟨B, 3, none⟩ = some x3) (h4 : w.cell? ⟨B, 4, none⟩ = some x4) (h5 : w.cell? ⟨B, 5, none⟩ = some x5) (h6 : w.cell? ⟨B, 6, none⟩ = some x6) :
    (results Tryz.f4 tmps).run Tryz.prog w = .ok (.tuple #[.agg #[x0, x1, x2, x3, x4, x5, x6], v]) w := by
  rw [Array.getD_eq_getD_getElem?] at hp hv
  simp only [results, Tryz.results4]
  simp [go_sem, hp, hv, h0, h1, h2, h3, h4, h5, h6]
theorem Sound_is (v : Value) (rs : List Rt) (w : World) (h : RtS w v rs) (hl : rs.length ≤ 4398046511104) (hr : ∀ r ∈ rs, r.in32) {x : Int} (hx : sdE rs = x) : Calls Tryz.prog 9 #[v] w fun e w' => e = .returned (.int .i64 x) ∧ Below w.heap.size w w' := by
  rw [← hx]; exact Sound_any v rs w h hl hr
theorem Check_is {a n : Int} (ha : 0 ≤ a) (ha2 : a < 4294967296) (w : World) {x : Int} (hx : okE a n = x) : Calls Tryz.prog 12 #[pfx a n] w fun e w' => e = .returned (.int .i64 x) ∧ Below w.heap.size w w' := by
  rw [← hx]; exact Check_pfx ha ha2 w
theorem sdE_yes {rs : List Rt} (h : sdT rs = true) : sdE rs = 0 := by unfold sdE; rw [if_pos h]
theorem sdE_not {rs : List Rt} (h : sdT rs = false) : sdE rs = 1 := by unfold sdE; rw [h]; rfl
theorem set7 {w : World} {B t : Nat} {y0 y1 y2 y3 y4 y5 y6 : Value} (h : w.heap[B]? = some (.cells #[y0, y1, y2, y3, y4, y5, y6] t (0, 0))) (x0 x1 x2 x3 x4 x5 x6 : Value) :
    (((((((w.setCell ⟨B, 0, none⟩ x0).setCell ⟨B, 1, none⟩ x1).setCell ⟨B, 2, none⟩ x2).setCell ⟨B, 3, none⟩ x3).setCell ⟨B, 4, none⟩ x4).setCell ⟨B, 5, none⟩ x5).setCell ⟨B, 6, none⟩ x6).heap[B]? = some (.cells #[x0, x1, x2, x3, x4, x5, x6] t (0, 0)) := by
  rw [It.heap_setCell_at _ _ _ _ _ _ _ (It.heap_setCell_at _ _ _ _ _ _ _ (It.heap_setCell_at _ _ _ _ _ _ _ (It.heap_setCell_at _ _ _ _ _ _ _ (It.heap_setCell_at _ _ _ _ _ _ _ (It.heap_setCell_at _ _ _ _ _ _ _ (It.heap_setCell_at _ _ _ _ _ _ _ h))))))]
  rfl
theorem below7 {C B : Nat} {w0 w : World} (h : Below C w0 w) (hB : C ≤ B) (x0 x1 x2 x3 x4 x5 x6 : Value) :
    Below C w0 (((((((w.setCell ⟨B, 0, none⟩ x0).setCell ⟨B, 1, none⟩ x1).setCell ⟨B, 2, none⟩ x2).setCell ⟨B, 3, none⟩ x3).setCell ⟨B, 4, none⟩ x4).setCell ⟨B, 5, none⟩ x5).setCell ⟨B, 6, none⟩ x6) :=
  ((((((h.setCell (p := ⟨B, 0, none⟩) hB x0).setCell (p := ⟨B, 1, none⟩) hB x1).setCell (p := ⟨B, 2, none⟩) hB x2).setCell (p := ⟨B, 3, none⟩) hB x3).setCell (p := ⟨B, 4, none⟩) hB x4).setCell (p := ⟨B, 5, none⟩) hB x5).setCell (p := ⟨B, 6, none⟩) hB x6
/-- The block that a route's result is written to. -/
structure Box7 (w : World) (B : Nat) (x0 x1 x2 x3 x4 x5 x6 : Value) : Prop where
  out : w.heap[B]? = some (.cells #[x0, x1, x2, x3, x4, x5, x6] 30 (0, 0))
theorem Box7.below {w w2 : World} {B : Nat} {x0 x1 x2 x3 x4 x5 x6 : Value} (h : Box7 w B x0 x1 x2 x3 x4 x5 x6) (b : Below w.heap.size w w2) : Box7 w2 B x0 x1 x2 x3 x4 x5 x6 :=
  ⟨(b.block _ (Array.getElem?_eq_some_iff.1 h.out).1).trans h.out⟩
theorem Box7.res20 {w : World} {B : Nat} {x0 x1 x2 x3 x4 x5 x6 : Value} (h : Box7 w B x0 x1 x2 x3 x4 x5 x6) (tmps : Array Value) (v : Value) (hp : tmps.getD 4 undef = .pointer (some ⟨B, 0, none⟩)) (hv : tmps.getD 5 undef = v) :
    (results Tryz.f4 tmps).run Tryz.prog w = .ok (.tuple #[.agg #[x0, x1, x2, x3, x4, x5, x6], v]) w :=
  Go.Proofs.YtpebpfaecdmabaaGreatDoor.res20 w tmps B v _ _ _ _ _ _ _ hp hv (cell_at h.out rfl) (cell_at h.out rfl) (cell_at h.out rfl) (cell_at h.out rfl) (cell_at h.out rfl) (cell_at h.out rfl) (cell_at h.out rfl)
abbrev zeroB (w : World) (B : Nat) : Prop := Box7 w B (.int .u32 0) (.int .i64 0) (.int .i64 0) (.int .u64 0) (.int .u64 0) (.int .u64 0) (.int .u64 0)
theorem rtv_zero : rtv Rt.zero = .agg #[.int .u32 0, .int .i64 0, .int .i64 0, .int .u64 0, .int .u64 0, .int .u64 0, .int .u64 0] := rfl
set_option maxHeartbeats 8000000 in
set_option maxRecDepth 100000 in
theorem Find_any (v : Value) (rs : List Rt) (a n : Int) (w : World) (h : RtS w v rs) (hl : rs.length ≤ 4398046511104) (hr : ∀ r ∈ rs, r.in32) (ha : 0 ≤ a) (ha2 : a < 4294967296) :
    Calls Tryz.prog 4 #[v, pfx a n] w fun e w' => e = .returned (.tuple #[rtv (findR rs a n).1, .int .i64 (findR rs a n).2]) ∧ Below w.heap.size w w' := by
  obtain ⟨b, cap, rfl, hm, hc⟩ := h.form
  have hA := (Below.refl _ w).alloc (Nat.le_refl _) (.cells #[.int .u32 a, .int .i64 n] 25)
  have k0 := box_new w #[.int .u32 a, .int .i64 n] 25 0 (.int .u32 a) rfl
  have k1 := box_new w #[.int .u32 a, .int .i64 n] 25 1 (.int .i64 n) rfl
  go_enter Tryz.func4, Tryz.ntmps4
  go_upto_region 1 with fail
  have hs : (w.alloc (.cells #[.int .u32 a, .int .i64 n] 25)).heap.size = w.heap.size + 1 := by simp
  have hc1 := RecS.below hc hA
  clear hc h
  have hw := hA.size
  generalize w.alloc (.cells #[.int .u32 a, .int .i64 n] 25) = w1 at *
  rw [← hs]
  have hA1 := (Below.refl _ w1).alloc (Nat.le_refl _) (.cells #[.int .u32 0, .int .i64 0, .int .i64 0, .int .u64 0, .int .u64 0, .int .u64 0, .int .u64 0] 30)
  have hz : zeroB (w1.alloc (.cells #[.int .u32 0, .int .i64 0, .int .i64 0, .int .u64 0, .int .u64 0, .int .u64 0, .int .u64 0] 30)) w1.heap.size := ⟨heap_alloc_new _ _⟩
  have k0' := (hA1.cell (World.block_lt_of_cell? _ _ k0)).trans k0
  have k1' := (hA1.cell (World.block_lt_of_cell? _ _ k1)).trans k1
  have hc2 := RecS.below hc1 hA1
  have hB := hA.trans (hA1.mono hA.size)
  have lt := hA.size
  have sz := hB.size
  clear k0 k1 hc1 hA hA1 hs hw
  generalize hK : w.heap.size = K at *
  have HK := Lib.hid hK
  clear hK
  generalize w1.heap.size = B at *
  generalize w1.alloc _ = w2 at *
  cases hsd : sdT rs
  · have HE := Lib.hid (sdE_not hsd)
    have HF := Lib.hid (findR_1 (a := a) (n := n) hsd)
    clear hsd
    go_wp2_with fail
    refine (Sound_is _ _ _ hc2 hl hr HE.out).mono ?_
    rintro e w3 ⟨rfl, hb3⟩
    replace hz := hz.below hb3
    have hB3 := hB.trans (hb3.mono sz)
    clear k0' k1' hc2 hb3 hB
    have z0 : w3.cell? ⟨B, 0, none⟩ = some (.int .u32 0) := cell_at hz.out rfl
    have f0 : w3.frozen? ⟨B, 0, none⟩ = false := free_at hz.out
    have z1 : w3.cell? ⟨B, 1, none⟩ = some (.int .i64 0) := cell_at hz.out rfl
    have f1 : w3.frozen? ⟨B, 1, none⟩ = false := free_at hz.out
    have z2 : w3.cell? ⟨B, 2, none⟩ = some (.int .i64 0) := cell_at hz.out rfl
    have f2 : w3.frozen? ⟨B, 2, none⟩ = false := free_at hz.out
    have z3 : w3.cell? ⟨B, 3, none⟩ = some (.int .u64 0) := cell_at hz.out rfl
    have f3 : w3.frozen? ⟨B, 3, none⟩ = false := free_at hz.out
    have z4 : w3.cell? ⟨B, 4, none⟩ = some (.int .u64 0) := cell_at hz.out rfl
    have f4 : w3.frozen? ⟨B, 4, none⟩ = false := free_at hz.out
    have z5 : w3.cell? ⟨B, 5, none⟩ = some (.int .u64 0) := cell_at hz.out rfl
    have f5 : w3.frozen? ⟨B, 5, none⟩ = false := free_at hz.out
    have z6 : w3.cell? ⟨B, 6, none⟩ = some (.int .u64 0) := cell_at hz.out rfl
    have f6 : w3.frozen? ⟨B, 6, none⟩ = false := free_at hz.out
    go_wp2_with fail
    have hz9 : Box7 _ B (.int .u32 0) (.int .i64 0) (.int .i64 0) (.int .u64 0) (.int .u64 0) (.int .u64 0) (.int .u64 0) := ⟨set7 hz.out (.int .u32 0) (.int .i64 0) (.int .i64 0) (.int .u64 0) (.int .u64 0) (.int .u64 0) (.int .u64 0)⟩
    have hb9 := below7 hB3 lt (.int .u32 0) (.int .i64 0) (.int .i64 0) (.int .u64 0) (.int .u64 0) (.int .u64 0) (.int .u64 0)
    clear z0 z1 z2 z3 z4 z5 z6 f0 f1 f2 f3 f4 f5 f6
    generalize ((((((World.setCell w3 ⟨B, 0, none⟩ _).setCell ⟨B, 1, none⟩ _).setCell ⟨B, 2, none⟩ _).setCell ⟨B, 3, none⟩ _).setCell ⟨B, 4, none⟩ _).setCell ⟨B, 5, none⟩ _).setCell ⟨B, 6, none⟩ _ = w9 at *
    exact bodyPost_ret (hz9.res20 _ _ rfl rfl) rfl ⟨by rw [HF.out]; rfl, by rw [HK.out]; exact hb9⟩
  · have HS := Lib.hid (sdE_yes hsd)
    go_wp2_with fail
    refine (Sound_is _ _ _ hc2 hl hr HS.out).mono ?_
    rintro e w3 ⟨rfl, hb3⟩
    replace hz := hz.below hb3
    have hB3 := hB.trans (hb3.mono sz)
    have hc3 := RecS.below hc2 hb3
    have sz3 := Nat.le_trans sz hb3.size
    have m0 := (hb3.cell (World.block_lt_of_cell? _ _ k0')).trans k0'
    have m1 := (hb3.cell (World.block_lt_of_cell? _ _ k1')).trans k1'
    clear k0' k1' hc2 hb3 hB sz
    cases hok : okP a n
    · have HE := Lib.hid (okE_no hok)
      have HF := Lib.hid (findR_2 hsd hok)
      clear hsd hok
      go_wp2_with fail
      refine (Check_is ha ha2 _ HE.out).mono ?_
      rintro e w4 ⟨rfl, hb4⟩
      replace hz := hz.below hb4
      have hB4 := hB3.trans (hb4.mono sz3)
      clear m0 m1 hc3 hb4 hB3
      have z0 : w4.cell? ⟨B, 0, none⟩ = some (.int .u32 0) := cell_at hz.out rfl
      have f0 : w4.frozen? ⟨B, 0, none⟩ = false := free_at hz.out
      have z1 : w4.cell? ⟨B, 1, none⟩ = some (.int .i64 0) := cell_at hz.out rfl
      have f1 : w4.frozen? ⟨B, 1, none⟩ = false := free_at hz.out
      have z2 : w4.cell? ⟨B, 2, none⟩ = some (.int .i64 0) := cell_at hz.out rfl
      have f2 : w4.frozen? ⟨B, 2, none⟩ = false := free_at hz.out
      have z3 : w4.cell? ⟨B, 3, none⟩ = some (.int .u64 0) := cell_at hz.out rfl
      have f3 : w4.frozen? ⟨B, 3, none⟩ = false := free_at hz.out
      have z4 : w4.cell? ⟨B, 4, none⟩ = some (.int .u64 0) := cell_at hz.out rfl
      have f4 : w4.frozen? ⟨B, 4, none⟩ = false := free_at hz.out
      have z5 : w4.cell? ⟨B, 5, none⟩ = some (.int .u64 0) := cell_at hz.out rfl
      have f5 : w4.frozen? ⟨B, 5, none⟩ = false := free_at hz.out
      have z6 : w4.cell? ⟨B, 6, none⟩ = some (.int .u64 0) := cell_at hz.out rfl
      have f6 : w4.frozen? ⟨B, 6, none⟩ = false := free_at hz.out
      go_wp2_with fail
      have hz9 : Box7 _ B (.int .u32 0) (.int .i64 0) (.int .i64 0) (.int .u64 0) (.int .u64 0) (.int .u64 0) (.int .u64 0) := ⟨set7 hz.out (.int .u32 0) (.int .i64 0) (.int .i64 0) (.int .u64 0) (.int .u64 0) (.int .u64 0) (.int .u64 0)⟩
      have hb9 := below7 hB4 lt (.int .u32 0) (.int .i64 0) (.int .i64 0) (.int .u64 0) (.int .u64 0) (.int .u64 0) (.int .u64 0)
      clear z0 z1 z2 z3 z4 z5 z6 f0 f1 f2 f3 f4 f5 f6
      generalize ((((((World.setCell w4 ⟨B, 0, none⟩ _).setCell ⟨B, 1, none⟩ _).setCell ⟨B, 2, none⟩ _).setCell ⟨B, 3, none⟩ _).setCell ⟨B, 4, none⟩ _).setCell ⟨B, 5, none⟩ _).setCell ⟨B, 6, none⟩ _ = w9 at *
      exact bodyPost_ret (hz9.res20 _ _ rfl rfl) rfl ⟨by rw [HF.out]; rfl, by rw [HK.out]; exact hb9⟩
    · have HE := Lib.hid (okE_yes hok)
      go_wp2_with fail
      refine (Check_is ha ha2 _ HE.out).mono ?_
      rintro e w4 ⟨rfl, hb4⟩
      replace hz := hz.below hb4
      have hB4 := hB3.trans (hb4.mono sz3)
      have hc4 := RecS.below hc3 hb4
      have sz4 := Nat.le_trans sz3 hb4.size
      have l0 := (hb4.cell (World.block_lt_of_cell? _ _ m0)).trans m0
      have l1 := (hb4.cell (World.block_lt_of_cell? _ _ m1)).trans m1
      clear m0 m1 hc3 hb4 hB3 sz3
      go_wp2_with fail
      refine (search_rt _ rs a n _ hc4 hl hsd).mono ?_
      rintro e w5 ⟨i, f, rfl, hp, hb5⟩
      replace hz := hz.below hb5
      have hB5 := hB4.trans (hb5.mono sz4)
      have hc5 := RecS.below hc4 hb5
      clear l0 l1 hc4 hb5 hB4 sz4
      cases f
      · have HF := Lib.hid (findR_8 hsd hok hp)
        clear hsd hok hp hc5
        have z0 : w5.cell? ⟨B, 0, none⟩ = some (.int .u32 0) := cell_at hz.out rfl
        have f0 : w5.frozen? ⟨B, 0, none⟩ = false := free_at hz.out
        have z1 : w5.cell? ⟨B, 1, none⟩ = some (.int .i64 0) := cell_at hz.out rfl
        have f1 : w5.frozen? ⟨B, 1, none⟩ = false := free_at hz.out
        have z2 : w5.cell? ⟨B, 2, none⟩ = some (.int .i64 0) := cell_at hz.out rfl
        have f2 : w5.frozen? ⟨B, 2, none⟩ = false := free_at hz.out
        have z3 : w5.cell? ⟨B, 3, none⟩ = some (.int .u64 0) := cell_at hz.out rfl
        have f3 : w5.frozen? ⟨B, 3, none⟩ = false := free_at hz.out
        have z4 : w5.cell? ⟨B, 4, none⟩ = some (.int .u64 0) := cell_at hz.out rfl
        have f4 : w5.frozen? ⟨B, 4, none⟩ = false := free_at hz.out
        have z5 : w5.cell? ⟨B, 5, none⟩ = some (.int .u64 0) := cell_at hz.out rfl
        have f5 : w5.frozen? ⟨B, 5, none⟩ = false := free_at hz.out
        have z6 : w5.cell? ⟨B, 6, none⟩ = some (.int .u64 0) := cell_at hz.out rfl
        have f6 : w5.frozen? ⟨B, 6, none⟩ = false := free_at hz.out
        go_wp2_with fail
        have hz9 : Box7 _ B (.int .u32 0) (.int .i64 0) (.int .i64 0) (.int .u64 0) (.int .u64 0) (.int .u64 0) (.int .u64 0) := ⟨set7 hz.out (.int .u32 0) (.int .i64 0) (.int .i64 0) (.int .u64 0) (.int .u64 0) (.int .u64 0) (.int .u64 0)⟩
        have hb9 := below7 hB5 lt (.int .u32 0) (.int .i64 0) (.int .i64 0) (.int .u64 0) (.int .u64 0) (.int .u64 0) (.int .u64 0)
        clear z0 z1 z2 z3 z4 z5 z6 f0 f1 f2 f3 f4 f5 f6
        generalize ((((((World.setCell w5 ⟨B, 0, none⟩ _).setCell ⟨B, 1, none⟩ _).setCell ⟨B, 2, none⟩ _).setCell ⟨B, 3, none⟩ _).setCell ⟨B, 4, none⟩ _).setCell ⟨B, 5, none⟩ _).setCell ⟨B, 6, none⟩ _ = w9 at *
        exact bodyPost_ret (hz9.res20 _ _ rfl rfl) rfl ⟨by rw [HF.out]; rfl, by rw [HK.out]; exact hb9⟩
      · obtain ⟨hi, hF⟩ := findR_0 hsd hok hp
        have HF := Lib.hid hF
        obtain ⟨K2, off, rfl, r0, r1, r2, r3, r4, r5, r6⟩ := RtS.row hc5 i hi
        clear hsd hok hp hF hc5 hr
        generalize rs[i] = r at *
        have z0 : w5.cell? ⟨B, 0, none⟩ = some (.int .u32 0) := cell_at hz.out rfl
        have f0 : w5.frozen? ⟨B, 0, none⟩ = false := free_at hz.out
        have z1 : w5.cell? ⟨B, 1, none⟩ = some (.int .i64 0) := cell_at hz.out rfl
        have f1 : w5.frozen? ⟨B, 1, none⟩ = false := free_at hz.out
        have z2 : w5.cell? ⟨B, 2, none⟩ = some (.int .i64 0) := cell_at hz.out rfl
        have f2 : w5.frozen? ⟨B, 2, none⟩ = false := free_at hz.out
        have z3 : w5.cell? ⟨B, 3, none⟩ = some (.int .u64 0) := cell_at hz.out rfl
        have f3 : w5.frozen? ⟨B, 3, none⟩ = false := free_at hz.out
        have z4 : w5.cell? ⟨B, 4, none⟩ = some (.int .u64 0) := cell_at hz.out rfl
        have f4 : w5.frozen? ⟨B, 4, none⟩ = false := free_at hz.out
        have z5 : w5.cell? ⟨B, 5, none⟩ = some (.int .u64 0) := cell_at hz.out rfl
        have f5 : w5.frozen? ⟨B, 5, none⟩ = false := free_at hz.out
        have z6 : w5.cell? ⟨B, 6, none⟩ = some (.int .u64 0) := cell_at hz.out rfl
        have f6 : w5.frozen? ⟨B, 6, none⟩ = false := free_at hz.out
        go_wp2_with fail
        clear r0 r1 r2 r3 r4 r5 r6
        have hz9 : Box7 _ B (.int .u32 r.a) (.int .i64 r.n) (.int .i64 r.m) (.int .u64 (u r.o)) (.int .u64 (u r.p)) (.int .u64 (u r.h)) (.int .u64 (u r.k)) := ⟨set7 hz.out (.int .u32 r.a) (.int .i64 r.n) (.int .i64 r.m) (.int .u64 (u r.o)) (.int .u64 (u r.p)) (.int .u64 (u r.h)) (.int .u64 (u r.k))⟩
        have hb9 := below7 hB5 lt (.int .u32 r.a) (.int .i64 r.n) (.int .i64 r.m) (.int .u64 (u r.o)) (.int .u64 (u r.p)) (.int .u64 (u r.h)) (.int .u64 (u r.k))
        clear z0 z1 z2 z3 z4 z5 z6 f0 f1 f2 f3 f4 f5 f6
        generalize ((((((World.setCell w5 ⟨B, 0, none⟩ _).setCell ⟨B, 1, none⟩ _).setCell ⟨B, 2, none⟩ _).setCell ⟨B, 3, none⟩ _).setCell ⟨B, 4, none⟩ _).setCell ⟨B, 5, none⟩ _).setCell ⟨B, 6, none⟩ _ = w9 at *
        exact bodyPost_ret (hz9.res20 _ _ rfl rfl) rfl ⟨by rw [HF.out]; rfl, by rw [HK.out]; exact hb9⟩
end Go.Proofs.YtpebpfaecdmabaaGreatDoor
