/- The reference's side: Sound, Find. -/
import Derived.Test.YtpebpfaecdmabaaGreatDoorZF18
namespace Go.Proofs.YtpebpfaecdmabaaGreatDoor
open Go Go.RowKit PL

set_option maxHeartbeats 4000000 in
set_option maxRecDepth 100000 in
theorem RSound_any (v : Value) (rs : List Rt) (w : World) (h : RtS w v rs) (hl : rs.length ≤ 4398046511104) (hr : ∀ r ∈ rs, r.in32) : Calls Tryz.prog 10 #[v] w fun e w' => e = .returned (.int .i64 (sdE rs)) ∧ Below w.heap.size w w' := by
  obtain ⟨b, cap, rfl, _, hc⟩ := h.form
  go_enter Tryz.func10, Tryz.ntmps10
  go_wp2_with fail
  go_loopw [3] (fun x wr => ∃ i : Nat, x = .int .i64 i ∧ i ≤ rs.length ∧ (∀ j, j < i → sdI rs j = true) ∧ Below w.heap.size w wr) (fun x _ => rs.length - (kO x).toNat)
  case atStart => exact ⟨0, rfl, Nat.zero_le _, fun j hj => by omega, Below.refl _ _⟩
  case round =>
    obtain ⟨i, rfl, hi, hall, hb⟩ := hrel
    by_cases hlt : i < rs.length
    · have hT2 := RecS.below hc hb
      obtain ⟨K, off, rfl, r0, r1, r2, r3, r4, r5, r6⟩ := RtS.row hT2 i hlt
      have hri := hr rs[i] (List.getElem_mem hlt)
      generalize hq : rs[i] = r at *
      have HA := Lib.hid hall
      have HQ := Lib.hid hq
      clear hall hq hr
      go_upto_region 4 with fail
      have q0 := fun n : ExtW wr => exw_cell r0 n
      have q1 := fun n : ExtW wr => exw_cell r1 n
      have q2 := fun n : ExtW wr => exw_cell r2 n
      have q3 := fun n : ExtW wr => exw_cell r3 n
      have q4 := fun n : ExtW wr => exw_cell r4 n
      have q5 := fun n : ExtW wr => exw_cell r5 n
      have q6 := fun n : ExtW wr => exw_cell r6 n
      clear r0 r1 r2 r3 r4 r5 r6
      cases hsd : sdR r
      · have HSD := Lib.hid hsd
        clear hsd
        refine region_ext (by kernel_rfl) (by kernel_rfl) ?_
        repeat (go_big_quiet_step ((go_at_call 22; exact ext_call (RouteOk_is r _ hri HSD.out))))
        refine wpQuiet_nil ?_
        rintro _ ⟨nq, rfl⟩
        clear q0 q1 q2 q3 q4 q5 q6
        go_wp2_with fail
        go_ret
        exact ⟨by rw [sdE_no hlt (sdI_f hlt HQ.out HSD.out)]; rfl, hb.trans ((exw_below nq).mono hb.size)⟩
      · have HSD := Lib.hid hsd
        clear hsd
        cases i with
        | zero =>
          simp only [Nat.zero_mul, Nat.add_zero] at q0 q1 q2 q3 q4 q5 q6
          refine region_ext (by kernel_rfl) (by kernel_rfl) ?_
          repeat (go_big_quiet_step ((go_at_call 22; exact ext_call (RouteOk_is r _ hri HSD.out))))
          refine wpQuiet_nil ?_
          rintro _ ⟨nq, rfl⟩
          clear q0 q1 q2 q3 q4 q5 q6
          go_wp2_with fail
          go_roundw
          case rel => exact ⟨1, rfl, hlt, sdI_0 hlt HQ.out HSD.out, hb.trans ((exw_below nq).mono hb.size)⟩
          case measure => simp only [kO]; omega
        | succ i =>
          obtain ⟨K2, off2, e2, p0, p1, _⟩ := RtS.row hT2 i (by omega)
          obtain ⟨rfl, rfl⟩ : K2 = K ∧ off2 = off := by injection e2 with e2; injection e2 with e2 e3; exact ⟨e2.symm, e3.symm⟩
          clear e2
          generalize hq2 : rs[i] = s at *
          have HQ2 := Lib.hid hq2
          clear hq2
          have t0 := fun n : ExtW wr => exw_cell p0 n
          have t1 := fun n : ExtW wr => exw_cell p1 n
          clear p0 p1
          cases hbf : befP s.a s.n r.a r.n
          · have HBF := Lib.hid hbf
            clear hbf
            refine region_ext (by kernel_rfl) (by kernel_rfl) ?_
            repeat (go_big_quiet_step ((first | (go_at_call 22; exact ext_call (RouteOk_is r _ hri HSD.out)) | (go_at_call 23; exact ext_call (RBefore_is HBF.out _)))))
            refine wpQuiet_nil ?_
            rintro _ ⟨nq, rfl⟩
            clear q0 q1 q2 q3 q4 q5 q6 t0 t1
            go_wp2_with fail
            go_ret
            exact ⟨by rw [sdE_no hlt (sdI_s hlt HQ.out HQ2.out HSD.out HBF.out)]; rfl, hb.trans ((exw_below nq).mono hb.size)⟩
          · have HBF := Lib.hid hbf
            clear hbf
            refine region_ext (by kernel_rfl) (by kernel_rfl) ?_
            repeat (go_big_quiet_step ((first | (go_at_call 22; exact ext_call (RouteOk_is r _ hri HSD.out)) | (go_at_call 23; exact ext_call (RBefore_is HBF.out _)))))
            refine wpQuiet_nil ?_
            rintro _ ⟨nq, rfl⟩
            clear q0 q1 q2 q3 q4 q5 q6 t0 t1
            go_wp2_with fail
            go_roundw
            case rel => exact ⟨i + 1 + 1, by go_num, hlt, all_next HA.out (sdI_s hlt HQ.out HQ2.out HSD.out HBF.out), hb.trans ((exw_below nq).mono hb.size)⟩
            case measure => simp only [kO]; omega
    · have e : i = rs.length := by omega
      subst e
      have hE : sdE rs = 0 := by unfold sdE; rw [if_pos (sdT_true hall)]
      have HE := Lib.hid hE
      clear hE hall
      go_wp2_with fail
      go_ret
      exact ⟨by rw [HE.out]; rfl, hb⟩
theorem RSound_is (v : Value) (rs : List Rt) (w : World) (h : RtS w v rs) (hl : rs.length ≤ 4398046511104) (hr : ∀ r ∈ rs, r.in32) {x : Int} (hx : sdE rs = x) : Calls Tryz.prog 10 #[v] w fun e w' => e = .returned (.int .i64 x) ∧ Below w.heap.size w w' := by
  rw [← hx]; exact RSound_any v rs w h hl hr
theorem res5 (w : World) (tmps : Array Value) (B : Nat) (v x0 x1 x2 x3 x4 x5 x6 : Value) (hp : tmps.getD 4 undef = .pointer (some ⟨B, 0, none⟩)) (hv : tmps.getD 5 undef = v)
    (h0 : w.cell? ⟨B, 0, none⟩ = some x0) (h1 : w.cell? ⟨B, 1, none⟩ = some x1) (h2 : w.cell? ⟨B, 2, none⟩ = some x2) (h3 : w.cell? ⟨B, 3, none⟩ = some x3) (h4 : w.cell? ⟨B, 4, none⟩ = some x4) (h5 : w.cell? ⟨B, 5, none⟩ = some x5) (h6 : w.cell? ⟨B, 6, none⟩ = some x6) :
    (results Tryz.f5 tmps).run Tryz.prog w = .ok (.tuple #[.agg #[x0, x1, x2, x3, x4, x5, x6], v]) w := by
  rw [Array.getD_eq_getD_getElem?] at hp hv
  simp only [results, Tryz.results5]
  simp [go_sem, hp, hv, h0, h1, h2, h3, h4, h5, h6]
theorem Box7.res5 {w : World} {B : Nat} {x0 x1 x2 x3 x4 x5 x6 : Value} (h : Box7 w B x0 x1 x2 x3 x4 x5 x6) (tmps : Array Value) (v : Value) (hp : tmps.getD 4 undef = .pointer (some ⟨B, 0, none⟩)) (hv : tmps.getD 5 undef = v) :
    (results Tryz.f5 tmps).run Tryz.prog w = .ok (.tuple #[.agg #[x0, x1, x2, x3, x4, x5, x6], v]) w :=
  Go.Proofs.YtpebpfaecdmabaaGreatDoor.res5 w tmps B v _ _ _ _ _ _ _ hp hv (cell_at h.out rfl) (cell_at h.out rfl) (cell_at h.out rfl) (cell_at h.out rfl) (cell_at h.out rfl) (cell_at h.out rfl) (cell_at h.out rfl)
open Go.Proofs.YtpebpfaecdmabaaGreatDoorW.PrintWords in
theorem eq_pfx (a n b m : Int) (d : Nat) (w : World) : (Op.equalIn (d + 2) 25 (pfx a n) (pfx b m)).run Tryz.prog w = .ok (a == b && n == m) w := by
  refine eqA_of Tryz.underlying25 (by kernel_rfl) (eqf_cons (by rfl) (a := .int .u32 a) (b := .int .u32 b) ?_ ?_ ?_ (eqf_last (by rfl) (a := .int .i64 n) (b := .int .i64 m) ?_ ?_ ?_))
  all_goals go_simp
theorem eq_bd (x y : Bt) (d : Nat) (w : World) : (Op.equalIn (d + 2) 28 (bv x) (bv y)).run Tryz.prog w = .ok (x == y) w := by
  obtain ⟨i, hi⟩ := Option.isSome_iff_exists.1 (show (Tryz.prog.info? 26).isSome = true by kernel_rfl)
  exact run_equalIn_bt Tryz.underlying28 Tryz.underlying26 hi Bs.cells22 x y d w
open Go.Proofs.YtpebpfaecdmabaaGreatDoorW.PrintWords in
theorem eq_rt (r s : Rt) (d : Nat) (w : World) : (Op.equalIn (d + 4) 30 (rtv r) (rtv s)).run Tryz.prog w = .ok ((r.a == s.a && r.n == s.n) && (r.m == s.m && (((r.o, r.p) == (s.o, s.p)) && ((r.h, r.k) == (s.h, s.k))))) w := by
  refine eqA_of Tryz.underlying30 (by kernel_rfl) (eqf_cons (by rfl) (a := pfx r.a r.n) (b := pfx s.a s.n) ?_ ?_ (eq_pfx _ _ _ _ _ _) (eqf_cons (by rfl) (a := .int .i64 r.m) (b := .int .i64 s.m) ?_ ?_ ?_ (eqf_cons (by rfl) (a := bv (r.o, r.p)) (b := bv (s.o, s.p)) ?_ ?_ (eq_bd _ _ _ _) (eqf_last (by rfl) (a := bv (r.h, r.k)) (b := bv (s.h, s.k)) ?_ ?_ (eq_bd _ _ _ _)))))
  all_goals go_simp
theorem eq_rr (r : Rt) (w : World) : (Op.equalIn 10000 30 (rtv r) (rtv r)).run Tryz.prog w = .ok true w := by
  rw [eq_rt r r 9996 w]
  simp
theorem has_none {rs : List Rt} {a n : Int} (h : ∀ j, (hj : j < rs.length) → hasP a n rs[j] = false) : rs.find? (hasP a n) = none := by
  rw [List.find?_eq_none]
  intro r hr
  obtain ⟨j, hj, rfl⟩ := List.getElem_of_mem hr
  rw [h j hj]; decide
theorem has_next {rs : List Rt} {a n : Int} {i : Nat} {r : Rt} (h : ∀ j, (hj : j < rs.length) → j < i → hasP a n rs[j] = false) (hi : i < rs.length) (e : rs[i] = r) (hr : hasP a n r = false) : ∀ j, (hj : j < rs.length) → j < i + 1 → hasP a n rs[j] = false := by
  intro j hj h1
  by_cases e' : j = i
  · subst e'; rw [e]; exact hr
  · exact h j hj (by omega)
theorem has_at {rs : List Rt} {a n : Int} {i : Nat} {r : Rt} (hs : sdT rs = true) (hi : i < rs.length) (e : rs[i] = r) (hr : hasP a n r = true) : rs.find? (hasP a n) = some r := by
  subst e
  unfold hasP at hr
  simp only [Bool.and_eq_true, beq_iff_eq] at hr
  exact find_at hs hi hr.1 hr.2
set_option maxHeartbeats 8000000 in
set_option maxRecDepth 100000 in
theorem RFind_any (v : Value) (rs : List Rt) (a n : Int) (w : World) (h : RtS w v rs) (hl : rs.length ≤ 4398046511104) (hr : ∀ r ∈ rs, r.in32) (ha : 0 ≤ a) :
    Calls Tryz.prog 5 #[v, pfx a n] w fun e w' => e = .returned (.tuple #[rtv (findR rs a n).1, .int .i64 (findR rs a n).2]) ∧ Below w.heap.size w w' := by
  obtain ⟨b, cap, rfl, hm, hc⟩ := h.form
  have hA := (Below.refl _ w).alloc (Nat.le_refl _) (.cells #[.int .u32 a, .int .i64 n] 25)
  have k0 := box_new w #[.int .u32 a, .int .i64 n] 25 0 (.int .u32 a) rfl
  have k1 := box_new w #[.int .u32 a, .int .i64 n] 25 1 (.int .i64 n) rfl
  go_enter Tryz.func5, Tryz.ntmps5
  go_upto_region 1 with fail
  have hs : (w.alloc (.cells #[.int .u32 a, .int .i64 n] 25)).heap.size = w.heap.size + 1 := by simp
  have hc1 := RecS.below hc hA
  clear hc h
  have hw := hA.size
  generalize w.alloc (.cells #[.int .u32 a, .int .i64 n] 25) = w1 at *
  rw [← hs]
  have hA1 := (Below.refl _ w1).alloc (Nat.le_refl _) (.cells #[.int .u32 0, .int .i64 0, .int .i64 0, .int .u64 0, .int .u64 0, .int .u64 0, .int .u64 0] 30)
  have hz : zeroB (w1.alloc (.cells #[.int .u32 0, .int .i64 0, .int .i64 0, .int .u64 0, .int .u64 0, .int .u64 0, .int .u64 0] 30)) w1.heap.size := ⟨heap_alloc_new _ _⟩
  have k0' := (hA1.cell (World.block_lt_of_cell? _ _ k0)).trans k0
  have k1' := (hA1.cell (World.block_lt_of_cell? _ _ k1)).trans k1
  have hc2 := RecS.below hc1 hA1
  have hB := hA.trans (hA1.mono hA.size)
  have lt := hA.size
  have sz := hB.size
  clear k0 k1 hc1 hA hA1 hs hw
  generalize hK : w.heap.size = K at *
  have HK := Lib.hid hK
  clear hK
  generalize w1.heap.size = B at *
  generalize w1.alloc _ = w2 at *
  cases hsd : sdT rs
  · have HE := Lib.hid (sdE_not hsd)
    have HF := Lib.hid (findR_1 (a := a) (n := n) hsd)
    clear hsd
    go_wp2_with fail
    refine (RSound_is _ _ _ hc2 hl hr HE.out).mono ?_
    rintro e w3 ⟨rfl, hb3⟩
    replace hz := hz.below hb3
    have hB3 := hB.trans (hb3.mono sz)
    clear k0' k1' hc2 hb3 hB
    have z0 : w3.cell? ⟨B, 0, none⟩ = some (.int .u32 0) := cell_at hz.out rfl
    have f0 : w3.frozen? ⟨B, 0, none⟩ = false := free_at hz.out
    have z1 : w3.cell? ⟨B, 1, none⟩ = some (.int .i64 0) := cell_at hz.out rfl
    have f1 : w3.frozen? ⟨B, 1, none⟩ = false := free_at hz.out
    have z2 : w3.cell? ⟨B, 2, none⟩ = some (.int .i64 0) := cell_at hz.out rfl
    have f2 : w3.frozen? ⟨B, 2, none⟩ = false := free_at hz.out
    have z3 : w3.cell? ⟨B, 3, none⟩ = some (.int .u64 0) := cell_at hz.out rfl
    have f3 : w3.frozen? ⟨B, 3, none⟩ = false := free_at hz.out
    have z4 : w3.cell? ⟨B, 4, none⟩ = some (.int .u64 0) := cell_at hz.out rfl
    have f4 : w3.frozen? ⟨B, 4, none⟩ = false := free_at hz.out
    have z5 : w3.cell? ⟨B, 5, none⟩ = some (.int .u64 0) := cell_at hz.out rfl
    have f5 : w3.frozen? ⟨B, 5, none⟩ = false := free_at hz.out
    have z6 : w3.cell? ⟨B, 6, none⟩ = some (.int .u64 0) := cell_at hz.out rfl
    have f6 : w3.frozen? ⟨B, 6, none⟩ = false := free_at hz.out
    go_wp2_with fail
    have hz9 : Box7 _ B (.int .u32 0) (.int .i64 0) (.int .i64 0) (.int .u64 0) (.int .u64 0) (.int .u64 0) (.int .u64 0) := ⟨set7 hz.out (.int .u32 0) (.int .i64 0) (.int .i64 0) (.int .u64 0) (.int .u64 0) (.int .u64 0) (.int .u64 0)⟩
    have hb9 := below7 hB3 lt (.int .u32 0) (.int .i64 0) (.int .i64 0) (.int .u64 0) (.int .u64 0) (.int .u64 0) (.int .u64 0)
    clear z0 z1 z2 z3 z4 z5 z6 f0 f1 f2 f3 f4 f5 f6
    generalize ((((((World.setCell w3 ⟨B, 0, none⟩ _).setCell ⟨B, 1, none⟩ _).setCell ⟨B, 2, none⟩ _).setCell ⟨B, 3, none⟩ _).setCell ⟨B, 4, none⟩ _).setCell ⟨B, 5, none⟩ _).setCell ⟨B, 6, none⟩ _ = w9 at *
    exact bodyPost_ret (hz9.res5 _ _ rfl rfl) rfl ⟨by rw [HF.out]; rfl, by rw [HK.out]; exact hb9⟩
  · have HS := Lib.hid (sdE_yes hsd)
    go_wp2_with fail
    refine (RSound_is _ _ _ hc2 hl hr HS.out).mono ?_
    rintro e w3 ⟨rfl, hb3⟩
    replace hz := hz.below hb3
    have hB3 := hB.trans (hb3.mono sz)
    have hc3 := RecS.below hc2 hb3
    have sz3 := Nat.le_trans sz hb3.size
    have m0 := (hb3.cell (World.block_lt_of_cell? _ _ k0')).trans k0'
    have m1 := (hb3.cell (World.block_lt_of_cell? _ _ k1')).trans k1'
    clear k0' k1' hc2 hb3 hB sz
    cases hok : okP a n
    · have HE := Lib.hid (okE_no hok)
      have HF := Lib.hid (findR_2 hsd hok)
      clear hsd hok
      go_wp2_with fail
      refine (RCheck_is ha _ HE.out).mono ?_
      rintro e w4 ⟨rfl, hb4⟩
      replace hz := hz.below hb4
      have hB4 := hB3.trans (hb4.mono sz3)
      clear m0 m1 hc3 hb4 hB3
      have z0 : w4.cell? ⟨B, 0, none⟩ = some (.int .u32 0) := cell_at hz.out rfl
      have f0 : w4.frozen? ⟨B, 0, none⟩ = false := free_at hz.out
      have z1 : w4.cell? ⟨B, 1, none⟩ = some (.int .i64 0) := cell_at hz.out rfl
      have f1 : w4.frozen? ⟨B, 1, none⟩ = false := free_at hz.out
      have z2 : w4.cell? ⟨B, 2, none⟩ = some (.int .i64 0) := cell_at hz.out rfl
      have f2 : w4.frozen? ⟨B, 2, none⟩ = false := free_at hz.out
      have z3 : w4.cell? ⟨B, 3, none⟩ = some (.int .u64 0) := cell_at hz.out rfl
      have f3 : w4.frozen? ⟨B, 3, none⟩ = false := free_at hz.out
      have z4 : w4.cell? ⟨B, 4, none⟩ = some (.int .u64 0) := cell_at hz.out rfl
      have f4 : w4.frozen? ⟨B, 4, none⟩ = false := free_at hz.out
      have z5 : w4.cell? ⟨B, 5, none⟩ = some (.int .u64 0) := cell_at hz.out rfl
      have f5 : w4.frozen? ⟨B, 5, none⟩ = false := free_at hz.out
      have z6 : w4.cell? ⟨B, 6, none⟩ = some (.int .u64 0) := cell_at hz.out rfl
      have f6 : w4.frozen? ⟨B, 6, none⟩ = false := free_at hz.out
      go_wp2_with fail
      have hz9 : Box7 _ B (.int .u32 0) (.int .i64 0) (.int .i64 0) (.int .u64 0) (.int .u64 0) (.int .u64 0) (.int .u64 0) := ⟨set7 hz.out (.int .u32 0) (.int .i64 0) (.int .i64 0) (.int .u64 0) (.int .u64 0) (.int .u64 0) (.int .u64 0)⟩
      have hb9 := below7 hB4 lt (.int .u32 0) (.int .i64 0) (.int .i64 0) (.int .u64 0) (.int .u64 0) (.int .u64 0) (.int .u64 0)
      clear z0 z1 z2 z3 z4 z5 z6 f0 f1 f2 f3 f4 f5 f6
      generalize ((((((World.setCell w4 ⟨B, 0, none⟩ _).setCell ⟨B, 1, none⟩ _).setCell ⟨B, 2, none⟩ _).setCell ⟨B, 3, none⟩ _).setCell ⟨B, 4, none⟩ _).setCell ⟨B, 5, none⟩ _).setCell ⟨B, 6, none⟩ _ = w9 at *
      exact bodyPost_ret (hz9.res5 _ _ rfl rfl) rfl ⟨by rw [HF.out]; rfl, by rw [HK.out]; exact hb9⟩
    · have HE := Lib.hid (okE_yes hok)
      go_wp2_with fail
      refine (RCheck_is ha _ HE.out).mono ?_
      rintro e w4 ⟨rfl, hb4⟩
      replace hz := hz.below hb4
      have hB4 := hB3.trans (hb4.mono sz3)
      have hc4 := RecS.below hc3 hb4
      have sz4 := Nat.le_trans sz3 hb4.size
      have l0 := (hb4.cell (World.block_lt_of_cell? _ _ m0)).trans m0
      have l1 := (hb4.cell (World.block_lt_of_cell? _ _ m1)).trans m1
      clear m0 m1 hc3 hb4 hB3 sz3
      go_wp2_with fail
      go_loopw [6] (fun x wr => ∃ i : Nat, x = .int .i64 i ∧ i ≤ rs.length ∧ (∀ j, (hj : j < rs.length) → j < i → hasP a n rs[j] = false) ∧ Below w4.heap.size w4 wr) (fun x _ => rs.length - (kO x).toNat)
      case atStart => exact ⟨0, rfl, Nat.zero_le _, fun j _ hj => by omega, Below.refl _ _⟩
      case round =>
        obtain ⟨i, rfl, hi, hall, hb⟩ := hrel
        by_cases hlt : i < rs.length
        · have hc5 := RecS.below hc4 hb
          obtain ⟨K2, off, rfl, r0, r1, r2, r3, r4, r5, r6⟩ := RtS.row hc5 i hlt
          have b0 := (hb.cell (World.block_lt_of_cell? _ _ l0)).trans l0
          have b1 := (hb.cell (World.block_lt_of_cell? _ _ l1)).trans l1
          generalize hr' : rs[i] = r at *
          have HR := Lib.hid hr'
          clear hr'
          go_upto_region 8 with fail
          have q0 := fun n : ExtW wr => exw_cell r0 n
          have q1 := fun n : ExtW wr => exw_cell r1 n
          have d0 := fun n : ExtW wr => exw_cell b0 n
          have d1 := fun n : ExtW wr => exw_cell b1 n
          have hq : ∀ w, (Op.equalIn 10000 25 (.agg #[.int .u32 r.a, .int .i64 r.n]) (.agg #[.int .u32 a, .int .i64 n])).run Tryz.prog w = .ok (hasP a n r) w := fun w => eq_pfx r.a r.n a n 9998 w
          have hB5 := hB4.trans (hb.mono sz4)
          have sz5 := Nat.le_trans sz4 hb.size
          cases hh : hasP a n r
          · rw [hh] at hq
            have hall' := has_next hall hlt HR.out hh
            have HA := Lib.hid hall'
            clear hall hall' hh r0 r1 r2 r3 r4 r5 r6 b0 b1
            refine region_ext (by kernel_rfl) (by kernel_rfl) ?_
            repeat (go_big_quiet_step (fail))
            refine wpQuiet_nil ?_
            rintro _ ⟨nq, rfl⟩
            clear hq q0 q1 d0 d1
            go_wp2_with fail
            go_roundw
            case rel => exact ⟨i + 1, by go_num, hlt, HA.out, hb.trans ((exw_below nq).mono hb.size)⟩
            case measure => simp only [kO]; omega
          · rw [hh] at hq
            have HF := Lib.hid (findR_some hsd hok (has_at hsd hlt HR.out hh))
            clear hall hh
            refine region_ext (by kernel_rfl) (by kernel_rfl) ?_
            repeat (go_big_quiet_step (fail))
            refine wpQuiet_nil ?_
            rintro _ ⟨nq, rfl⟩
            have hx := exw_below nq
            have hz := (hz.below hb).below hx
            have hB6 := hB5.trans (hx.mono sz5)
            clear hq q0 q1 d0 d1 b0 b1 l0 l1 hc4 hc5 hB4 hB5 hb
            replace r0 := exw_cell r0 nq
            replace r1 := exw_cell r1 nq
            replace r2 := exw_cell r2 nq
            replace r3 := exw_cell r3 nq
            replace r4 := exw_cell r4 nq
            replace r5 := exw_cell r5 nq
            replace r6 := exw_cell r6 nq
            clear hx sz4 sz5
            generalize exw nq = w6 at *
            have z0 : w6.cell? ⟨B, 0, none⟩ = some (.int .u32 0) := cell_at hz.out rfl
            have f0 : w6.frozen? ⟨B, 0, none⟩ = false := free_at hz.out
            have z1 : w6.cell? ⟨B, 1, none⟩ = some (.int .i64 0) := cell_at hz.out rfl
            have f1 : w6.frozen? ⟨B, 1, none⟩ = false := free_at hz.out
            have z2 : w6.cell? ⟨B, 2, none⟩ = some (.int .i64 0) := cell_at hz.out rfl
            have f2 : w6.frozen? ⟨B, 2, none⟩ = false := free_at hz.out
            have z3 : w6.cell? ⟨B, 3, none⟩ = some (.int .u64 0) := cell_at hz.out rfl
            have f3 : w6.frozen? ⟨B, 3, none⟩ = false := free_at hz.out
            have z4 : w6.cell? ⟨B, 4, none⟩ = some (.int .u64 0) := cell_at hz.out rfl
            have f4 : w6.frozen? ⟨B, 4, none⟩ = false := free_at hz.out
            have z5 : w6.cell? ⟨B, 5, none⟩ = some (.int .u64 0) := cell_at hz.out rfl
            have f5 : w6.frozen? ⟨B, 5, none⟩ = false := free_at hz.out
            have z6 : w6.cell? ⟨B, 6, none⟩ = some (.int .u64 0) := cell_at hz.out rfl
            have f6 : w6.frozen? ⟨B, 6, none⟩ = false := free_at hz.out
            go_wp2_with fail
            clear r0 r1 r2 r3 r4 r5 r6
            have hz9 : Box7 _ B (.int .u32 r.a) (.int .i64 r.n) (.int .i64 r.m) (.int .u64 (u r.o)) (.int .u64 (u r.p)) (.int .u64 (u r.h)) (.int .u64 (u r.k)) := ⟨set7 hz.out (.int .u32 r.a) (.int .i64 r.n) (.int .i64 r.m) (.int .u64 (u r.o)) (.int .u64 (u r.p)) (.int .u64 (u r.h)) (.int .u64 (u r.k))⟩
            have hb9 := below7 hB6 lt (.int .u32 r.a) (.int .i64 r.n) (.int .i64 r.m) (.int .u64 (u r.o)) (.int .u64 (u r.p)) (.int .u64 (u r.h)) (.int .u64 (u r.k))
            clear z0 z1 z2 z3 z4 z5 z6 f0 f1 f2 f3 f4 f5 f6
            generalize ((((((World.setCell w6 ⟨B, 0, none⟩ _).setCell ⟨B, 1, none⟩ _).setCell ⟨B, 2, none⟩ _).setCell ⟨B, 3, none⟩ _).setCell ⟨B, 4, none⟩ _).setCell ⟨B, 5, none⟩ _).setCell ⟨B, 6, none⟩ _ = w9 at *
            exact bodyPost_ret (hz9.res5 _ _ rfl rfl) rfl ⟨by rw [HF.out]; rfl, by rw [HK.out]; exact hb9⟩
        · have hall' : ∀ j, (hj : j < rs.length) → hasP a n rs[j] = false := fun j hj => hall j hj (by omega)
          have HF := Lib.hid (findR_none hsd hok (has_none hall'))
          have hz := hz.below hb
          have hB5 := hB4.trans (hb.mono sz4)
          have e : i = rs.length := by omega
          subst e
          clear hall hall' hb l0 l1 hc4 hB4 sz4 hr
          have z0 : wr.cell? ⟨B, 0, none⟩ = some (.int .u32 0) := cell_at hz.out rfl
          have f0 : wr.frozen? ⟨B, 0, none⟩ = false := free_at hz.out
          have z1 : wr.cell? ⟨B, 1, none⟩ = some (.int .i64 0) := cell_at hz.out rfl
          have f1 : wr.frozen? ⟨B, 1, none⟩ = false := free_at hz.out
          have z2 : wr.cell? ⟨B, 2, none⟩ = some (.int .i64 0) := cell_at hz.out rfl
          have f2 : wr.frozen? ⟨B, 2, none⟩ = false := free_at hz.out
          have z3 : wr.cell? ⟨B, 3, none⟩ = some (.int .u64 0) := cell_at hz.out rfl
          have f3 : wr.frozen? ⟨B, 3, none⟩ = false := free_at hz.out
          have z4 : wr.cell? ⟨B, 4, none⟩ = some (.int .u64 0) := cell_at hz.out rfl
          have f4 : wr.frozen? ⟨B, 4, none⟩ = false := free_at hz.out
          have z5 : wr.cell? ⟨B, 5, none⟩ = some (.int .u64 0) := cell_at hz.out rfl
          have f5 : wr.frozen? ⟨B, 5, none⟩ = false := free_at hz.out
          have z6 : wr.cell? ⟨B, 6, none⟩ = some (.int .u64 0) := cell_at hz.out rfl
          have f6 : wr.frozen? ⟨B, 6, none⟩ = false := free_at hz.out
          go_wp2_with fail
          have hz9 : Box7 _ B (.int .u32 0) (.int .i64 0) (.int .i64 0) (.int .u64 0) (.int .u64 0) (.int .u64 0) (.int .u64 0) := ⟨set7 hz.out (.int .u32 0) (.int .i64 0) (.int .i64 0) (.int .u64 0) (.int .u64 0) (.int .u64 0) (.int .u64 0)⟩
          have hb9 := below7 hB5 lt (.int .u32 0) (.int .i64 0) (.int .i64 0) (.int .u64 0) (.int .u64 0) (.int .u64 0) (.int .u64 0)
          clear z0 z1 z2 z3 z4 z5 z6 f0 f1 f2 f3 f4 f5 f6
          generalize ((((((World.setCell wr ⟨B, 0, none⟩ _).setCell ⟨B, 1, none⟩ _).setCell ⟨B, 2, none⟩ _).setCell ⟨B, 3, none⟩ _).setCell ⟨B, 4, none⟩ _).setCell ⟨B, 5, none⟩ _).setCell ⟨B, 6, none⟩ _ = w9 at *
          exact bodyPost_ret (hz9.res5 _ _ rfl rfl) rfl ⟨by rw [HF.out]; rfl, by rw [HK.out]; exact hb9⟩
end Go.Proofs.YtpebpfaecdmabaaGreatDoor
