/- Parts of this proof, joined. -/
import Derived.Test.YtpebpfaecdmabaaGreatDoorZF19
import Derived.Test.YtpebpfaecdmabaaGreatDoorZF09
import Derived.Test.YtpebpfaecdmabaaGreatDoorZF16
import Derived.Test.YtpebpfaecdmabaaGreatDoorRows
import Derived.ProofKit
import Derived.LaidMore
import Derived.OpenShut
import Derived.Stop.Joined
import Derived.ChangeSame
/- The reference's side: Lookup. -/
namespace Go.Proofs.YtpebpfaecdmabaaGreatDoor
open Go Go.RowKit PL

theorem wt32 : wt 32 = 1 := by decide
theorem cov_iff {r : Rt} {ad : Int} (h : okP r.a r.n = true) : covP r.a r.n ad 32 = true ↔ r.a = ad / wt r.n * wt r.n := by
  have h' := h
  unfold okP at h'
  simp only [decide_eq_true_eq] at h'
  have hd := Int.emod_add_mul_ediv r.a (wt r.n)
  rw [h'.2.2, Int.zero_add] at hd
  have h32 : okP ad 32 = true := by
    unfold okP
    rw [wt32]
    simp
  unfold covP
  rw [h, h32, decide_eq_true h'.2.1]
  simp only [Bool.true_and, decide_eq_true_eq]
  constructor
  · intro e; rw [← e, Int.mul_comm]; exact hd.symm
  · intro e; rw [e, Int.mul_ediv_cancel _ (Int.ne_of_gt (wt_pos r.n))]
theorem sdR_ok {r : Rt} (h : sdR r = true) : okP r.a r.n = true := by
  unfold sdR at h
  simp only [Bool.and_eq_true] at h
  exact h.1
theorem ok_len {a n : Int} (h : okP a n = true) : 0 ≤ n ∧ n ≤ 32 := by
  unfold okP at h
  simp only [decide_eq_true_eq] at h
  exact ⟨h.1, h.2.1⟩
/-- What lookL answers. -/
theorem lookL_is (rs : List Rt) (ad : Int) : ∀ K, (∃ k r, k < K ∧ rs.find? (hasP (cutA ad k) k) = some r ∧ lookL rs ad K = (r, 0) ∧ ∀ j, k < j → j < K → rs.find? (hasP (cutA ad j) j) = none) ∨ (lookL rs ad K = (Rt.zero, 8) ∧ ∀ j, j < K → rs.find? (hasP (cutA ad j) j) = none)
  | 0 => .inr ⟨rfl, fun j hj => by omega⟩
  | K + 1 => by
    cases h : rs.find? (hasP (cutA ad K) K) with
    | some r => exact .inl ⟨K, r, by omega, h, lookL_some h, fun j h1 h2 => by omega⟩
    | none =>
      rw [lookL_none h]
      rcases lookL_is rs ad K with ⟨k, r, h1, h2, h3, h4⟩ | ⟨h1, h2⟩
      · refine .inl ⟨k, r, by omega, h2, h3, fun j h5 h6 => ?_⟩
        by_cases e : j = K
        · rw [e]; exact h
        · exact h4 j h5 (by omega)
      · refine .inr ⟨h1, fun j h5 => ?_⟩
        by_cases e : j = K
        · rw [e]; exact h
        · exact h2 j (by omega)
theorem cov_none {rs : List Rt} {ad : Int} (hs : sdT rs = true) {k : Nat} (h : rs.find? (hasP (cutA ad k) k) = none) (i : Nat) (hi : i < rs.length) (hn : rs[i].n = k) : covP rs[i].a rs[i].n ad 32 = false := by
  rw [Bool.eq_false_iff]
  intro hc
  rw [cov_iff (sdR_ok (sdT_sd hs i hi))] at hc
  rw [find_at hs hi (a := cutA ad k) (n := k) (by rw [hc, hn]; rfl) hn] at h
  cases h
/-- What Lookup answers in a sound table. -/
inductive LookS (rs : List Rt) (ad : Int) : Rt × Int → Prop
  | hit (i : Nat) (hi : i < rs.length) (hc : covP rs[i].a rs[i].n ad 32 = true) (hm : ∀ (j : Nat) (hj : j < rs.length), covP rs[j].a rs[j].n ad 32 = true → rs[j].n ≤ rs[i].n) : LookS rs ad (rs[i], 0)
  | miss (hm : ∀ (j : Nat) (hj : j < rs.length), covP rs[j].a rs[j].n ad 32 = false) : LookS rs ad (Rt.zero, 8)
theorem lookR_is {rs : List Rt} {ad : Int} (hs : sdT rs = true) : LookS rs ad (lookR rs ad) := by
  rw [lookR_0 hs]
  have hlen : ∀ (j : Nat) (hj : j < rs.length), ∃ k : Nat, k < 33 ∧ rs[j].n = k := fun j hj => by
    have := ok_len (sdR_ok (sdT_sd hs j hj))
    exact ⟨rs[j].n.toNat, by omega, by omega⟩
  rcases lookL_is rs ad 33 with ⟨k, r, h1, h2, h3, h4⟩ | ⟨h1, h2⟩
  · rw [h3]
    obtain ⟨hp, i, hi, rfl, _⟩ := List.find?_eq_some_iff_getElem.1 h2
    simp only [hasP, Bool.and_eq_true, beq_iff_eq] at hp
    refine .hit i hi ?_ fun j hj hc => ?_
    · rw [cov_iff (sdR_ok (sdT_sd hs i hi)), hp.1, hp.2]; rfl
    · obtain ⟨m, hm, e⟩ := hlen j hj
      rw [hp.2, e]
      by_cases hkm : k < m
      · rw [cov_none hs (h4 m hkm hm) j hj e] at hc; cases hc
      · omega
  · rw [h1]
    refine .miss fun j hj => ?_
    obtain ⟨m, hm, e⟩ := hlen j hj
    exact cov_none hs (h2 m hm) j hj e
theorem best_is {rs : List Rt} {ad : Int} (hs : sdT rs = true) {b : Nat} (hb : b < rs.length) (hc : covP rs[b].a rs[b].n ad 32 = true) (hm : ∀ (j : Nat) (hj : j < rs.length), covP rs[j].a rs[j].n ad 32 = true → rs[j].n ≤ rs[b].n) : lookR rs ad = (rs[b], 0) := by
  have h := lookR_is (ad := ad) hs
  generalize lookR rs ad = q at h
  cases h with
  | hit i hi hc2 hm2 =>
    have e1 : rs[i].n = rs[b].n := by
      have := hm i hi hc2
      have := hm2 b hb hc
      omega
    have e2 : rs[i].a = rs[b].a := by
      rw [cov_iff (sdR_ok (sdT_sd hs i hi))] at hc2
      rw [cov_iff (sdR_ok (sdT_sd hs b hb))] at hc
      rw [hc2, hc, e1]
    have : i = b := by
      rcases Nat.lt_trichotomy i b with h | h | h
      · have := sdT_lt' hs i b hb h; unfold ltP at this; omega
      · exact h
      · have := sdT_lt' hs b i hi h; unfold ltP at this; omega
    subst this
    rfl
  | miss hm2 => rw [hm2 b hb] at hc; cases hc
theorem none_is {rs : List Rt} {ad : Int} (hs : sdT rs = true) (hm : ∀ (j : Nat) (hj : j < rs.length), covP rs[j].a rs[j].n ad 32 = false) : lookR rs ad = (Rt.zero, 8) := by
  have h := lookR_is (ad := ad) hs
  generalize lookR rs ad = q at h
  cases h with
  | hit i hi hc2 hm2 => rw [hm i hi] at hc2; cases hc2
  | miss hm2 => rfl
/-- The best place behind so many rounds. -/
def BestS (rs : List Rt) (ad : Int) (i : Nat) (y : Value) : Prop :=
  (y = .int .i64 (-1) ∧ ∀ (j : Nat) (hj : j < rs.length), j < i → covP rs[j].a rs[j].n ad 32 = false) ∨
  ∃ (b : Nat) (hb : b < rs.length), y = .int .i64 b ∧ covP rs[b].a rs[b].n ad 32 = true ∧ ∀ (j : Nat) (hj : j < rs.length), j < i → covP rs[j].a rs[j].n ad 32 = true → rs[j].n ≤ rs[b].n
theorem BestS.no {rs : List Rt} {ad : Int} {i : Nat} {y : Value} (h : BestS rs ad i y) (hi : i < rs.length) {r : Rt} (e : rs[i] = r) (hc : covP r.a r.n ad 32 = false) : BestS rs ad (i + 1) y := by
  subst e
  rcases h with ⟨e, h⟩ | ⟨b, hb, e, h1, h2⟩
  · refine .inl ⟨e, fun j hj hji => ?_⟩
    by_cases e' : j = i
    · subst e'; exact hc
    · exact h j hj (by omega)
  · refine .inr ⟨b, hb, e, h1, fun j hj hji hcj => ?_⟩
    by_cases e' : j = i
    · subst e'; rw [hc] at hcj; cases hcj
    · exact h2 j hj (by omega) hcj
theorem BestS.less {rs : List Rt} {ad : Int} {i b : Nat} {r s : Rt} (hb : b < rs.length) (hcb : covP s.a s.n ad 32 = true) (hm : ∀ (j : Nat) (hj : j < rs.length), j < i → covP rs[j].a rs[j].n ad 32 = true → rs[j].n ≤ s.n) (hi : i < rs.length) (e : rs[i] = r) (e2 : rs[b] = s) (hl : r.n ≤ s.n) : BestS rs ad (i + 1) (.int .i64 (b : Nat)) := by
  subst e; subst e2
  refine .inr ⟨b, hb, rfl, hcb, fun j hj hji hcj => ?_⟩
  by_cases e' : j = i
  · subst e'; exact hl
  · exact hm j hj (by omega) hcj
theorem BestS.more {rs : List Rt} {ad : Int} {i : Nat} {r s : Rt} (hm : ∀ (j : Nat) (hj : j < rs.length), j < i → covP rs[j].a rs[j].n ad 32 = true → rs[j].n ≤ s.n) (hi : i < rs.length) (e : rs[i] = r) (hc : covP r.a r.n ad 32 = true) (hl : s.n < r.n) : BestS rs ad (i + 1) (.int .i64 (i : Nat)) := by
  subst e
  refine .inr ⟨i, hi, rfl, hc, fun j hj hji hcj => ?_⟩
  by_cases e' : j = i
  · subst e'; exact Int.le_refl _
  · have := hm j hj (by omega) hcj; omega
theorem BestS.first {rs : List Rt} {ad : Int} {i : Nat} {r : Rt} (hm : ∀ (j : Nat) (hj : j < rs.length), j < i → covP rs[j].a rs[j].n ad 32 = false) (hi : i < rs.length) (e : rs[i] = r) (hc : covP r.a r.n ad 32 = true) : BestS rs ad (i + 1) (.int .i64 (i : Nat)) := by
  subst e
  refine .inr ⟨i, hi, rfl, hc, fun j hj hji hcj => ?_⟩
  by_cases e' : j = i
  · subst e'; exact Int.le_refl _
  · rw [hm j hj (by omega)] at hcj; cases hcj
theorem res7 (w : World) (tmps : Array Value) (B : Nat) (v x0 x1 x2 x3 x4 x5 x6 : Value) (hp : tmps.getD 4 undef = .pointer (some ⟨B, 0, none⟩)) (hv : tmps.getD 5 undef = v)
    (h0 : w.cell? ⟨B, 0, none⟩ = some x0) (h1 : w.cell? ⟨B, 1, none⟩ = some x1) (h2 : w.cell? ⟨B, 2, none⟩ = some x2) (h3 : w.cell? ⟨B, 3, none⟩ = some x3) (h4 : w.cell? ⟨B, 4, none⟩ = some x4) (h5 : w.cell? ⟨B, 5, none⟩ = some x5) (h6 : w.cell? ⟨B, 6, none⟩ = some x6) :
    (results Tryz.f7 tmps).run Tryz.prog w = .ok (.tuple #[.agg #[x0, x1, x2, x3, x4, x5, x6], v]) w := by
  rw [Array.getD_eq_getD_getElem?] at hp hv
  simp only [results, Tryz.results7]
  simp [go_sem, hp, hv, h0, h1, h2, h3, h4, h5, h6]
theorem Box7.res7 {w : World} {B : Nat} {x0 x1 x2 x3 x4 x5 x6 : Value} (h : Box7 w B x0 x1 x2 x3 x4 x5 x6) (tmps : Array Value) (v : Value) (hp : tmps.getD 4 undef = .pointer (some ⟨B, 0, none⟩)) (hv : tmps.getD 5 undef = v) :
    (results Tryz.f7 tmps).run Tryz.prog w = .ok (.tuple #[.agg #[x0, x1, x2, x3, x4, x5, x6], v]) w :=
  Go.Proofs.YtpebpfaecdmabaaGreatDoor.res7 w tmps B v _ _ _ _ _ _ _ hp hv (cell_at h.out rfl) (cell_at h.out rfl) (cell_at h.out rfl) (cell_at h.out rfl) (cell_at h.out rfl) (cell_at h.out rfl) (cell_at h.out rfl)
set_option maxHeartbeats 8000000 in
set_option maxRecDepth 100000 in
theorem RLookup_any (v : Value) (rs : List Rt) (ad : Int) (w : World) (h : RtS w v rs) (hl : rs.length ≤ 4398046511104) (hr : ∀ r ∈ rs, r.in32) (ha : 0 ≤ ad) (ha2 : ad < 4294967296) :
    Calls Tryz.prog 7 #[v, .int .u32 ad] w fun e w' => e = .returned (.tuple #[rtv (lookR rs ad).1, .int .i64 (lookR rs ad).2]) ∧ Below w.heap.size w w' := by
  obtain ⟨b, cap, rfl, hm, hc⟩ := h.form
  go_enter Tryz.func7, Tryz.ntmps7
  go_upto_region 1 with fail
  have hA1 := (Below.refl _ w).alloc (Nat.le_refl _) (.cells #[.int .u32 0, .int .i64 0, .int .i64 0, .int .u64 0, .int .u64 0, .int .u64 0, .int .u64 0] 30)
  have hz : zeroB (w.alloc (.cells #[.int .u32 0, .int .i64 0, .int .i64 0, .int .u64 0, .int .u64 0, .int .u64 0, .int .u64 0] 30)) w.heap.size := ⟨heap_alloc_new _ _⟩
  have hc2 := RecS.below hc hA1
  have lt := Nat.le_refl w.heap.size
  have sz := hA1.size
  have hB := hA1
  clear hA1 hc h
  generalize w.alloc _ = w2 at *
  generalize hK : w.heap.size = B at *
  have HK := Lib.hid hK
  clear hK
  cases hsd : sdT rs
  · have HE := Lib.hid (sdE_not hsd)
    have HF := Lib.hid (lookR_1 (b := ad) hsd)
    clear hsd
    go_wp2_with fail
    refine (RSound_is _ _ _ hc2 hl hr HE.out).mono ?_
    rintro e w3 ⟨rfl, hb3⟩
    replace hz := hz.below hb3
    have hB3 := hB.trans (hb3.mono sz)
    clear hc2 hb3 hB
    have z0 : w3.cell? ⟨B, 0, none⟩ = some (.int .u32 0) := cell_at hz.out rfl
    have f0 : w3.frozen? ⟨B, 0, none⟩ = false := free_at hz.out
    have z1 : w3.cell? ⟨B, 1, none⟩ = some (.int .i64 0) := cell_at hz.out rfl
    have f1 : w3.frozen? ⟨B, 1, none⟩ = false := free_at hz.out
    have z2 : w3.cell? ⟨B, 2, none⟩ = some (.int .i64 0) := cell_at hz.out rfl
    have f2 : w3.frozen? ⟨B, 2, none⟩ = false := free_at hz.out
    have z3 : w3.cell? ⟨B, 3, none⟩ = some (.int .u64 0) := cell_at hz.out rfl
    have f3 : w3.frozen? ⟨B, 3, none⟩ = false := free_at hz.out
    have z4 : w3.cell? ⟨B, 4, none⟩ = some (.int .u64 0) := cell_at hz.out rfl
    have f4 : w3.frozen? ⟨B, 4, none⟩ = false := free_at hz.out
    have z5 : w3.cell? ⟨B, 5, none⟩ = some (.int .u64 0) := cell_at hz.out rfl
    have f5 : w3.frozen? ⟨B, 5, none⟩ = false := free_at hz.out
    have z6 : w3.cell? ⟨B, 6, none⟩ = some (.int .u64 0) := cell_at hz.out rfl
    have f6 : w3.frozen? ⟨B, 6, none⟩ = false := free_at hz.out
    go_wp2_with fail
    have hz9 : Box7 _ B (.int .u32 0) (.int .i64 0) (.int .i64 0) (.int .u64 0) (.int .u64 0) (.int .u64 0) (.int .u64 0) := ⟨set7 hz.out (.int .u32 0) (.int .i64 0) (.int .i64 0) (.int .u64 0) (.int .u64 0) (.int .u64 0) (.int .u64 0)⟩
    have hb9 := below7 hB3 lt (.int .u32 0) (.int .i64 0) (.int .i64 0) (.int .u64 0) (.int .u64 0) (.int .u64 0) (.int .u64 0)
    clear z0 z1 z2 z3 z4 z5 z6 f0 f1 f2 f3 f4 f5 f6
    generalize ((((((World.setCell w3 ⟨B, 0, none⟩ _).setCell ⟨B, 1, none⟩ _).setCell ⟨B, 2, none⟩ _).setCell ⟨B, 3, none⟩ _).setCell ⟨B, 4, none⟩ _).setCell ⟨B, 5, none⟩ _).setCell ⟨B, 6, none⟩ _ = w9 at *
    exact bodyPost_ret (hz9.res7 _ _ rfl rfl) rfl ⟨by rw [HF.out]; rfl, by rw [HK.out]; exact hb9⟩
  · have HE := Lib.hid (sdE_yes hsd)
    go_wp2_with fail
    refine (RSound_is _ _ _ hc2 hl hr HE.out).mono ?_
    rintro e w3 ⟨rfl, hb3⟩
    replace hz := hz.below hb3
    have hB3 := hB.trans (hb3.mono sz)
    have hc3 := RecS.below hc2 hb3
    have sz3 := Nat.le_trans sz hb3.size
    clear hc2 hb3 hB sz
    go_wp2_with fail
    go_loopw [6, 7] (fun y x wr => ∃ i : Nat, x = .int .i64 i ∧ i ≤ rs.length ∧ BestS rs ad i y ∧ Below w3.heap.size w3 wr) (fun _ x _ => rs.length - (kO x).toNat)
    case atStart => exact ⟨0, rfl, Nat.zero_le _, .inl ⟨rfl, fun j _ hj => by omega⟩, Below.refl _ _⟩
    case round =>
      obtain ⟨i, rfl, hi, hbest, hb⟩ := hrel
      have hc4 := RecS.below hc3 hb
      have hz4 := hz.below hb
      have hB4 := hB3.trans (hb.mono sz3)
      have sz4 := Nat.le_trans sz3 hb.size
      by_cases hlt : i < rs.length
      · obtain ⟨K2, off, rfl, r0, r1, _⟩ := RtS.row hc4 i hlt
        have hri := hr rs[i] (List.getElem_mem hlt)
        generalize hr' : rs[i] = r at *
        have HR := Lib.hid hr'
        have q0 := fun n : ExtW wr => exw_cell r0 n
        have q1 := fun n : ExtW wr => exw_cell r1 n
        clear r0 r1 hr'
        cases hcv : covP r.a r.n ad 32
        · have HC := Lib.hid hcv
          have HB := hbest.no hlt HR.out hcv
          clear hbest hcv
          go_upto_region 7 with fail
          refine region_ext (by kernel_rfl) (by kernel_rfl) ?_
          repeat (go_big_quiet_step ((go_at_call 18; exact ext_call (RCovers_is hri.1 hri.2 ha ha2 _ HC.out))))
          refine wpQuiet_nil ?_
          rintro _ ⟨nq, rfl⟩
          clear q0 q1
          have hbn := hb.trans ((exw_below nq).mono hb.size)
          go_wp2_with fail
          go_roundw
          case rel => exact ⟨i + 1, by go_num, hlt, HB, hbn⟩
          case measure => simp only [kO]; omega
        · have HC := Lib.hid hcv
          rcases hbest with ⟨rfl, hnone⟩ | ⟨b, hbl, rfl, hcb, hmx⟩
          · have HB := Lib.hid (BestS.first hnone hlt HR.out hcv)
            clear hnone hcv
            go_upto_region 7 with fail
            refine region_ext (by kernel_rfl) (by kernel_rfl) ?_
            repeat (go_big_quiet_step ((go_at_call 18; exact ext_call (RCovers_is hri.1 hri.2 ha ha2 _ HC.out))))
            refine wpQuiet_nil ?_
            rintro _ ⟨nq, rfl⟩
            clear q0 q1
            have hbn := hb.trans ((exw_below nq).mono hb.size)
            go_wp2_with fail
            go_roundw
            case rel => exact ⟨i + 1, by go_num, hlt, HB.out, hbn⟩
            case measure => simp only [kO]; omega
          · obtain ⟨K3, off3, e3, s0, s1, _⟩ := RtS.row hc4 b hbl
            obtain ⟨rfl, rfl⟩ : K3 = K2 ∧ off3 = off := by injection e3 with e3; injection e3 with e3 e4; exact ⟨e3.symm, e4.symm⟩
            clear e3
            generalize hs' : rs[b] = s at *
            have hnb : decide (((b : Nat) : Int) < 0) = false := by simp
            have HS := Lib.hid hs'
            have t1 := fun n : ExtW wr => exw_cell s1 n
            clear s0 s1 hs'
            by_cases hgt : s.n < r.n
            · have HB := Lib.hid (BestS.more hmx hlt HR.out hcv hgt)
              clear hmx hcv hcb
              go_upto_region 7 with fail
              refine region_ext (by kernel_rfl) (by kernel_rfl) ?_
              repeat (go_big_quiet_step ((go_at_call 18; exact ext_call (RCovers_is hri.1 hri.2 ha ha2 _ HC.out))))
              refine wpQuiet_nil ?_
              rintro _ ⟨nq, rfl⟩
              clear q0 q1 t1
              have hbn := hb.trans ((exw_below nq).mono hb.size)
              go_wp2_with fail
              go_roundw
              case rel => exact ⟨i + 1, by go_num, hlt, HB.out, hbn⟩
              case measure => simp only [kO]; omega
            · have hle : r.n ≤ s.n := by omega
              have HB := Lib.hid (BestS.less hbl hcb hmx hlt HR.out HS.out hle)
              clear hmx hcv hcb
              go_upto_region 7 with fail
              refine region_ext (by kernel_rfl) (by kernel_rfl) ?_
              repeat (go_big_quiet_step ((go_at_call 18; exact ext_call (RCovers_is hri.1 hri.2 ha ha2 _ HC.out))))
              refine wpQuiet_nil ?_
              rintro _ ⟨nq, rfl⟩
              clear q0 q1 t1
              have hbn := hb.trans ((exw_below nq).mono hb.size)
              go_wp2_with fail
              go_roundw
              case rel => exact ⟨i + 1, by go_num, hlt, HB.out, hbn⟩
              case measure => simp only [kO]; omega
      · have e : i = rs.length := by omega
        subst e
        have hz := hz4
        rcases hbest with ⟨rfl, hnone⟩ | ⟨b, hbl, rfl, hcb, hmx⟩
        · have HF := Lib.hid (none_is hsd (fun j hj => hnone j hj hj))
          clear hnone hsd hr
          have z0 : wr.cell? ⟨B, 0, none⟩ = some (.int .u32 0) := cell_at hz.out rfl
          have f0 : wr.frozen? ⟨B, 0, none⟩ = false := free_at hz.out
          have z1 : wr.cell? ⟨B, 1, none⟩ = some (.int .i64 0) := cell_at hz.out rfl
          have f1 : wr.frozen? ⟨B, 1, none⟩ = false := free_at hz.out
          have z2 : wr.cell? ⟨B, 2, none⟩ = some (.int .i64 0) := cell_at hz.out rfl
          have f2 : wr.frozen? ⟨B, 2, none⟩ = false := free_at hz.out
          have z3 : wr.cell? ⟨B, 3, none⟩ = some (.int .u64 0) := cell_at hz.out rfl
          have f3 : wr.frozen? ⟨B, 3, none⟩ = false := free_at hz.out
          have z4 : wr.cell? ⟨B, 4, none⟩ = some (.int .u64 0) := cell_at hz.out rfl
          have f4 : wr.frozen? ⟨B, 4, none⟩ = false := free_at hz.out
          have z5 : wr.cell? ⟨B, 5, none⟩ = some (.int .u64 0) := cell_at hz.out rfl
          have f5 : wr.frozen? ⟨B, 5, none⟩ = false := free_at hz.out
          have z6 : wr.cell? ⟨B, 6, none⟩ = some (.int .u64 0) := cell_at hz.out rfl
          have f6 : wr.frozen? ⟨B, 6, none⟩ = false := free_at hz.out
          go_wp2_with fail
          have hz9 : Box7 _ B (.int .u32 0) (.int .i64 0) (.int .i64 0) (.int .u64 0) (.int .u64 0) (.int .u64 0) (.int .u64 0) := ⟨set7 hz.out (.int .u32 0) (.int .i64 0) (.int .i64 0) (.int .u64 0) (.int .u64 0) (.int .u64 0) (.int .u64 0)⟩
          have hb9 := below7 hB4 lt (.int .u32 0) (.int .i64 0) (.int .i64 0) (.int .u64 0) (.int .u64 0) (.int .u64 0) (.int .u64 0)
          clear z0 z1 z2 z3 z4 z5 z6 f0 f1 f2 f3 f4 f5 f6
          generalize ((((((World.setCell wr ⟨B, 0, none⟩ _).setCell ⟨B, 1, none⟩ _).setCell ⟨B, 2, none⟩ _).setCell ⟨B, 3, none⟩ _).setCell ⟨B, 4, none⟩ _).setCell ⟨B, 5, none⟩ _).setCell ⟨B, 6, none⟩ _ = w9 at *
          exact bodyPost_ret (hz9.res7 _ _ rfl rfl) rfl ⟨by rw [HF.out]; rfl, by rw [HK.out]; exact hb9⟩
        · have HF := Lib.hid (best_is hsd hbl hcb (fun j hj => hmx j hj hj))
          obtain ⟨K2, off, rfl, r0, r1, r2, r3, r4, r5, r6⟩ := RtS.row hc4 b hbl
          clear hmx hcb hsd hr
          generalize rs[b] = r at *
          have z0 : wr.cell? ⟨B, 0, none⟩ = some (.int .u32 0) := cell_at hz.out rfl
          have f0 : wr.frozen? ⟨B, 0, none⟩ = false := free_at hz.out
          have z1 : wr.cell? ⟨B, 1, none⟩ = some (.int .i64 0) := cell_at hz.out rfl
          have f1 : wr.frozen? ⟨B, 1, none⟩ = false := free_at hz.out
          have z2 : wr.cell? ⟨B, 2, none⟩ = some (.int .i64 0) := cell_at hz.out rfl
          have f2 : wr.frozen? ⟨B, 2, none⟩ = false := free_at hz.out
          have z3 : wr.cell? ⟨B, 3, none⟩ = some (.int .u64 0) := cell_at hz.out rfl
          have f3 : wr.frozen? ⟨B, 3, none⟩ = false := free_at hz.out
          have z4 : wr.cell? ⟨B, 4, none⟩ = some (.int .u64 0) := cell_at hz.out rfl
          have f4 : wr.frozen? ⟨B, 4, none⟩ = false := free_at hz.out
          have z5 : wr.cell? ⟨B, 5, none⟩ = some (.int .u64 0) := cell_at hz.out rfl
          have f5 : wr.frozen? ⟨B, 5, none⟩ = false := free_at hz.out
          have z6 : wr.cell? ⟨B, 6, none⟩ = some (.int .u64 0) := cell_at hz.out rfl
          have f6 : wr.frozen? ⟨B, 6, none⟩ = false := free_at hz.out
          go_wp2_with fail
          clear r0 r1 r2 r3 r4 r5 r6
          have hz9 : Box7 _ B (.int .u32 r.a) (.int .i64 r.n) (.int .i64 r.m) (.int .u64 (u r.o)) (.int .u64 (u r.p)) (.int .u64 (u r.h)) (.int .u64 (u r.k)) := ⟨set7 hz.out (.int .u32 r.a) (.int .i64 r.n) (.int .i64 r.m) (.int .u64 (u r.o)) (.int .u64 (u r.p)) (.int .u64 (u r.h)) (.int .u64 (u r.k))⟩
          have hb9 := below7 hB4 lt (.int .u32 r.a) (.int .i64 r.n) (.int .i64 r.m) (.int .u64 (u r.o)) (.int .u64 (u r.p)) (.int .u64 (u r.h)) (.int .u64 (u r.k))
          clear z0 z1 z2 z3 z4 z5 z6 f0 f1 f2 f3 f4 f5 f6
          generalize ((((((World.setCell wr ⟨B, 0, none⟩ _).setCell ⟨B, 1, none⟩ _).setCell ⟨B, 2, none⟩ _).setCell ⟨B, 3, none⟩ _).setCell ⟨B, 4, none⟩ _).setCell ⟨B, 5, none⟩ _).setCell ⟨B, 6, none⟩ _ = w9 at *
          exact bodyPost_ret (hz9.res7 _ _ rfl rfl) rfl ⟨by rw [HF.out]; rfl, by rw [HK.out]; exact hb9⟩
end Go.Proofs.YtpebpfaecdmabaaGreatDoor
/- Same of two tables that are alike; the law PrefixFinds. -/
namespace Go.Proofs.YtpebpfaecdmabaaGreatDoor
open Go Go.RowKit PL

set_option maxHeartbeats 8000000 in
set_option maxRecDepth 100000 in
theorem Same_any (v v2 : Value) (rs : List Rt) (w : World) (h : RtS w v rs) (h2 : RtS w v2 rs) (hl : rs.length ≤ 4398046511104) : Calls Tryz.prog 11 #[v, v2] w fun e w' => e = .returned (.bool true) ∧ Below w.heap.size w w' := by
  obtain ⟨b, cap, rfl, hm, hc⟩ := h.form
  obtain ⟨b2, cap2, rfl, hm2, hc2⟩ := h2.form
  clear h h2
  go_enter Tryz.func11, Tryz.ntmps11
  go_wp2_with fail
  go_loopw [5] (fun x wr => ∃ i : Nat, x = .int .i64 i ∧ i ≤ rs.length ∧ Below w.heap.size w wr) (fun x _ => rs.length - (kO x).toNat)
  case atStart => exact ⟨0, rfl, Nat.zero_le _, Below.refl _ _⟩
  case round =>
    obtain ⟨i, rfl, hi, hb⟩ := hrel
    by_cases hlt : i < rs.length
    · obtain ⟨K, off, rfl, r0, r1, r2, r3, r4, r5, r6⟩ := RtS.row (RecS.below hc hb) i hlt
      obtain ⟨K2, off2, rfl, s0, s1, s2, s3, s4, s5, s6⟩ := RtS.row (RecS.below hc2 hb) i hlt
      generalize rs[i] = r at *
      have q0 := fun n : ExtW wr => exw_cell r0 n
      have q1 := fun n : ExtW wr => exw_cell r1 n
      have q2 := fun n : ExtW wr => exw_cell r2 n
      have q3 := fun n : ExtW wr => exw_cell r3 n
      have q4 := fun n : ExtW wr => exw_cell r4 n
      have q5 := fun n : ExtW wr => exw_cell r5 n
      have q6 := fun n : ExtW wr => exw_cell r6 n
      have p0 := fun n : ExtW wr => exw_cell s0 n
      have p1 := fun n : ExtW wr => exw_cell s1 n
      have p2 := fun n : ExtW wr => exw_cell s2 n
      have p3 := fun n : ExtW wr => exw_cell s3 n
      have p4 := fun n : ExtW wr => exw_cell s4 n
      have p5 := fun n : ExtW wr => exw_cell s5 n
      have p6 := fun n : ExtW wr => exw_cell s6 n
      have hq : ∀ w, (Op.equalIn 10000 30 (rtv r) (rtv r)).run Tryz.prog w = .ok true w := eq_rr r
      clear r0 r1 r2 r3 r4 r5 r6 s0 s1 s2 s3 s4 s5 s6
      go_upto_region 6 with fail
      refine region_ext (by kernel_rfl) (by kernel_rfl) ?_
      repeat (go_big_quiet_step (fail))
      refine wpQuiet_nil ?_
      rintro _ ⟨nq, rfl⟩
      clear hq q0 q1 q2 q3 q4 q5 q6 p0 p1 p2 p3 p4 p5 p6
      go_wp2_with fail
      go_roundw
      case rel => exact ⟨i + 1, by go_num, hlt, hb.trans ((exw_below nq).mono hb.size)⟩
      case measure => simp only [kO]; omega
    · have e : i = rs.length := by omega
      subst e
      go_wp2_with fail
      go_ret
      exact ⟨rfl, hb⟩
theorem RFind_is (v : Value) (rs : List Rt) (a n : Int) (w : World) (h : RtS w v rs) (hl : rs.length ≤ 4398046511104) (hr : ∀ r ∈ rs, r.in32) (ha : 0 ≤ a) {r : Rt} {x : Int} (hx : findR rs a n = (r, x)) :
    Calls Tryz.prog 5 #[v, pfx a n] w fun e w' => e = .returned (.tuple #[rtv r, .int .i64 x]) ∧ Below w.heap.size w w' := by
  have := RFind_any v rs a n w h hl hr ha
  rwa [hx] at this
theorem Lookup_is (v : Value) (rs : List Rt) (ad : Int) (w : World) (h : RtS w v rs) (hl : rs.length ≤ 4398046511104) (hr : ∀ r ∈ rs, r.in32) (ha : 0 ≤ ad) (ha2 : ad < 4294967296) {r : Rt} {x : Int} (hx : lookR rs ad = (r, x)) :
    Calls Tryz.prog 6 #[v, .int .u32 ad] w fun e w' => e = .returned (.tuple #[rtv r, .int .i64 x]) ∧ Below w.heap.size w w' := by
  have := Lookup_any v rs ad w h hl hr ha ha2
  rwa [hx] at this
theorem RLookup_is (v : Value) (rs : List Rt) (ad : Int) (w : World) (h : RtS w v rs) (hl : rs.length ≤ 4398046511104) (hr : ∀ r ∈ rs, r.in32) (ha : 0 ≤ ad) (ha2 : ad < 4294967296) {r : Rt} {x : Int} (hx : lookR rs ad = (r, x)) :
    Calls Tryz.prog 7 #[v, .int .u32 ad] w fun e w' => e = .returned (.tuple #[rtv r, .int .i64 x]) ∧ Below w.heap.size w w' := by
  have := RLookup_any v rs ad w h hl hr ha ha2
  rwa [hx] at this
theorem info30 : (Tryz.prog.info? 30).map (fun i => (i.zero, i.size, i.bytes)) = some (some (.agg #[.int .u32 0, .int .i64 0, .int .i64 0, .int .u64 0, .int .u64 0, .int .u64 0, .int .u64 0]), 7, 56) := by kernel_rfl
theorem rt_all (rs : List Rt) : ∀ u ∈ rs.flatMap Rt.cs, u.oneCell' = true := by
  intro x hx
  obtain ⟨s, _, h⟩ := List.mem_flatMap.1 hx
  simp only [Rt.cs, List.mem_cons, List.not_mem_nil, or_false] at h
  rcases h with rfl | rfl | rfl | rfl | rfl | rfl | rfl <;> rfl
/-- A route in a box. -/
structure RB (w : World) (K : Nat) (r : Rt) : Prop where
  c : ∀ (j : Nat) u, r.cs[j]? = some u → w.cell? ⟨K, j, none⟩ = some u
theorem RB.below {w w2 : World} {K : Nat} {r : Rt} (h : RB w K r) (b : Below w.heap.size w w2) : RB w2 K r := ⟨fun j u hu => (b.cell (World.block_lt_of_cell? _ _ (h.c j u hu))).trans (h.c j u hu)⟩
theorem RB.new (w : World) (r : Rt) : RB (w.alloc (.cells #[.int .u32 r.a, .int .i64 r.n, .int .i64 r.m, .int .u64 (u r.o), .int .u64 (u r.p), .int .u64 (u r.h), .int .u64 (u r.k)] 30)) w.heap.size r := ⟨fun j u hu => box_new w _ 30 j u (by simpa [Rt.cs] using hu)⟩
set_option maxHeartbeats 16000000 in
set_option maxRecDepth 100000 in
theorem PrefixFinds_walk (v : Value) (rs : List Rt) (a n ad : Int) (w : World) (hAw : ∀ w, Bs.TabW w → Calls Tryz.prog 8 #[] w fun e w' => e = .returned (.bool true) ∧ Below w.heap.size w w') (hTab : Bs.TabW w) (h : RtS w v rs) (hl : rs.length * 56 ≤ 140737488351232) (hr : ∀ r ∈ rs, r.in32) (ha : 0 ≤ a) (ha2 : a < 4294967296) (hd : 0 ≤ ad) (hd2 : ad < 4294967296) :
    Calls Tryz.prog 3 #[v, pfx a n, .int .u32 ad] w fun e w' => e = .returned (.bool true) ∧ Below w.heap.size w w' := by
  obtain ⟨b, cap, rfl, hm, hc⟩ := h.form
  have hl2 : rs.length ≤ 4398046511104 := by omega
  obtain ⟨r, x, hf⟩ : ∃ r x, findR rs a n = (r, x) := ⟨_, _, rfl⟩
  obtain ⟨s, y, hk⟩ : ∃ r x, lookR rs ad = (r, x) := ⟨_, _, rfl⟩
  have HF := Lib.hid hf
  have HL := Lib.hid hk
  have HS := Lib.hid (show sdE rs = sdE rs from rfl)
  generalize hE : sdE rs = z at HS
  have HE := Lib.hid hE
  clear hf hk h hE HS
  have hA := (Below.refl _ w).alloc (Nat.le_refl _) (.cells #[.int .u32 a, .int .i64 n] 25)
  have k0 := box_new w #[.int .u32 a, .int .i64 n] 25 0 (.int .u32 a) rfl
  have k1 := box_new w #[.int .u32 a, .int .i64 n] 25 1 (.int .i64 n) rfl
  go_enter Tryz.func3, Tryz.ntmps3
  go_upto_region 1 with fail
  have hc1 := RecS.below hc hA
  have hT := hTab.below hA
  clear hc hTab
  generalize hK : w.heap.size = K at *
  have HK := Lib.hid hK
  generalize w.alloc _ = w1 at *
  have sz1 : K ≤ w1.heap.size := by rw [← hK]; rw [hK]; exact World.block_lt_of_cell? _ _ k0 |> Nat.le_of_lt
  clear hK
  have hmr := made_row w1 _ rfl 30 7
  go_upto_region 2 with (at_builtin; refine wpList_append_sl rfl _ _ 22 30 rfl w1.heap.size (.agg #[.int .u32 0, .int .i64 0, .int .i64 0, .int .u64 0, .int .u64 0, .int .u64 0, .int .u64 0]) 7 56 Tryz.underlying22 info30 rfl (by decide) (by decide) (.slice (some ⟨w1.heap.size, 0, none⟩) 0 0) 0 [] rfl hmr _ rs.length (rs.flatMap Rt.cs) rfl (hc1.alloc _) (rt_all rs) (by omega) (by simp) ?_; intro v1 w2 hown1 hg1 hat1; rw [Nat.zero_add] at hown1)
  have hb2 := clone_grown rfl hg1
  have ho2 : RtS w2 v1 rs := by have := SlR.of_owns hown1; rw [List.nil_append] at this; exact this
  have hc2 := RecS.below hc1 hb2
  have hT2 := hT.below hb2
  have hB2 := hA.trans (hb2.mono sz1)
  have sz2 := Nat.le_trans sz1 hb2.size
  have l0 := (hb2.cell (World.block_lt_of_cell? _ _ k0)).trans k0
  have l1 := (hb2.cell (World.block_lt_of_cell? _ _ k1)).trans k1
  clear hmr hown1 hg1 hat1 hA k0 k1 hc1 hT hb2 sz1
  go_wp2_with fail
  refine (Find_is _ rs a n _ ho2 hl2 hr ha ha2 HF.out).mono ?_
  rintro e x2 ⟨rfl, hb⟩
  have hA := (Below.refl _ x2).alloc (Nat.le_refl _) (.cells #[.int .u32 r.a, .int .i64 r.n, .int .i64 r.m, .int .u64 (u r.o), .int .u64 (u r.p), .int .u64 (u r.h), .int .u64 (u r.k)] 30)
  have hN := RB.new x2 r
  have hb' := hb.trans (hA.mono hb.size)
  have hc3 := RecS.below hc2 hb'
  have ho3 := RecS.below ho2 hb'
  have hT3 := hT2.below hb'
  have hB3 := hB2.trans (hb'.mono sz2)
  have sz3 := Nat.le_trans sz2 hb'.size
  replace l0 := (hb'.cell (World.block_lt_of_cell? _ _ l0)).trans l0
  replace l1 := (hb'.cell (World.block_lt_of_cell? _ _ l1)).trans l1
  clear hb hA hc2 ho2 hT2 hB2 sz2 hb'
  go_upto_region 3 with fail
  generalize x2.heap.size = J2 at *
  generalize x2.alloc _ = w3 at *
  have rb2 := hN
  clear hN
  go_wp2_with fail
  refine (RFind_is _ rs a n _ hc3 hl2 hr ha HF.out).mono ?_
  rintro e x3 ⟨rfl, hb⟩
  have hA := (Below.refl _ x3).alloc (Nat.le_refl _) (.cells #[.int .u32 r.a, .int .i64 r.n, .int .i64 r.m, .int .u64 (u r.o), .int .u64 (u r.p), .int .u64 (u r.h), .int .u64 (u r.k)] 30)
  have hN := RB.new x3 r
  have hb' := hb.trans (hA.mono hb.size)
  have hc4 := RecS.below hc3 hb'
  have ho4 := RecS.below ho3 hb'
  have hT4 := hT3.below hb'
  have hB4 := hB3.trans (hb'.mono sz3)
  have sz4 := Nat.le_trans sz3 hb'.size
  replace rb2 := rb2.below hb'
  replace l0 := (hb'.cell (World.block_lt_of_cell? _ _ l0)).trans l0
  replace l1 := (hb'.cell (World.block_lt_of_cell? _ _ l1)).trans l1
  clear hb hA hc3 ho3 hT3 hB3 sz3 hb'
  go_upto_region 4 with fail
  generalize x3.heap.size = J3 at *
  generalize x3.alloc _ = w4 at *
  have rb3 := hN
  clear hN
  go_wp2_with fail
  refine (Lookup_is _ rs ad _ ho4 hl2 hr hd hd2 HL.out).mono ?_
  rintro e x4 ⟨rfl, hb⟩
  have hA := (Below.refl _ x4).alloc (Nat.le_refl _) (.cells #[.int .u32 s.a, .int .i64 s.n, .int .i64 s.m, .int .u64 (u s.o), .int .u64 (u s.p), .int .u64 (u s.h), .int .u64 (u s.k)] 30)
  have hN := RB.new x4 s
  have hb' := hb.trans (hA.mono hb.size)
  have hc5 := RecS.below hc4 hb'
  have ho5 := RecS.below ho4 hb'
  have hT5 := hT4.below hb'
  have hB5 := hB4.trans (hb'.mono sz4)
  have sz5 := Nat.le_trans sz4 hb'.size
  replace rb2 := rb2.below hb'
  replace rb3 := rb3.below hb'
  clear hb hA hc4 ho4 hT4 hB4 sz4 hb'
  go_upto_region 5 with fail
  generalize x4.heap.size = J4 at *
  generalize x4.alloc _ = w5 at *
  have rb4 := hN
  clear hN
  go_wp2_with fail
  refine (RLookup_is _ rs ad _ hc5 hl2 hr hd hd2 HL.out).mono ?_
  rintro e x5 ⟨rfl, hb⟩
  have hA := (Below.refl _ x5).alloc (Nat.le_refl _) (.cells #[.int .u32 s.a, .int .i64 s.n, .int .i64 s.m, .int .u64 (u s.o), .int .u64 (u s.p), .int .u64 (u s.h), .int .u64 (u s.k)] 30)
  have hN := RB.new x5 s
  have hb' := hb.trans (hA.mono hb.size)
  have hc6 := RecS.below hc5 hb'
  have ho6 := RecS.below ho5 hb'
  have hT6 := hT5.below hb'
  have hB6 := hB5.trans (hb'.mono sz5)
  have sz6 := Nat.le_trans sz5 hb'.size
  replace rb2 := rb2.below hb'
  replace rb3 := rb3.below hb'
  replace rb4 := rb4.below hb'
  clear hb hA hc5 ho5 hT5 hB5 sz5 hb'
  go_upto_region 6 with fail
  generalize x5.heap.size = J5 at *
  generalize x5.alloc _ = w6 at *
  have rb5 := hN
  clear hN
  go_wp2_with fail
  refine (hAw _ hT6).mono ?_
  rintro e x6 ⟨rfl, hb⟩
  have hc7 := RecS.below hc6 hb
  have ho7 := RecS.below ho6 hb
  have hB7 := hB6.trans (hb.mono sz6)
  have sz7 := Nat.le_trans sz6 hb.size
  replace rb2 := rb2.below hb
  replace rb3 := rb3.below hb
  replace rb4 := rb4.below hb
  replace rb5 := rb5.below hb
  clear hb hc6 ho6 hT6 hB6 sz6
  go_wp2_with fail
  refine (Sound_is _ rs _ ho7 hl2 hr HE.out).mono ?_
  rintro e x7 ⟨rfl, hb⟩
  have hc8 := RecS.below hc7 hb
  have ho8 := RecS.below ho7 hb
  have hB8 := hB7.trans (hb.mono sz7)
  have sz8 := Nat.le_trans sz7 hb.size
  replace rb2 := rb2.below hb
  replace rb3 := rb3.below hb
  replace rb4 := rb4.below hb
  replace rb5 := rb5.below hb
  clear hb hc7 ho7 hB7 sz7
  go_wp2_with fail
  refine (RSound_is _ rs _ hc8 hl2 hr HE.out).mono ?_
  rintro e x8 ⟨rfl, hb⟩
  have hc9 := RecS.below hc8 hb
  have ho9 := RecS.below ho8 hb
  have hB9 := hB8.trans (hb.mono sz8)
  have sz9 := Nat.le_trans sz8 hb.size
  replace rb2 := rb2.below hb
  replace rb3 := rb3.below hb
  replace rb4 := rb4.below hb
  replace rb5 := rb5.below hb
  clear hb hc8 ho8 hB8 sz8
  have rb2_0 := rb2.c 0 (.int .u32 r.a) rfl
  have rb2_1 := rb2.c 1 (.int .i64 r.n) rfl
  have rb2_2 := rb2.c 2 (.int .i64 r.m) rfl
  have rb2_3 := rb2.c 3 (.int .u64 (u r.o)) rfl
  have rb2_4 := rb2.c 4 (.int .u64 (u r.p)) rfl
  have rb2_5 := rb2.c 5 (.int .u64 (u r.h)) rfl
  have rb2_6 := rb2.c 6 (.int .u64 (u r.k)) rfl
  have rb3_0 := rb3.c 0 (.int .u32 r.a) rfl
  have rb3_1 := rb3.c 1 (.int .i64 r.n) rfl
  have rb3_2 := rb3.c 2 (.int .i64 r.m) rfl
  have rb3_3 := rb3.c 3 (.int .u64 (u r.o)) rfl
  have rb3_4 := rb3.c 4 (.int .u64 (u r.p)) rfl
  have rb3_5 := rb3.c 5 (.int .u64 (u r.h)) rfl
  have rb3_6 := rb3.c 6 (.int .u64 (u r.k)) rfl
  have rb4_0 := rb4.c 0 (.int .u32 s.a) rfl
  have rb4_1 := rb4.c 1 (.int .i64 s.n) rfl
  have rb4_2 := rb4.c 2 (.int .i64 s.m) rfl
  have rb4_3 := rb4.c 3 (.int .u64 (u s.o)) rfl
  have rb4_4 := rb4.c 4 (.int .u64 (u s.p)) rfl
  have rb4_5 := rb4.c 5 (.int .u64 (u s.h)) rfl
  have rb4_6 := rb4.c 6 (.int .u64 (u s.k)) rfl
  have rb5_0 := rb5.c 0 (.int .u32 s.a) rfl
  have rb5_1 := rb5.c 1 (.int .i64 s.n) rfl
  have rb5_2 := rb5.c 2 (.int .i64 s.m) rfl
  have rb5_3 := rb5.c 3 (.int .u64 (u s.o)) rfl
  have rb5_4 := rb5.c 4 (.int .u64 (u s.p)) rfl
  have rb5_5 := rb5.c 5 (.int .u64 (u s.h)) rfl
  have rb5_6 := rb5.c 6 (.int .u64 (u s.k)) rfl
  have hqr := eq_rr r
  have hqs := eq_rr s
  clear rb2 rb3 rb4 rb5
  go_wp2_with fail
  refine (Same_any _ _ rs _ ho9 hc9 hl2).mono ?_
  rintro e x9 ⟨rfl, hb⟩
  go_wp2_with fail
  go_ret
  exact ⟨rfl, by rw [HK.out]; exact hB9.trans (hb.mono sz9)⟩
end Go.Proofs.YtpebpfaecdmabaaGreatDoor
/- The laid table, read; a prefix among the arguments, opened. -/
namespace Go.Proofs.YtpebpfaecdmabaaGreatDoor
open Go.ChangeShapes Go.WideShapes Go.ChangeAt Go.WideMaps Go.WideElems Go.RowKit

def laidTab {H : Type} : List (String × DataW H) := [("math/bits.deBruijn64tab", Rows.laid_math_bits_deBruijn64tab)]
theorem gTab : Tryz.prog.globalNamed "math/bits.deBruijn64tab" = some 0 := by kernel_rfl
theorem tTab : (Tryz.prog.globals[0]?).map (·.type) = some 144 := by kernel_rfl
theorem tab_data {H : Type} : (Rows.laid_math_bits_deBruijn64tab : DataW H) = .agg (Bs.tzTab.map fun (k : Nat) => .lit (.int .u8 (k : Int))) := rfl

theorem of_laid {W : World} (h : laidMetH Tryz.prog laidTab W) : Bs.TabW W := by
  rw [MakeChecks.laidMetH_plain _ _ _ (by kernel_rfl)] at h
  obtain ⟨ps, ⟨g0, t0, cs0, f0, p0, q0, hg0, ht0, hv0, hd0, _⟩, _, _⟩ := h
  obtain rfl := Option.some.inj (gTab.symm.trans hg0)
  obtain rfl := Option.some.inj (tTab.symm.trans ht0)
  obtain ⟨xs, m1, rfl, hx1, hlen, hn3, hel⟩ := DataW.trod_array Tryz.underlying144 hd0
  rw [tab_data] at hx1
  simp only [Prod.mk.injEq, DataW.agg.injEq] at hx1
  have c5 : Tryz.prog.cellsOf 5 = 1 := by kernel_rfl
  refine ⟨fun i k hk => ?_⟩
  have hi : i < 64 := by
    have := (List.getElem?_eq_some_iff.1 hk).1
    exact Nat.lt_of_lt_of_eq this (by decide)
  have h1 := hel i hi
  rw [c5, Nat.mul_one] at h1
  obtain ⟨x, hx⟩ : ∃ x, xs[i]? = some x := ⟨xs[i], List.getElem?_eq_getElem (by omega)⟩
  rw [hx] at h1
  obtain ⟨n, e1, e2, _⟩ := DataW.trod_int Tryz.underlying5 h1
  have hm : (xs.map (·.1))[i]? = some (.lit (.int .u8 n)) := by rw [List.getElem?_map, hx, e2]; rfl
  rw [← hx1.1, List.getElem?_map, hk] at hm
  have hnk : n = (k : Int) := by simpa using hm.symm
  subst hnk
  rw [World.var?_cell hg0 hv0 i, ← Array.getElem?_toList]
  have h2 : cs0.toList[i]? = (cs0.toList.drop i)[0]? := by rw [List.getElem?_drop]; rfl
  have h3 : ((cs0.toList.drop i).take 1)[0]? = (cs0.toList.drop i)[0]? := by rw [List.getElem?_take]; rfl
  rw [h2, ← h3, e1]
  rfl
theorem c24 : Tryz.prog.cellsOf 25 = 2 := by kernel_rfl
theorem c22 : Tryz.prog.cellsOf 23 = 1 := by kernel_rfl
theorem c3 : Tryz.prog.cellsOf 3 = 1 := by kernel_rfl
set_option maxRecDepth 100000 in
theorem open_pfx {H : Type} {enc : TypeId × Value → H} {W : World} {b : Nat} {v : Value} {d : DataW H} {p : List MemPlace}
    (hok : Value.okWide Tryz.prog W .any b 25 v) (h : DataW.Trod enc Tryz.prog W 0 (fun _ => true) true 25 v d p) : ∃ (a n : Int), 0 ≤ a ∧ a < 4294967296 ∧ v = pfx a n := by
  simp only [Value.okWide, Tryz.underlying25] at hok
  obtain ⟨cs, rfl, _, _⟩ := hok
  obtain ⟨fuel, hf⟩ := h
  obtain ⟨y0, y1, m, _, hl, h0, h1⟩ := trod_struct2 Tryz.underlying25 hf
  obtain ⟨x0, e0, _, w0⟩ := DataW.trod_int Tryz.underlying23 h0
  obtain ⟨x1, e1, _, w1⟩ := DataW.trod_int Tryz.underlying3 h1
  rw [c22] at e0
  rw [c3] at e1
  rw [c24] at hl
  have w0' : 0 ≤ x0 ∧ x0 < 4294967296 := by
    simp [Lit.wf, IntKind.min, IntKind.max, IntKind.signed, IntKind.bits] at w0
    omega
  refine ⟨x0, x1, w0'.1, w0'.2, ?_⟩
  unfold pfx
  congr 1
  apply Array.toList_inj.1
  simp only [Value.cells, List.drop_zero] at hl e0 e1
  have h2 := List.take_append_drop 1 cs.toList
  rw [e0] at h2
  have h3 : (cs.toList.drop 1).take 1 = cs.toList.drop 1 := List.take_of_length_le (by simp; simp at hl; omega)
  rw [← h2, ← h3, e1]
  rfl
end Go.Proofs.YtpebpfaecdmabaaGreatDoor
