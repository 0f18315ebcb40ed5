/- Parts of this proof, joined. -/
import Derived.Test.YtpebpfaecdmabaaGreatDoorZF17
/- Lookup of a table. -/
namespace Go.Proofs.YtpebpfaecdmabaaGreatDoor
open Go Go.RowKit PL

/-- The first bits of an address. -/
def cutA (b : Int) (k : Nat) : Int := b / wt k * wt k
def lookL (rs : List Rt) (b : Int) : Nat → Rt × Int
  | 0 => (Rt.zero, 8)
  | k + 1 => match rs.find? (hasP (cutA b k) k) with
    | some r => (r, 0)
    | none => lookL rs b k
def lookR (rs : List Rt) (b : Int) : Rt × Int := if sdT rs = true then lookL rs b 33 else (Rt.zero, 1)
theorem lookR_1 {rs : List Rt} {b : Int} (h : sdT rs = false) : lookR rs b = (Rt.zero, 1) := by unfold lookR; rw [h]; rfl
theorem lookR_0 {rs : List Rt} {b : Int} (h : sdT rs = true) : lookR rs b = lookL rs b 33 := by unfold lookR; rw [if_pos h]
theorem lookL_some {rs : List Rt} {b : Int} {k : Nat} {r : Rt} (h : rs.find? (hasP (cutA b k) k) = some r) : lookL rs b (k + 1) = (r, 0) := by simp only [lookL, h]
theorem lookL_none {rs : List Rt} {b : Int} {k : Nat} (h : rs.find? (hasP (cutA b k) k) = none) : lookL rs b (k + 1) = lookL rs b k := by simp only [lookL, h]
theorem cutA_range {b : Int} (k : Nat) (h0 : 0 ≤ b) (h1 : b < 4294967296) : 0 ≤ cutA b k ∧ cutA b k < 4294967296 := by
  unfold cutA
  have hw := wt_pos k
  have h2 := Int.ediv_mul_le b (Int.ne_of_gt hw)
  have h3 : 0 ≤ b / wt k := Int.ediv_nonneg h0 (Int.le_of_lt hw)
  exact ⟨Int.mul_nonneg h3 (Int.le_of_lt hw), by omega⟩
theorem cutA_ok (b : Int) {k : Nat} (h : k ≤ 32) : okP (cutA b k) k = true := by
  unfold okP cutA
  simp only [decide_eq_true_eq]
  exact ⟨by omega, by omega, Int.mul_emod_left _ _⟩
theorem and_cut {b : Int} {k : Nat} (h0 : 0 ≤ b) (h1 : b < 4294967296) (h : k ≤ 32) : bits .and .u32 b (4294967296 - wt k) = cutA b k := and_mask h0 h1 (by omega) (by omega)
theorem findR_some {rs : List Rt} {a n : Int} {r : Rt} (h : sdT rs = true) (h2 : okP a n = true) (h3 : rs.find? (hasP a n) = some r) : findR rs a n = (r, 0) := by unfold findR; rw [if_pos h, if_pos h2, h3]
theorem findR_none {rs : List Rt} {a n : Int} (h : sdT rs = true) (h2 : okP a n = true) (h3 : rs.find? (hasP a n) = none) : findR rs a n = (Rt.zero, 8) := by unfold findR; rw [if_pos h, if_pos h2, h3]
theorem Find_is (v : Value) (rs : List Rt) (a n : Int) (w : World) (h : RtS w v rs) (hl : rs.length ≤ 4398046511104) (hr : ∀ r ∈ rs, r.in32) (ha : 0 ≤ a) (ha2 : a < 4294967296) {r : Rt} {x : Int} (hx : findR rs a n = (r, x)) :
    Calls Tryz.prog 4 #[v, pfx a n] w fun e w' => e = .returned (.tuple #[rtv r, .int .i64 x]) ∧ Below w.heap.size w w' := by
  have := Find_any v rs a n w h hl hr ha ha2
  rwa [hx] at this
theorem res12 (w : World) (tmps : Array Value) (B : Nat) (v x0 x1 x2 x3 x4 x5 x6 : Value) (hp : tmps.getD 4 undef = .pointer (some ⟨B, 0, none⟩)) (hv : tmps.getD 5 undef = v)
    (h0 : w.cell? ⟨B, 0, none⟩ = some x0) (h1 : w.cell? ⟨B, 1, none⟩ = some x1) (h2 : w.cell? ⟨B, 2, none⟩ = some x2) (h3 : w.cell? ⟨B, 3, none⟩ = some x3) (h4 : w.cell? ⟨B, 4, none⟩ = some x4) (h5 : w.cell? ⟨B, 5, none⟩ = some x5) (h6 : w.cell? ⟨B, 6, none⟩ = some x6) :
    (results Tryz.f6 tmps).run Tryz.prog w = .ok (.tuple #[.agg #[x0, x1, x2, x3, x4, x5, x6], v]) w := by
  rw [Array.getD_eq_getD_getElem?] at hp hv
  simp only [results, Tryz.results6]
  simp [go_sem, hp, hv, h0, h1, h2, h3, h4, h5, h6]
theorem Box7.res12 {w : World} {B : Nat} {x0 x1 x2 x3 x4 x5 x6 : Value} (h : Box7 w B x0 x1 x2 x3 x4 x5 x6) (tmps : Array Value) (v : Value) (hp : tmps.getD 4 undef = .pointer (some ⟨B, 0, none⟩)) (hv : tmps.getD 5 undef = v) :
    (results Tryz.f6 tmps).run Tryz.prog w = .ok (.tuple #[.agg #[x0, x1, x2, x3, x4, x5, x6], v]) w :=
  Go.Proofs.YtpebpfaecdmabaaGreatDoor.res12 w tmps B v _ _ _ _ _ _ _ hp hv (cell_at h.out rfl) (cell_at h.out rfl) (cell_at h.out rfl) (cell_at h.out rfl) (cell_at h.out rfl) (cell_at h.out rfl) (cell_at h.out rfl)
set_option maxHeartbeats 8000000 in
set_option maxRecDepth 100000 in
theorem Lookup_any (v : Value) (rs : List Rt) (ad : Int) (w : World) (h : RtS w v rs) (hl : rs.length ≤ 4398046511104) (hr : ∀ r ∈ rs, r.in32) (ha : 0 ≤ ad) (ha2 : ad < 4294967296) :
    Calls Tryz.prog 6 #[v, .int .u32 ad] w fun e w' => e = .returned (.tuple #[rtv (lookR rs ad).1, .int .i64 (lookR rs ad).2]) ∧ Below w.heap.size w w' := by
  obtain ⟨b, cap, rfl, hm, hc⟩ := h.form
  go_enter Tryz.func6, Tryz.ntmps6
  go_upto_region 1 with fail
  have hA1 := (Below.refl _ w).alloc (Nat.le_refl _) (.cells #[.int .u32 0, .int .i64 0, .int .i64 0, .int .u64 0, .int .u64 0, .int .u64 0, .int .u64 0] 30)
  have hz : zeroB (w.alloc (.cells #[.int .u32 0, .int .i64 0, .int .i64 0, .int .u64 0, .int .u64 0, .int .u64 0, .int .u64 0] 30)) w.heap.size := ⟨heap_alloc_new _ _⟩
  have hc2 := RecS.below hc hA1
  have lt := Nat.le_refl w.heap.size
  have sz := hA1.size
  have hB := hA1
  clear hA1 hc h
  generalize w.alloc _ = w2 at *
  generalize hK : w.heap.size = B at *
  have HK := Lib.hid hK
  clear hK
  cases hsd : sdT rs
  · have HE := Lib.hid (sdE_not hsd)
    have HF := Lib.hid (lookR_1 (b := ad) hsd)
    clear hsd
    go_wp2_with fail
    refine (Sound_is _ _ _ hc2 hl hr HE.out).mono ?_
    rintro e w3 ⟨rfl, hb3⟩
    replace hz := hz.below hb3
    have hB3 := hB.trans (hb3.mono sz)
    clear hc2 hb3 hB
    have z0 : w3.cell? ⟨B, 0, none⟩ = some (.int .u32 0) := cell_at hz.out rfl
    have f0 : w3.frozen? ⟨B, 0, none⟩ = false := free_at hz.out
    have z1 : w3.cell? ⟨B, 1, none⟩ = some (.int .i64 0) := cell_at hz.out rfl
    have f1 : w3.frozen? ⟨B, 1, none⟩ = false := free_at hz.out
    have z2 : w3.cell? ⟨B, 2, none⟩ = some (.int .i64 0) := cell_at hz.out rfl
    have f2 : w3.frozen? ⟨B, 2, none⟩ = false := free_at hz.out
    have z3 : w3.cell? ⟨B, 3, none⟩ = some (.int .u64 0) := cell_at hz.out rfl
    have f3 : w3.frozen? ⟨B, 3, none⟩ = false := free_at hz.out
    have z4 : w3.cell? ⟨B, 4, none⟩ = some (.int .u64 0) := cell_at hz.out rfl
    have f4 : w3.frozen? ⟨B, 4, none⟩ = false := free_at hz.out
    have z5 : w3.cell? ⟨B, 5, none⟩ = some (.int .u64 0) := cell_at hz.out rfl
    have f5 : w3.frozen? ⟨B, 5, none⟩ = false := free_at hz.out
    have z6 : w3.cell? ⟨B, 6, none⟩ = some (.int .u64 0) := cell_at hz.out rfl
    have f6 : w3.frozen? ⟨B, 6, none⟩ = false := free_at hz.out
    go_wp2_with fail
    have hz9 : Box7 _ B (.int .u32 0) (.int .i64 0) (.int .i64 0) (.int .u64 0) (.int .u64 0) (.int .u64 0) (.int .u64 0) := ⟨set7 hz.out (.int .u32 0) (.int .i64 0) (.int .i64 0) (.int .u64 0) (.int .u64 0) (.int .u64 0) (.int .u64 0)⟩
    have hb9 := below7 hB3 lt (.int .u32 0) (.int .i64 0) (.int .i64 0) (.int .u64 0) (.int .u64 0) (.int .u64 0) (.int .u64 0)
    clear z0 z1 z2 z3 z4 z5 z6 f0 f1 f2 f3 f4 f5 f6
    generalize ((((((World.setCell w3 ⟨B, 0, none⟩ _).setCell ⟨B, 1, none⟩ _).setCell ⟨B, 2, none⟩ _).setCell ⟨B, 3, none⟩ _).setCell ⟨B, 4, none⟩ _).setCell ⟨B, 5, none⟩ _).setCell ⟨B, 6, none⟩ _ = w9 at *
    exact bodyPost_ret (hz9.res12 _ _ rfl rfl) rfl ⟨by rw [HF.out]; rfl, by rw [HK.out]; exact hb9⟩
  · have HE := Lib.hid (sdE_yes hsd)
    have HF := Lib.hid (lookR_0 (b := ad) hsd)
    go_wp2_with fail
    refine (Sound_is _ _ _ hc2 hl hr HE.out).mono ?_
    rintro e w3 ⟨rfl, hb3⟩
    replace hz := hz.below hb3
    have hB3 := hB.trans (hb3.mono sz)
    have hc3 := RecS.below hc2 hb3
    have sz3 := Nat.le_trans sz hb3.size
    clear hc2 hb3 hB sz
    go_wp2_with fail
    go_loopw [7] (fun x wr => ((∃ k : Nat, x = .int .i64 k ∧ k ≤ 32 ∧ Hid (lookL rs ad 33 = lookL rs ad (k + 1))) ∨ (x = .int .i64 (-1) ∧ Hid (lookL rs ad 33 = (Rt.zero, 8)))) ∧ Below w3.heap.size w3 wr) (fun x _ => (kO x + 1).toNat)
    case atStart => exact ⟨.inl ⟨32, rfl, by omega, Lib.hid rfl⟩, Below.refl _ _⟩
    case round =>
      obtain ⟨hrel, hb⟩ := hrel
      rcases hrel with ⟨k, rfl, hk, HL⟩ | ⟨rfl, HL⟩
      · have hc4 := RecS.below hc3 hb
        have hz4 := hz.below hb
        have hB4 := hB3.trans (hb.mono sz3)
        have sz4 := Nat.le_trans sz3 hb.size
        have hcr := cutA_range k ha ha2
        have HO := Lib.hid (cutA_ok ad hk)
        have HM := Lib.hid (and_cut ha ha2 hk)
        go_wp2_with fail
        refine (mask_int (by omega) (by omega) _).mono ?_
        rintro e w5 ⟨rfl, hb5⟩
        have hc5 := RecS.below hc4 hb5
        have hz5 := hz4.below hb5
        have hB5 := hB4.trans (hb5.mono sz4)
        have sz5 := Nat.le_trans sz4 hb5.size
        have hbr := hb.trans (hb5.mono hb.size)
        have szr := Nat.le_trans hb.size hb5.size
        clear hc4 hz4 hB4 sz4 hb5 hb
        have hM := HM.out
        go_wp2_with fail
        clear hM
        cases hfd : rs.find? (hasP (cutA ad k) k) with
        | none =>
          have HD := Lib.hid (findR_none hsd HO.out hfd)
          have HN := Lib.hid (lookL_none hfd)
          clear hfd
          refine (Find_is _ rs _ _ _ hc5 hl hr hcr.1 hcr.2 HD.out).mono ?_
          rintro e w6 ⟨rfl, hb6⟩
          have hbr6 := hbr.trans (hb6.mono szr)
          have hA := (Below.refl _ w6).alloc (Nat.le_refl _) (.cells #[.int .u32 0, .int .i64 0, .int .i64 0, .int .u64 0, .int .u64 0, .int .u64 0, .int .u64 0] 30)
          have HL2 := Lib.hid (HL.out.trans HN.out)
          clear hz5 hB5 sz5 hb6
          go_wp2_with fail
          go_roundw
          case rel =>
            refine ⟨?_, hbr6.trans (hA.mono hbr6.size)⟩
            cases k with
            | zero => exact .inr ⟨rfl, HL2⟩
            | succ k => exact .inl ⟨k, by go_num, by omega, HL2⟩
          case measure => simp only [kO]; omega
        | some r =>
          have HD := Lib.hid (findR_some hsd HO.out hfd)
          have HN := Lib.hid (lookL_some hfd)
          clear hfd
          refine (Find_is _ rs _ _ _ hc5 hl hr hcr.1 hcr.2 HD.out).mono ?_
          rintro e w6 ⟨rfl, hb6⟩
          have hz6 := hz5.below hb6
          have hB6 := hB5.trans (hb6.mono sz5)
          have sz6 := Nat.le_trans sz5 hb6.size
          clear hc5 hz5 hB5 sz5 hb6 hbr szr
          have hA := (Below.refl _ w6).alloc (Nat.le_refl _) (.cells #[.int .u32 r.a, .int .i64 r.n, .int .i64 r.m, .int .u64 (u r.o), .int .u64 (u r.p), .int .u64 (u r.h), .int .u64 (u r.k)] 30)
          go_upto_region 8 with fail
          have hz7 := hz6.below hA
          have hB7 := hB6.trans (hA.mono sz6)
          have b0 := box_new w6 #[.int .u32 r.a, .int .i64 r.n, .int .i64 r.m, .int .u64 (u r.o), .int .u64 (u r.p), .int .u64 (u r.h), .int .u64 (u r.k)] 30 0 (.int .u32 r.a) rfl
          have b1 := box_new w6 #[.int .u32 r.a, .int .i64 r.n, .int .i64 r.m, .int .u64 (u r.o), .int .u64 (u r.p), .int .u64 (u r.h), .int .u64 (u r.k)] 30 1 (.int .i64 r.n) rfl
          have b2 := box_new w6 #[.int .u32 r.a, .int .i64 r.n, .int .i64 r.m, .int .u64 (u r.o), .int .u64 (u r.p), .int .u64 (u r.h), .int .u64 (u r.k)] 30 2 (.int .i64 r.m) rfl
          have b3 := box_new w6 #[.int .u32 r.a, .int .i64 r.n, .int .i64 r.m, .int .u64 (u r.o), .int .u64 (u r.p), .int .u64 (u r.h), .int .u64 (u r.k)] 30 3 (.int .u64 (u r.o)) rfl
          have b4 := box_new w6 #[.int .u32 r.a, .int .i64 r.n, .int .i64 r.m, .int .u64 (u r.o), .int .u64 (u r.p), .int .u64 (u r.h), .int .u64 (u r.k)] 30 4 (.int .u64 (u r.p)) rfl
          have b5 := box_new w6 #[.int .u32 r.a, .int .i64 r.n, .int .i64 r.m, .int .u64 (u r.o), .int .u64 (u r.p), .int .u64 (u r.h), .int .u64 (u r.k)] 30 5 (.int .u64 (u r.h)) rfl
          have b6 := box_new w6 #[.int .u32 r.a, .int .i64 r.n, .int .i64 r.m, .int .u64 (u r.o), .int .u64 (u r.p), .int .u64 (u r.h), .int .u64 (u r.k)] 30 6 (.int .u64 (u r.k)) rfl
          clear hA hz hz6 hB6
          have hz := hz7
          generalize w6.heap.size = E at *
          generalize w6.alloc _ = w7 at *
          have z0 : w7.cell? ⟨B, 0, none⟩ = some (.int .u32 0) := cell_at hz.out rfl
          have f0 : w7.frozen? ⟨B, 0, none⟩ = false := free_at hz.out
          have z1 : w7.cell? ⟨B, 1, none⟩ = some (.int .i64 0) := cell_at hz.out rfl
          have f1 : w7.frozen? ⟨B, 1, none⟩ = false := free_at hz.out
          have z2 : w7.cell? ⟨B, 2, none⟩ = some (.int .i64 0) := cell_at hz.out rfl
          have f2 : w7.frozen? ⟨B, 2, none⟩ = false := free_at hz.out
          have z3 : w7.cell? ⟨B, 3, none⟩ = some (.int .u64 0) := cell_at hz.out rfl
          have f3 : w7.frozen? ⟨B, 3, none⟩ = false := free_at hz.out
          have z4 : w7.cell? ⟨B, 4, none⟩ = some (.int .u64 0) := cell_at hz.out rfl
          have f4 : w7.frozen? ⟨B, 4, none⟩ = false := free_at hz.out
          have z5 : w7.cell? ⟨B, 5, none⟩ = some (.int .u64 0) := cell_at hz.out rfl
          have f5 : w7.frozen? ⟨B, 5, none⟩ = false := free_at hz.out
          have z6 : w7.cell? ⟨B, 6, none⟩ = some (.int .u64 0) := cell_at hz.out rfl
          have f6 : w7.frozen? ⟨B, 6, none⟩ = false := free_at hz.out
          go_wp2_with fail
          clear b0 b1 b2 b3 b4 b5 b6
          have hz9 : Box7 _ B (.int .u32 r.a) (.int .i64 r.n) (.int .i64 r.m) (.int .u64 (u r.o)) (.int .u64 (u r.p)) (.int .u64 (u r.h)) (.int .u64 (u r.k)) := ⟨set7 hz.out (.int .u32 r.a) (.int .i64 r.n) (.int .i64 r.m) (.int .u64 (u r.o)) (.int .u64 (u r.p)) (.int .u64 (u r.h)) (.int .u64 (u r.k))⟩
          have hb9 := below7 hB7 lt (.int .u32 r.a) (.int .i64 r.n) (.int .i64 r.m) (.int .u64 (u r.o)) (.int .u64 (u r.p)) (.int .u64 (u r.h)) (.int .u64 (u r.k))
          clear z0 z1 z2 z3 z4 z5 z6 f0 f1 f2 f3 f4 f5 f6
          generalize ((((((World.setCell w7 ⟨B, 0, none⟩ _).setCell ⟨B, 1, none⟩ _).setCell ⟨B, 2, none⟩ _).setCell ⟨B, 3, none⟩ _).setCell ⟨B, 4, none⟩ _).setCell ⟨B, 5, none⟩ _).setCell ⟨B, 6, none⟩ _ = w9 at *
          exact bodyPost_ret (hz9.res12 _ _ rfl rfl) rfl ⟨by rw [HF.out, HL.out, HN.out]; rfl, by rw [HK.out]; exact hb9⟩
      · have hz4 := hz.below hb
        have hB4 := hB3.trans (hb.mono sz3)
        clear hz hc3 hb
        have hz := hz4
        have z0 : wr.cell? ⟨B, 0, none⟩ = some (.int .u32 0) := cell_at hz.out rfl
        have f0 : wr.frozen? ⟨B, 0, none⟩ = false := free_at hz.out
        have z1 : wr.cell? ⟨B, 1, none⟩ = some (.int .i64 0) := cell_at hz.out rfl
        have f1 : wr.frozen? ⟨B, 1, none⟩ = false := free_at hz.out
        have z2 : wr.cell? ⟨B, 2, none⟩ = some (.int .i64 0) := cell_at hz.out rfl
        have f2 : wr.frozen? ⟨B, 2, none⟩ = false := free_at hz.out
        have z3 : wr.cell? ⟨B, 3, none⟩ = some (.int .u64 0) := cell_at hz.out rfl
        have f3 : wr.frozen? ⟨B, 3, none⟩ = false := free_at hz.out
        have z4 : wr.cell? ⟨B, 4, none⟩ = some (.int .u64 0) := cell_at hz.out rfl
        have f4 : wr.frozen? ⟨B, 4, none⟩ = false := free_at hz.out
        have z5 : wr.cell? ⟨B, 5, none⟩ = some (.int .u64 0) := cell_at hz.out rfl
        have f5 : wr.frozen? ⟨B, 5, none⟩ = false := free_at hz.out
        have z6 : wr.cell? ⟨B, 6, none⟩ = some (.int .u64 0) := cell_at hz.out rfl
        have f6 : wr.frozen? ⟨B, 6, none⟩ = false := free_at hz.out
        go_wp2_with fail
        have hz9 : Box7 _ B (.int .u32 0) (.int .i64 0) (.int .i64 0) (.int .u64 0) (.int .u64 0) (.int .u64 0) (.int .u64 0) := ⟨set7 hz.out (.int .u32 0) (.int .i64 0) (.int .i64 0) (.int .u64 0) (.int .u64 0) (.int .u64 0) (.int .u64 0)⟩
        have hb9 := below7 hB4 lt (.int .u32 0) (.int .i64 0) (.int .i64 0) (.int .u64 0) (.int .u64 0) (.int .u64 0) (.int .u64 0)
        clear z0 z1 z2 z3 z4 z5 z6 f0 f1 f2 f3 f4 f5 f6
        generalize ((((((World.setCell wr ⟨B, 0, none⟩ _).setCell ⟨B, 1, none⟩ _).setCell ⟨B, 2, none⟩ _).setCell ⟨B, 3, none⟩ _).setCell ⟨B, 4, none⟩ _).setCell ⟨B, 5, none⟩ _).setCell ⟨B, 6, none⟩ _ = w9 at *
        exact bodyPost_ret (hz9.res12 _ _ rfl rfl) rfl ⟨by rw [HF.out, HL.out]; rfl, by rw [HK.out]; exact hb9⟩
end Go.Proofs.YtpebpfaecdmabaaGreatDoor
/- The reference's side: RouteOk, Sound. -/
namespace Go.Proofs.YtpebpfaecdmabaaGreatDoor
open Go Go.RowKit PL

theorem RCheck_is {a n : Int} (ha : 0 ≤ a) (w : World) {x : Int} (hx : okE a n = x) : Calls Tryz.prog 16 #[pfx a n] w fun e w' => e = .returned (.int .i64 x) ∧ Below w.heap.size w w' := by
  rw [← hx]; exact RCheck_pfx ha w
theorem RBefore_is {a n b m : Int} {x : Bool} (hx : befP a n b m = x) (w : World) : Calls Tryz.prog 23 #[pfx a n, pfx b m] w fun e w' => e = .returned (.bool x) ∧ Below w.heap.size w w' := by
  rw [← hx]; exact RBefore_pfx a n b m w
theorem RCovers_is {a n b m : Int} (ha : 0 ≤ a) (ha2 : a < 4294967296) (hb : 0 ≤ b) (hb2 : b < 4294967296) (w : World) {x : Bool} (hx : covP a n b m = x) : Calls Tryz.prog 18 #[pfx a n, pfx b m] w fun e w' => e = .returned (.bool x) ∧ Below w.heap.size w w' := by
  rw [← hx]; exact RCovers_pfx ha ha2 hb hb2 w
set_option maxHeartbeats 4000000 in
set_option maxRecDepth 100000 in
theorem RouteOk_any (r : Rt) (w : World) (hr : r.in32) : Calls Tryz.prog 22 #[rtv r] w fun e w' => e = .returned (.bool (sdR r)) ∧ Below w.heap.size w w' := by
  obtain ⟨a, n, m, o, p, h, k⟩ := r
  obtain ⟨ha, ha2⟩ := hr
  have hA := (Below.refl _ w).alloc (Nat.le_refl _) (.cells #[.int .u32 a, .int .i64 n, .int .i64 m, .int .u64 (u o), .int .u64 (u p), .int .u64 (u h), .int .u64 (u k)] 30)
  have c0 := box_new w #[.int .u32 a, .int .i64 n, .int .i64 m, .int .u64 (u o), .int .u64 (u p), .int .u64 (u h), .int .u64 (u k)] 30 0 _ rfl
  have c1 := box_new w #[.int .u32 a, .int .i64 n, .int .i64 m, .int .u64 (u o), .int .u64 (u p), .int .u64 (u h), .int .u64 (u k)] 30 1 _ rfl
  have c2 := box_new w #[.int .u32 a, .int .i64 n, .int .i64 m, .int .u64 (u o), .int .u64 (u p), .int .u64 (u h), .int .u64 (u k)] 30 2 _ rfl
  have c3 := box_new w #[.int .u32 a, .int .i64 n, .int .i64 m, .int .u64 (u o), .int .u64 (u p), .int .u64 (u h), .int .u64 (u k)] 30 3 _ rfl
  have c4 := box_new w #[.int .u32 a, .int .i64 n, .int .i64 m, .int .u64 (u o), .int .u64 (u p), .int .u64 (u h), .int .u64 (u k)] 30 4 _ rfl
  have he := eq_b0 o p
  go_enter Tryz.func22, Tryz.ntmps22
  go_wp2_with fail
  clear c0 c1
  refine (RCheck_pfx ha _).mono ?_
  rintro e w2 ⟨rfl, hb⟩
  have c2' := (hb.cell (World.block_lt_of_cell? _ _ c2)).trans c2
  have c3' := (hb.cell (World.block_lt_of_cell? _ _ c3)).trans c3
  have c4' := (hb.cell (World.block_lt_of_cell? _ _ c4)).trans c4
  have hB := hA.trans (hb.mono hA.size)
  clear c2 c3 c4 hb hA
  cases ho : okP a n
  · rw [okE_no ho]
    go_wp2_with fail
    go_ret
    exact ⟨by simp [sdR, ho], hB⟩
  · rw [okE_yes ho]
    by_cases h1 : 0 ≤ m
    · by_cases h2 : m < 1073741824
      · go_wp2_with fail
        go_ret
        exact ⟨by unfold sdR; rw [ho, show decide (0 ≤ m) = true from decide_eq_true h1, show decide (m < 1073741824) = true from decide_eq_true h2]; rfl, hB⟩
      · go_wp2_with fail
        go_ret
        exact ⟨by unfold sdR; rw [ho, show decide (0 ≤ m) = true from decide_eq_true h1, show decide (m < 1073741824) = false from decide_eq_false (by omega)]; rfl, hB⟩
    · go_wp2_with fail
      go_ret
      exact ⟨by unfold sdR; rw [ho, show decide (0 ≤ m) = false from decide_eq_false (by omega)]; rfl, hB⟩
theorem RouteOk_is (r : Rt) (w : World) (hr : r.in32) {x : Bool} (hx : sdR r = x) : Calls Tryz.prog 22 #[rtv r] w fun e w' => e = .returned (.bool x) ∧ Below w.heap.size w w' := by
  rw [← hx]; exact RouteOk_any r w hr
end Go.Proofs.YtpebpfaecdmabaaGreatDoor
