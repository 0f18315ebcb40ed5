/- Parts of this proof, joined. -/
import Derived.Test.YtpebpfaecdmabaaDoorZL20
import Derived.Test.YtpebpfaecdmabaaDoorZL19
import Derived.Test.YtpebpfaecdmabaaDoorRows
import Derived.ProofKit
import Derived.LaidMore
import Derived.OpenShut
import Derived.Stop.Joined
import Derived.ChangeSame
import Derived.Test.YtpebpfaecdmabaaDoorZL00
import Derived.Test.YtpebpfaecdmabaaDoorZL04
/- Lookup of a table. -/
namespace Go.Proofs.YtpebpfaecdmabaaDoor
open Go Go.RowKit PL

/-- The first bits of an address. -/
def cutA (b : Int) (k : Nat) : Int := b / wt k * wt k
def lookL (rs : List Rt) (b : Int) : Nat → Rt × Int
  | 0 => (Rt.zero, 8)
  | k + 1 => match rs.find? (hasP (cutA b k) k) with
    | some r => (r, 0)
    | none => lookL rs b k
def lookR (rs : List Rt) (b : Int) : Rt × Int := if sdT rs = true then lookL rs b 33 else (Rt.zero, 1)
theorem lookR_1 {rs : List Rt} {b : Int} (h : sdT rs = false) : lookR rs b = (Rt.zero, 1) := by unfold lookR; rw [h]; rfl
theorem lookR_0 {rs : List Rt} {b : Int} (h : sdT rs = true) : lookR rs b = lookL rs b 33 := by unfold lookR; rw [if_pos h]
theorem lookL_some {rs : List Rt} {b : Int} {k : Nat} {r : Rt} (h : rs.find? (hasP (cutA b k) k) = some r) : lookL rs b (k + 1) = (r, 0) := by simp only [lookL, h]
theorem lookL_none {rs : List Rt} {b : Int} {k : Nat} (h : rs.find? (hasP (cutA b k) k) = none) : lookL rs b (k + 1) = lookL rs b k := by simp only [lookL, h]
theorem cutA_range {b : Int} (k : Nat) (h0 : 0 ≤ b) (h1 : b < 4294967296) : 0 ≤ cutA b k ∧ cutA b k < 4294967296 := by
  unfold cutA
  have hw := wt_pos k
  have h2 := Int.ediv_mul_le b (Int.ne_of_gt hw)
  have h3 : 0 ≤ b / wt k := Int.ediv_nonneg h0 (Int.le_of_lt hw)
  exact ⟨Int.mul_nonneg h3 (Int.le_of_lt hw), by omega⟩
theorem cutA_ok (b : Int) {k : Nat} (h : k ≤ 32) : okP (cutA b k) k = true := by
  unfold okP cutA
  simp only [decide_eq_true_eq]
  exact ⟨by omega, by omega, Int.mul_emod_left _ _⟩
theorem and_cut {b : Int} {k : Nat} (h0 : 0 ≤ b) (h1 : b < 4294967296) (h : k ≤ 32) : bits .and .u32 b (4294967296 - wt k) = cutA b k := and_mask h0 h1 (by omega) (by omega)
theorem findR_some {rs : List Rt} {a n : Int} {r : Rt} (h : sdT rs = true) (h2 : okP a n = true) (h3 : rs.find? (hasP a n) = some r) : findR rs a n = (r, 0) := by unfold findR; rw [if_pos h, if_pos h2, h3]
theorem findR_none {rs : List Rt} {a n : Int} (h : sdT rs = true) (h2 : okP a n = true) (h3 : rs.find? (hasP a n) = none) : findR rs a n = (Rt.zero, 8) := by unfold findR; rw [if_pos h, if_pos h2, h3]
theorem Find_is (v : Value) (rs : List Rt) (a n : Int) (w : World) (h : RtS w v rs) (hl : rs.length ≤ 4398046511104) (hr : ∀ r ∈ rs, r.in32) (ha : 0 ≤ a) (ha2 : a < 4294967296) {r : Rt} {x : Int} (hx : findR rs a n = (r, x)) :
    Calls Tryd.prog 20 #[v, pfx a n] w fun e w' => e = .returned (.tuple #[rtv r, .int .i64 x]) ∧ Below w.heap.size w w' := by
  have := Find_any v rs a n w h hl hr ha ha2
  rwa [hx] at this
theorem res12 (w : World) (tmps : Array Value) (B : Nat) (v x0 x1 x2 x3 x4 x5 x6 : Value) (hp : tmps.getD 4 undef = .pointer (some ⟨B, 0, none⟩)) (hv : tmps.getD 5 undef = v)
    (h0 : w.cell? ⟨B, 0, none⟩ = some x0) (h1 : w.cell? ⟨B, 1, none⟩ = some x1) (h2 : w.cell? ⟨B, 2, none⟩ = some x2) (h3 : w.cell? ⟨B, 3, none⟩ = some x3) (h4 : w.cell? ⟨B, 4, none⟩ = some x4) (h5 : w.cell? ⟨B, 5, none⟩ = some x5) (h6 : w.cell? ⟨B, 6, none⟩ = some x6) :
    (results Tryd.f12 tmps).run Tryd.prog w = .ok (.tuple #[.agg #[x0, x1, x2, x3, x4, x5, x6], v]) w := by
  rw [Array.getD_eq_getD_getElem?] at hp hv
  simp only [results, Tryd.results12]
  simp [go_sem, hp, hv, h0, h1, h2, h3, h4, h5, h6]
theorem Box7.res12 {w : World} {B : Nat} {x0 x1 x2 x3 x4 x5 x6 : Value} (h : Box7 w B x0 x1 x2 x3 x4 x5 x6) (tmps : Array Value) (v : Value) (hp : tmps.getD 4 undef = .pointer (some ⟨B, 0, none⟩)) (hv : tmps.getD 5 undef = v) :
    (results Tryd.f12 tmps).run Tryd.prog w = .ok (.tuple #[.agg #[x0, x1, x2, x3, x4, x5, x6], v]) w :=
  Go.Proofs.YtpebpfaecdmabaaDoor.res12 w tmps B v _ _ _ _ _ _ _ hp hv (cell_at h.out rfl) (cell_at h.out rfl) (cell_at h.out rfl) (cell_at h.out rfl) (cell_at h.out rfl) (cell_at h.out rfl) (cell_at h.out rfl)
set_option maxHeartbeats 8000000 in
set_option maxRecDepth 100000 in
theorem Lookup_any (v : Value) (rs : List Rt) (ad : Int) (w : World) (h : RtS w v rs) (hl : rs.length ≤ 4398046511104) (hr : ∀ r ∈ rs, r.in32) (ha : 0 ≤ ad) (ha2 : ad < 4294967296) :
    Calls Tryd.prog 12 #[v, .int .u32 ad] w fun e w' => e = .returned (.tuple #[rtv (lookR rs ad).1, .int .i64 (lookR rs ad).2]) ∧ Below w.heap.size w w' := by
  obtain ⟨b, cap, rfl, hm, hc⟩ := h.form
  go_enter Tryd.func12, Tryd.ntmps12
  go_upto_region 1 with fail
  have hA1 := (Below.refl _ w).alloc (Nat.le_refl _) (.cells #[.int .u32 0, .int .i64 0, .int .i64 0, .int .u64 0, .int .u64 0, .int .u64 0, .int .u64 0] 34)
  have hz : zeroB (w.alloc (.cells #[.int .u32 0, .int .i64 0, .int .i64 0, .int .u64 0, .int .u64 0, .int .u64 0, .int .u64 0] 34)) w.heap.size := ⟨heap_alloc_new _ _⟩
  have hc2 := RecS.below hc hA1
  have lt := Nat.le_refl w.heap.size
  have sz := hA1.size
  have hB := hA1
  clear hA1 hc h
  generalize w.alloc _ = w2 at *
  generalize hK : w.heap.size = B at *
  have HK := Lib.hid hK
  clear hK
  cases hsd : sdT rs
  · have HE := Lib.hid (sdE_not hsd)
    have HF := Lib.hid (lookR_1 (b := ad) hsd)
    clear hsd
    go_wp2_with fail
    refine (Sound_is _ _ _ hc2 hl hr HE.out).mono ?_
    rintro e w3 ⟨rfl, hb3⟩
    replace hz := hz.below hb3
    have hB3 := hB.trans (hb3.mono sz)
    clear hc2 hb3 hB
    have z0 : w3.cell? ⟨B, 0, none⟩ = some (.int .u32 0) := cell_at hz.out rfl
    have f0 : w3.frozen? ⟨B, 0, none⟩ = false := free_at hz.out
    have z1 : w3.cell? ⟨B, 1, none⟩ = some (.int .i64 0) := cell_at hz.out rfl
    have f1 : w3.frozen? ⟨B, 1, none⟩ = false := free_at hz.out
    have z2 : w3.cell? ⟨B, 2, none⟩ = some (.int .i64 0) := cell_at hz.out rfl
    have f2 : w3.frozen? ⟨B, 2, none⟩ = false := free_at hz.out
    have z3 : w3.cell? ⟨B, 3, none⟩ = some (.int .u64 0) := cell_at hz.out rfl
    have f3 : w3.frozen? ⟨B, 3, none⟩ = false := free_at hz.out
    have z4 : w3.cell? ⟨B, 4, none⟩ = some (.int .u64 0) := cell_at hz.out rfl
    have f4 : w3.frozen? ⟨B, 4, none⟩ = false := free_at hz.out
    have z5 : w3.cell? ⟨B, 5, none⟩ = some (.int .u64 0) := cell_at hz.out rfl
    have f5 : w3.frozen? ⟨B, 5, none⟩ = false := free_at hz.out
    have z6 : w3.cell? ⟨B, 6, none⟩ = some (.int .u64 0) := cell_at hz.out rfl
    have f6 : w3.frozen? ⟨B, 6, none⟩ = false := free_at hz.out
    go_wp2_with fail
    have hz9 : Box7 _ B (.int .u32 0) (.int .i64 0) (.int .i64 0) (.int .u64 0) (.int .u64 0) (.int .u64 0) (.int .u64 0) := ⟨set7 hz.out (.int .u32 0) (.int .i64 0) (.int .i64 0) (.int .u64 0) (.int .u64 0) (.int .u64 0) (.int .u64 0)⟩
    have hb9 := below7 hB3 lt (.int .u32 0) (.int .i64 0) (.int .i64 0) (.int .u64 0) (.int .u64 0) (.int .u64 0) (.int .u64 0)
    clear z0 z1 z2 z3 z4 z5 z6 f0 f1 f2 f3 f4 f5 f6
    generalize ((((((World.setCell w3 ⟨B, 0, none⟩ _).setCell ⟨B, 1, none⟩ _).setCell ⟨B, 2, none⟩ _).setCell ⟨B, 3, none⟩ _).setCell ⟨B, 4, none⟩ _).setCell ⟨B, 5, none⟩ _).setCell ⟨B, 6, none⟩ _ = w9 at *
    exact bodyPost_ret (hz9.res12 _ _ rfl rfl) rfl ⟨by rw [HF.out]; rfl, by rw [HK.out]; exact hb9⟩
  · have HE := Lib.hid (sdE_yes hsd)
    have HF := Lib.hid (lookR_0 (b := ad) hsd)
    go_wp2_with fail
    refine (Sound_is _ _ _ hc2 hl hr HE.out).mono ?_
    rintro e w3 ⟨rfl, hb3⟩
    replace hz := hz.below hb3
    have hB3 := hB.trans (hb3.mono sz)
    have hc3 := RecS.below hc2 hb3
    have sz3 := Nat.le_trans sz hb3.size
    clear hc2 hb3 hB sz
    go_wp2_with fail
    go_loopw [7] (fun x wr => ((∃ k : Nat, x = .int .i64 k ∧ k ≤ 32 ∧ Hid (lookL rs ad 33 = lookL rs ad (k + 1))) ∨ (x = .int .i64 (-1) ∧ Hid (lookL rs ad 33 = (Rt.zero, 8)))) ∧ Below w3.heap.size w3 wr) (fun x _ => (kO x + 1).toNat)
    case atStart => exact ⟨.inl ⟨32, rfl, by omega, Lib.hid rfl⟩, Below.refl _ _⟩
    case round =>
      obtain ⟨hrel, hb⟩ := hrel
      rcases hrel with ⟨k, rfl, hk, HL⟩ | ⟨rfl, HL⟩
      · have hc4 := RecS.below hc3 hb
        have hz4 := hz.below hb
        have hB4 := hB3.trans (hb.mono sz3)
        have sz4 := Nat.le_trans sz3 hb.size
        have hcr := cutA_range k ha ha2
        have HO := Lib.hid (cutA_ok ad hk)
        have HM := Lib.hid (and_cut ha ha2 hk)
        go_wp2_with fail
        refine (mask_int (by omega) (by omega) _).mono ?_
        rintro e w5 ⟨rfl, hb5⟩
        have hc5 := RecS.below hc4 hb5
        have hz5 := hz4.below hb5
        have hB5 := hB4.trans (hb5.mono sz4)
        have sz5 := Nat.le_trans sz4 hb5.size
        have hbr := hb.trans (hb5.mono hb.size)
        have szr := Nat.le_trans hb.size hb5.size
        clear hc4 hz4 hB4 sz4 hb5 hb
        have hM := HM.out
        go_wp2_with fail
        clear hM
        cases hfd : rs.find? (hasP (cutA ad k) k) with
        | none =>
          have HD := Lib.hid (findR_none hsd HO.out hfd)
          have HN := Lib.hid (lookL_none hfd)
          clear hfd
          refine (Find_is _ rs _ _ _ hc5 hl hr hcr.1 hcr.2 HD.out).mono ?_
          rintro e w6 ⟨rfl, hb6⟩
          have hbr6 := hbr.trans (hb6.mono szr)
          have hA := (Below.refl _ w6).alloc (Nat.le_refl _) (.cells #[.int .u32 0, .int .i64 0, .int .i64 0, .int .u64 0, .int .u64 0, .int .u64 0, .int .u64 0] 34)
          have HL2 := Lib.hid (HL.out.trans HN.out)
          clear hz5 hB5 sz5 hb6
          go_wp2_with fail
          go_roundw
          case rel =>
            refine ⟨?_, hbr6.trans (hA.mono hbr6.size)⟩
            cases k with
            | zero => exact .inr ⟨rfl, HL2⟩
            | succ k => exact .inl ⟨k, by go_num, by omega, HL2⟩
          case measure => simp only [kO]; omega
        | some r =>
          have HD := Lib.hid (findR_some hsd HO.out hfd)
          have HN := Lib.hid (lookL_some hfd)
          clear hfd
          refine (Find_is _ rs _ _ _ hc5 hl hr hcr.1 hcr.2 HD.out).mono ?_
          rintro e w6 ⟨rfl, hb6⟩
          have hz6 := hz5.below hb6
          have hB6 := hB5.trans (hb6.mono sz5)
          have sz6 := Nat.le_trans sz5 hb6.size
          clear hc5 hz5 hB5 sz5 hb6 hbr szr
          have hA := (Below.refl _ w6).alloc (Nat.le_refl _) (.cells #[.int .u32 r.a, .int .i64 r.n, .int .i64 r.m, .int .u64 (u r.o), .int .u64 (u r.p), .int .u64 (u r.h), .int .u64 (u r.k)] 34)
          go_upto_region 8 with fail
          have hz7 := hz6.below hA
          have hB7 := hB6.trans (hA.mono sz6)
          have b0 := box_new w6 #[.int .u32 r.a, .int .i64 r.n, .int .i64 r.m, .int .u64 (u r.o), .int .u64 (u r.p), .int .u64 (u r.h), .int .u64 (u r.k)] 34 0 (.int .u32 r.a) rfl
          have b1 := box_new w6 #[.int .u32 r.a, .int .i64 r.n, .int .i64 r.m, .int .u64 (u r.o), .int .u64 (u r.p), .int .u64 (u r.h), .int .u64 (u r.k)] 34 1 (.int .i64 r.n) rfl
          have b2 := box_new w6 #[.int .u32 r.a, .int .i64 r.n, .int .i64 r.m, .int .u64 (u r.o), .int .u64 (u r.p), .int .u64 (u r.h), .int .u64 (u r.k)] 34 2 (.int .i64 r.m) rfl
          have b3 := box_new w6 #[.int .u32 r.a, .int .i64 r.n, .int .i64 r.m, .int .u64 (u r.o), .int .u64 (u r.p), .int .u64 (u r.h), .int .u64 (u r.k)] 34 3 (.int .u64 (u r.o)) rfl
          have b4 := box_new w6 #[.int .u32 r.a, .int .i64 r.n, .int .i64 r.m, .int .u64 (u r.o), .int .u64 (u r.p), .int .u64 (u r.h), .int .u64 (u r.k)] 34 4 (.int .u64 (u r.p)) rfl
          have b5 := box_new w6 #[.int .u32 r.a, .int .i64 r.n, .int .i64 r.m, .int .u64 (u r.o), .int .u64 (u r.p), .int .u64 (u r.h), .int .u64 (u r.k)] 34 5 (.int .u64 (u r.h)) rfl
          have b6 := box_new w6 #[.int .u32 r.a, .int .i64 r.n, .int .i64 r.m, .int .u64 (u r.o), .int .u64 (u r.p), .int .u64 (u r.h), .int .u64 (u r.k)] 34 6 (.int .u64 (u r.k)) rfl
          clear hA hz hz6 hB6
          have hz := hz7
          generalize w6.heap.size = E at *
          generalize w6.alloc _ = w7 at *
          have z0 : w7.cell? ⟨B, 0, none⟩ = some (.int .u32 0) := cell_at hz.out rfl
          have f0 : w7.frozen? ⟨B, 0, none⟩ = false := free_at hz.out
          have z1 : w7.cell? ⟨B, 1, none⟩ = some (.int .i64 0) := cell_at hz.out rfl
          have f1 : w7.frozen? ⟨B, 1, none⟩ = false := free_at hz.out
          have z2 : w7.cell? ⟨B, 2, none⟩ = some (.int .i64 0) := cell_at hz.out rfl
          have f2 : w7.frozen? ⟨B, 2, none⟩ = false := free_at hz.out
          have z3 : w7.cell? ⟨B, 3, none⟩ = some (.int .u64 0) := cell_at hz.out rfl
          have f3 : w7.frozen? ⟨B, 3, none⟩ = false := free_at hz.out
          have z4 : w7.cell? ⟨B, 4, none⟩ = some (.int .u64 0) := cell_at hz.out rfl
          have f4 : w7.frozen? ⟨B, 4, none⟩ = false := free_at hz.out
          have z5 : w7.cell? ⟨B, 5, none⟩ = some (.int .u64 0) := cell_at hz.out rfl
          have f5 : w7.frozen? ⟨B, 5, none⟩ = false := free_at hz.out
          have z6 : w7.cell? ⟨B, 6, none⟩ = some (.int .u64 0) := cell_at hz.out rfl
          have f6 : w7.frozen? ⟨B, 6, none⟩ = false := free_at hz.out
          go_wp2_with fail
          clear b0 b1 b2 b3 b4 b5 b6
          have hz9 : Box7 _ B (.int .u32 r.a) (.int .i64 r.n) (.int .i64 r.m) (.int .u64 (u r.o)) (.int .u64 (u r.p)) (.int .u64 (u r.h)) (.int .u64 (u r.k)) := ⟨set7 hz.out (.int .u32 r.a) (.int .i64 r.n) (.int .i64 r.m) (.int .u64 (u r.o)) (.int .u64 (u r.p)) (.int .u64 (u r.h)) (.int .u64 (u r.k))⟩
          have hb9 := below7 hB7 lt (.int .u32 r.a) (.int .i64 r.n) (.int .i64 r.m) (.int .u64 (u r.o)) (.int .u64 (u r.p)) (.int .u64 (u r.h)) (.int .u64 (u r.k))
          clear z0 z1 z2 z3 z4 z5 z6 f0 f1 f2 f3 f4 f5 f6
          generalize ((((((World.setCell w7 ⟨B, 0, none⟩ _).setCell ⟨B, 1, none⟩ _).setCell ⟨B, 2, none⟩ _).setCell ⟨B, 3, none⟩ _).setCell ⟨B, 4, none⟩ _).setCell ⟨B, 5, none⟩ _).setCell ⟨B, 6, none⟩ _ = w9 at *
          exact bodyPost_ret (hz9.res12 _ _ rfl rfl) rfl ⟨by rw [HF.out, HL.out, HN.out]; rfl, by rw [HK.out]; exact hb9⟩
      · have hz4 := hz.below hb
        have hB4 := hB3.trans (hb.mono sz3)
        clear hz hc3 hb
        have hz := hz4
        have z0 : wr.cell? ⟨B, 0, none⟩ = some (.int .u32 0) := cell_at hz.out rfl
        have f0 : wr.frozen? ⟨B, 0, none⟩ = false := free_at hz.out
        have z1 : wr.cell? ⟨B, 1, none⟩ = some (.int .i64 0) := cell_at hz.out rfl
        have f1 : wr.frozen? ⟨B, 1, none⟩ = false := free_at hz.out
        have z2 : wr.cell? ⟨B, 2, none⟩ = some (.int .i64 0) := cell_at hz.out rfl
        have f2 : wr.frozen? ⟨B, 2, none⟩ = false := free_at hz.out
        have z3 : wr.cell? ⟨B, 3, none⟩ = some (.int .u64 0) := cell_at hz.out rfl
        have f3 : wr.frozen? ⟨B, 3, none⟩ = false := free_at hz.out
        have z4 : wr.cell? ⟨B, 4, none⟩ = some (.int .u64 0) := cell_at hz.out rfl
        have f4 : wr.frozen? ⟨B, 4, none⟩ = false := free_at hz.out
        have z5 : wr.cell? ⟨B, 5, none⟩ = some (.int .u64 0) := cell_at hz.out rfl
        have f5 : wr.frozen? ⟨B, 5, none⟩ = false := free_at hz.out
        have z6 : wr.cell? ⟨B, 6, none⟩ = some (.int .u64 0) := cell_at hz.out rfl
        have f6 : wr.frozen? ⟨B, 6, none⟩ = false := free_at hz.out
        go_wp2_with fail
        have hz9 : Box7 _ B (.int .u32 0) (.int .i64 0) (.int .i64 0) (.int .u64 0) (.int .u64 0) (.int .u64 0) (.int .u64 0) := ⟨set7 hz.out (.int .u32 0) (.int .i64 0) (.int .i64 0) (.int .u64 0) (.int .u64 0) (.int .u64 0) (.int .u64 0)⟩
        have hb9 := below7 hB4 lt (.int .u32 0) (.int .i64 0) (.int .i64 0) (.int .u64 0) (.int .u64 0) (.int .u64 0) (.int .u64 0)
        clear z0 z1 z2 z3 z4 z5 z6 f0 f1 f2 f3 f4 f5 f6
        generalize ((((((World.setCell wr ⟨B, 0, none⟩ _).setCell ⟨B, 1, none⟩ _).setCell ⟨B, 2, none⟩ _).setCell ⟨B, 3, none⟩ _).setCell ⟨B, 4, none⟩ _).setCell ⟨B, 5, none⟩ _).setCell ⟨B, 6, none⟩ _ = w9 at *
        exact bodyPost_ret (hz9.res12 _ _ rfl rfl) rfl ⟨by rw [HF.out, HL.out]; rfl, by rw [HK.out]; exact hb9⟩
end Go.Proofs.YtpebpfaecdmabaaDoor
/- The law PrefixLongest: plain law and walk. -/
namespace Go.Proofs.YtpebpfaecdmabaaDoor
open Go Go.RowKit PL

theorem wt32 : wt 32 = 1 := by decide
theorem cov_iff {r : Rt} {ad : Int} (h : okP r.a r.n = true) : covP r.a r.n ad 32 = true ↔ r.a = ad / wt r.n * wt r.n := by
  have h' := h
  unfold okP at h'
  simp only [decide_eq_true_eq] at h'
  have hd := Int.emod_add_mul_ediv r.a (wt r.n)
  rw [h'.2.2, Int.zero_add] at hd
  have h32 : okP ad 32 = true := by
    unfold okP
    rw [wt32]
    simp
  unfold covP
  rw [h, h32, decide_eq_true h'.2.1]
  simp only [Bool.true_and, decide_eq_true_eq]
  constructor
  · intro e; rw [← e, Int.mul_comm]; exact hd.symm
  · intro e; rw [e, Int.mul_ediv_cancel _ (Int.ne_of_gt (wt_pos r.n))]
theorem sdR_ok {r : Rt} (h : sdR r = true) : okP r.a r.n = true := by
  unfold sdR at h
  simp only [Bool.and_eq_true] at h
  exact h.1
theorem ok_len {a n : Int} (h : okP a n = true) : 0 ≤ n ∧ n ≤ 32 := by
  unfold okP at h
  simp only [decide_eq_true_eq] at h
  exact ⟨h.1, h.2.1⟩
/-- What lookL answers. -/
theorem lookL_is (rs : List Rt) (ad : Int) : ∀ K, (∃ k r, k < K ∧ rs.find? (hasP (cutA ad k) k) = some r ∧ lookL rs ad K = (r, 0) ∧ ∀ j, k < j → j < K → rs.find? (hasP (cutA ad j) j) = none) ∨ (lookL rs ad K = (Rt.zero, 8) ∧ ∀ j, j < K → rs.find? (hasP (cutA ad j) j) = none)
  | 0 => .inr ⟨rfl, fun j hj => by omega⟩
  | K + 1 => by
    cases h : rs.find? (hasP (cutA ad K) K) with
    | some r => exact .inl ⟨K, r, by omega, h, lookL_some h, fun j h1 h2 => by omega⟩
    | none =>
      rw [lookL_none h]
      rcases lookL_is rs ad K with ⟨k, r, h1, h2, h3, h4⟩ | ⟨h1, h2⟩
      · refine .inl ⟨k, r, by omega, h2, h3, fun j h5 h6 => ?_⟩
        by_cases e : j = K
        · rw [e]; exact h
        · exact h4 j h5 (by omega)
      · refine .inr ⟨h1, fun j h5 => ?_⟩
        by_cases e : j = K
        · rw [e]; exact h
        · exact h2 j (by omega)
theorem cov_none {rs : List Rt} {ad : Int} (hs : sdT rs = true) {k : Nat} (h : rs.find? (hasP (cutA ad k) k) = none) (i : Nat) (hi : i < rs.length) (hn : rs[i].n = k) : covP rs[i].a rs[i].n ad 32 = false := by
  rw [Bool.eq_false_iff]
  intro hc
  rw [cov_iff (sdR_ok (sdT_sd hs i hi))] at hc
  rw [find_at hs hi (a := cutA ad k) (n := k) (by rw [hc, hn]; rfl) hn] at h
  cases h
/-- What Lookup answers in a sound table. -/
inductive LookS (rs : List Rt) (ad : Int) : Rt × Int → Prop
  | hit (i : Nat) (hi : i < rs.length) (hc : covP rs[i].a rs[i].n ad 32 = true) (hm : ∀ (j : Nat) (hj : j < rs.length), covP rs[j].a rs[j].n ad 32 = true → rs[j].n ≤ rs[i].n) : LookS rs ad (rs[i], 0)
  | miss (hm : ∀ (j : Nat) (hj : j < rs.length), covP rs[j].a rs[j].n ad 32 = false) : LookS rs ad (Rt.zero, 8)
theorem lookR_is {rs : List Rt} {ad : Int} (hs : sdT rs = true) : LookS rs ad (lookR rs ad) := by
  rw [lookR_0 hs]
  have hlen : ∀ (j : Nat) (hj : j < rs.length), ∃ k : Nat, k < 33 ∧ rs[j].n = k := fun j hj => by
    have := ok_len (sdR_ok (sdT_sd hs j hj))
    exact ⟨rs[j].n.toNat, by omega, by omega⟩
  rcases lookL_is rs ad 33 with ⟨k, r, h1, h2, h3, h4⟩ | ⟨h1, h2⟩
  · rw [h3]
    obtain ⟨hp, i, hi, rfl, _⟩ := List.find?_eq_some_iff_getElem.1 h2
    simp only [hasP, Bool.and_eq_true, beq_iff_eq] at hp
    refine .hit i hi ?_ fun j hj hc => ?_
    · rw [cov_iff (sdR_ok (sdT_sd hs i hi)), hp.1, hp.2]; rfl
    · obtain ⟨m, hm, e⟩ := hlen j hj
      rw [hp.2, e]
      by_cases hkm : k < m
      · rw [cov_none hs (h4 m hkm hm) j hj e] at hc; cases hc
      · omega
  · rw [h1]
    refine .miss fun j hj => ?_
    obtain ⟨m, hm, e⟩ := hlen j hj
    exact cov_none hs (h2 m hm) j hj e
theorem Lookup_is (v : Value) (rs : List Rt) (ad : Int) (w : World) (h : RtS w v rs) (hl : rs.length ≤ 4398046511104) (hr : ∀ r ∈ rs, r.in32) (ha : 0 ≤ ad) (ha2 : ad < 4294967296) {r : Rt} {x : Int} (hx : lookR rs ad = (r, x)) :
    Calls Tryd.prog 12 #[v, .int .u32 ad] w fun e w' => e = .returned (.tuple #[rtv r, .int .i64 x]) ∧ Below w.heap.size w w' := by
  have := Lookup_any v rs ad w h hl hr ha ha2
  rwa [hx] at this
theorem Covers_is {a n b m : Int} (ha : 0 ≤ a) (ha2 : a < 4294967296) (hb : 0 ≤ b) (hb2 : b < 4294967296) (w : World) {x : Bool} (hx : covP a n b m = x) : Calls Tryd.prog 10 #[pfx a n, pfx b m] w fun e w' => e = .returned (.bool x) ∧ Below w.heap.size w w' := by
  rw [← hx]; exact Covers_pfx ha ha2 hb hb2 w
set_option maxHeartbeats 8000000 in
set_option maxRecDepth 100000 in
theorem PrefixLongest_walk (v : Value) (rs : List Rt) (ad : Int) (w : World) (hTab : Bs.TabW w) (h : RtS w v rs) (hl : rs.length ≤ 4398046511104) (hr : ∀ r ∈ rs, r.in32) (ha : 0 ≤ ad) (ha2 : ad < 4294967296) :
    Calls Tryd.prog 4 #[v, .int .u32 ad] w fun e w' => e = .returned (.bool true) ∧ Below w.heap.size w w' := by
  obtain ⟨b, cap, rfl, hm, hc⟩ := h.form
  go_enter Tryd.func4, Tryd.ntmps4
  go_wp2_with fail
  refine (awake_true _ hTab).mono ?_
  rintro e w1 ⟨rfl, hb1⟩
  have hc1 := RecS.below hc hb1
  clear hc h hTab
  cases hsd : sdT rs
  · have HL := Lib.hid (lookR_1 (b := ad) hsd)
    have HE := Lib.hid (sdE_not hsd)
    clear hsd
    generalize Rt.zero = r at HL
    go_wp2_with fail
    refine (Lookup_is _ rs ad _ hc1 hl hr ha ha2 HL.out).mono ?_
    rintro e w2 ⟨rfl, hb2⟩
    have hc2 := RecS.below hc1 hb2
    have hB2 := hb1.trans (hb2.mono hb1.size)
    have hA := (Below.refl _ w2).alloc (Nat.le_refl _) (.cells #[.int .u32 r.a, .int .i64 r.n, .int .i64 r.m, .int .u64 (u r.o), .int .u64 (u r.p), .int .u64 (u r.h), .int .u64 (u r.k)] 34)
    clear hc1 hb1 hb2 HL
    go_wp2_with fail
    have hc3 := RecS.below hc2 hA
    have hB3 := hB2.trans (hA.mono hB2.size)
    clear hc2 hA hB2
    generalize World.alloc w2 _ = w3 at *
    refine (Sound_is _ _ _ hc3 hl hr HE.out).mono ?_
    rintro e w4 ⟨rfl, hb4⟩
    go_wp2_with fail
    go_ret
    exact ⟨rfl, hB3.trans (hb4.mono hB3.size)⟩
  · have hLS := lookR_is (ad := ad) hsd
    generalize hq : lookR rs ad = q at hLS
    cases hLS with
    | hit i hi hcv hmx =>
      have HQ := Lib.hid hq
      have HC := Lib.hid hcv
      have HM := Lib.hid hmx
      clear hq hcv hmx hsd
      have hri := hr rs[i] (List.getElem_mem hi)
      generalize rs[i] = r at *
      go_wp2_with fail
      refine (Lookup_is _ rs ad _ hc1 hl hr ha ha2 HQ.out).mono ?_
      rintro e w2 ⟨rfl, hb2⟩
      have hc2 := RecS.below hc1 hb2
      have hB2 := hb1.trans (hb2.mono hb1.size)
      clear hc1 hb1 hb2 HQ
      have hA := (Below.refl _ w2).alloc (Nat.le_refl _) (.cells #[.int .u32 r.a, .int .i64 r.n, .int .i64 r.m, .int .u64 (u r.o), .int .u64 (u r.p), .int .u64 (u r.h), .int .u64 (u r.k)] 34)
      have b0 := box_new w2 #[.int .u32 r.a, .int .i64 r.n, .int .i64 r.m, .int .u64 (u r.o), .int .u64 (u r.p), .int .u64 (u r.h), .int .u64 (u r.k)] 34 0 (.int .u32 r.a) rfl
      have b1 := box_new w2 #[.int .u32 r.a, .int .i64 r.n, .int .i64 r.m, .int .u64 (u r.o), .int .u64 (u r.p), .int .u64 (u r.h), .int .u64 (u r.k)] 34 1 (.int .i64 r.n) rfl
      go_upto_region 6 with fail
      have hc3 := RecS.below hc2 hA
      have hB3 := hB2.trans (hA.mono hB2.size)
      clear hc2 hA hB2
      generalize w2.heap.size = B at *
      generalize w2.alloc _ = w3 at *
      have hA := (Below.refl _ w3).alloc (Nat.le_refl _) (.cells #[.int .u32 ad, .int .i64 32] 24)
      have d0 := box_new w3 #[.int .u32 ad, .int .i64 32] 24 0 (.int .u32 ad) rfl
      have d1 := box_new w3 #[.int .u32 ad, .int .i64 32] 24 1 (.int .i64 32) rfl
      have l0 := (hA.cell (World.block_lt_of_cell? _ _ b0)).trans b0
      have l1 := (hA.cell (World.block_lt_of_cell? _ _ b1)).trans b1
      clear b0 b1
      go_upto_region 7 with fail
      have hc4 := RecS.below hc3 hA
      have hB4 := hB3.trans (hA.mono hB3.size)
      clear hc3 hA hB3
      generalize w3.heap.size = D at *
      generalize w3.alloc _ = w4 at *
      go_wp2_with fail
      refine (Covers_is hri.1 hri.2 ha ha2 _ HC.out).mono ?_
      rintro e w5 ⟨rfl, hb5⟩
      have hc5 := RecS.below hc4 hb5
      have hB5 := hB4.trans (hb5.mono hB4.size)
      replace d0 := (hb5.cell (World.block_lt_of_cell? _ _ d0)).trans d0
      replace d1 := (hb5.cell (World.block_lt_of_cell? _ _ d1)).trans d1
      replace l0 := (hb5.cell (World.block_lt_of_cell? _ _ l0)).trans l0
      replace l1 := (hb5.cell (World.block_lt_of_cell? _ _ l1)).trans l1
      clear hc4 hb5 hB4
      go_wp2_with fail
      go_loopw [8] (fun x wr => ∃ j : Nat, x = .int .i64 j ∧ j ≤ rs.length ∧ Below w5.heap.size w5 wr) (fun x _ => rs.length - (kO x).toNat)
      case atStart => exact ⟨0, rfl, Nat.zero_le _, Below.refl _ _⟩
      case round =>
        obtain ⟨j, rfl, hj, hb⟩ := hrel
        by_cases hlt : j < rs.length
        · have hc6 := RecS.below hc5 hb
          obtain ⟨K, off, rfl, r0, r1, _⟩ := RtS.row hc6 j hlt
          have hrj := hr rs[j] (List.getElem_mem hlt)
          have hmj := HM.out j hlt
          generalize rs[j] = s at *
          cases hcv : covP s.a s.n ad 32
          · have HC2 := Lib.hid hcv
            clear hcv hmj
            have q0 := fun n : ExtW wr => exw_cell r0 n
            have q1 := fun n : ExtW wr => exw_cell r1 n
            have p0 := fun n : ExtW wr => exw_cell ((hb.cell (World.block_lt_of_cell? _ _ d0)).trans d0) n
            have p1 := fun n : ExtW wr => exw_cell ((hb.cell (World.block_lt_of_cell? _ _ d1)).trans d1) n
            have m1 := fun n : ExtW wr => exw_cell ((hb.cell (World.block_lt_of_cell? _ _ l1)).trans l1) n
            clear r0 r1
            go_upto_region 12 with fail
            refine region_ext (by kernel_rfl) (by kernel_rfl) ?_
            repeat (go_big_quiet_step ((go_at_call 10; exact ext_call (Covers_is hrj.1 hrj.2 ha ha2 _ HC2.out))))
            refine wpQuiet_nil ?_
            rintro _ ⟨nq, rfl⟩
            clear q0 q1 p0 p1 m1
            have hbn := hb.trans ((exw_below nq).mono hb.size)
            go_wp2_with fail
            go_roundw
            case rel => exact ⟨j + 1, by go_num, hlt, hbn⟩
            case measure => simp only [kO]; omega
          · have HC2 := Lib.hid hcv
            have hn := hmj hcv
            clear hcv hmj
            have hn2 : ¬ s.n > r.n := by omega
            have q0 := fun n : ExtW wr => exw_cell r0 n
            have q1 := fun n : ExtW wr => exw_cell r1 n
            have p0 := fun n : ExtW wr => exw_cell ((hb.cell (World.block_lt_of_cell? _ _ d0)).trans d0) n
            have p1 := fun n : ExtW wr => exw_cell ((hb.cell (World.block_lt_of_cell? _ _ d1)).trans d1) n
            have m1 := fun n : ExtW wr => exw_cell ((hb.cell (World.block_lt_of_cell? _ _ l1)).trans l1) n
            clear r0 r1
            go_upto_region 12 with fail
            refine region_ext (by kernel_rfl) (by kernel_rfl) ?_
            repeat (go_big_quiet_step ((go_at_call 10; exact ext_call (Covers_is hrj.1 hrj.2 ha ha2 _ HC2.out))))
            refine wpQuiet_nil ?_
            rintro _ ⟨nq, rfl⟩
            clear q0 q1 p0 p1 m1
            have hbn := hb.trans ((exw_below nq).mono hb.size)
            go_wp2_with fail
            go_roundw
            case rel => exact ⟨j + 1, by go_num, hlt, hbn⟩
            case measure => simp only [kO]; omega
        · have e : j = rs.length := by omega
          subst e
          go_wp2_with fail
          go_ret
          exact ⟨rfl, hB5.trans (hb.mono hB5.size)⟩
    | miss hmx =>
      have HQ := Lib.hid hq
      have HM := Lib.hid hmx
      clear hq hmx hsd
      generalize Rt.zero = r at HQ
      go_wp2_with fail
      refine (Lookup_is _ rs ad _ hc1 hl hr ha ha2 HQ.out).mono ?_
      rintro e w2 ⟨rfl, hb2⟩
      have hc2 := RecS.below hc1 hb2
      have hB2 := hb1.trans (hb2.mono hb1.size)
      clear hc1 hb1 hb2 HQ
      have hA := (Below.refl _ w2).alloc (Nat.le_refl _) (.cells #[.int .u32 r.a, .int .i64 r.n, .int .i64 r.m, .int .u64 (u r.o), .int .u64 (u r.p), .int .u64 (u r.h), .int .u64 (u r.k)] 34)
      have b0 := box_new w2 #[.int .u32 r.a, .int .i64 r.n, .int .i64 r.m, .int .u64 (u r.o), .int .u64 (u r.p), .int .u64 (u r.h), .int .u64 (u r.k)] 34 0 (.int .u32 r.a) rfl
      have b1 := box_new w2 #[.int .u32 r.a, .int .i64 r.n, .int .i64 r.m, .int .u64 (u r.o), .int .u64 (u r.p), .int .u64 (u r.h), .int .u64 (u r.k)] 34 1 (.int .i64 r.n) rfl
      go_upto_region 6 with fail
      have hc3 := RecS.below hc2 hA
      have hB3 := hB2.trans (hA.mono hB2.size)
      clear hc2 hA hB2
      generalize w2.heap.size = B at *
      generalize w2.alloc _ = w3 at *
      have hA := (Below.refl _ w3).alloc (Nat.le_refl _) (.cells #[.int .u32 ad, .int .i64 32] 24)
      have d0 := box_new w3 #[.int .u32 ad, .int .i64 32] 24 0 (.int .u32 ad) rfl
      have d1 := box_new w3 #[.int .u32 ad, .int .i64 32] 24 1 (.int .i64 32) rfl
      have l0 := (hA.cell (World.block_lt_of_cell? _ _ b0)).trans b0
      have l1 := (hA.cell (World.block_lt_of_cell? _ _ b1)).trans b1
      clear b0 b1
      go_upto_region 7 with fail
      have hc4 := RecS.below hc3 hA
      have hB4 := hB3.trans (hA.mono hB3.size)
      clear hc3 hA hB3
      generalize w3.heap.size = D at *
      generalize w3.alloc _ = w4 at *
      have hc5 := hc4
      have hB5 := hB4
      clear hc4 hB4
      go_wp2_with fail
      generalize w4 = w5 at *
      go_loopw [8] (fun x wr => ∃ j : Nat, x = .int .i64 j ∧ j ≤ rs.length ∧ Below w5.heap.size w5 wr) (fun x _ => rs.length - (kO x).toNat)
      case atStart => exact ⟨0, rfl, Nat.zero_le _, Below.refl _ _⟩
      case round =>
        obtain ⟨j, rfl, hj, hb⟩ := hrel
        by_cases hlt : j < rs.length
        · have hc6 := RecS.below hc5 hb
          obtain ⟨K, off, rfl, r0, r1, _⟩ := RtS.row hc6 j hlt
          have hrj := hr rs[j] (List.getElem_mem hlt)
          have hcv := HM.out j hlt
          generalize rs[j] = s at *
          have HC2 := Lib.hid hcv
          clear hcv
          have q0 := fun n : ExtW wr => exw_cell r0 n
          have q1 := fun n : ExtW wr => exw_cell r1 n
          have p0 := fun n : ExtW wr => exw_cell ((hb.cell (World.block_lt_of_cell? _ _ d0)).trans d0) n
          have p1 := fun n : ExtW wr => exw_cell ((hb.cell (World.block_lt_of_cell? _ _ d1)).trans d1) n
          have m1 := fun n : ExtW wr => exw_cell ((hb.cell (World.block_lt_of_cell? _ _ l1)).trans l1) n
          clear r0 r1
          go_upto_region 12 with fail
          refine region_ext (by kernel_rfl) (by kernel_rfl) ?_
          repeat (go_big_quiet_step ((go_at_call 10; exact ext_call (Covers_is hrj.1 hrj.2 ha ha2 _ HC2.out))))
          refine wpQuiet_nil ?_
          rintro _ ⟨nq, rfl⟩
          clear q0 q1 p0 p1 m1
          have hbn := hb.trans ((exw_below nq).mono hb.size)
          go_wp2_with fail
          go_roundw
          case rel => exact ⟨j + 1, by go_num, hlt, hbn⟩
          case measure => simp only [kO]; omega
        · have e : j = rs.length := by omega
          subst e
          go_wp2_with fail
          go_ret
          exact ⟨rfl, hB5.trans (hb.mono hB5.size)⟩
end Go.Proofs.YtpebpfaecdmabaaDoor
/- The laid table, read; a prefix among the arguments, opened. -/
namespace Go.Proofs.YtpebpfaecdmabaaDoor
open Go.ChangeShapes Go.WideShapes Go.ChangeAt Go.WideMaps Go.WideElems Go.RowKit

def laidTab {H : Type} : List (String × DataW H) := [("math/bits.deBruijn64tab", Rows.laid_math_bits_deBruijn64tab)]
theorem gTab : Tryd.prog.globalNamed "math/bits.deBruijn64tab" = some 0 := by kernel_rfl
theorem tTab : (Tryd.prog.globals[0]?).map (·.type) = some 143 := by kernel_rfl
theorem tab_data {H : Type} : (Rows.laid_math_bits_deBruijn64tab : DataW H) = .agg (Bs.tzTab.map fun (k : Nat) => .lit (.int .u8 (k : Int))) := rfl

theorem of_laid {W : World} (h : laidMetH Tryd.prog laidTab W) : Bs.TabW W := by
  rw [MakeChecks.laidMetH_plain _ _ _ (by kernel_rfl)] at h
  obtain ⟨ps, ⟨g0, t0, cs0, f0, p0, q0, hg0, ht0, hv0, hd0, _⟩, _, _⟩ := h
  obtain rfl := Option.some.inj (gTab.symm.trans hg0)
  obtain rfl := Option.some.inj (tTab.symm.trans ht0)
  obtain ⟨xs, m1, rfl, hx1, hlen, hn3, hel⟩ := DataW.trod_array Tryd.underlying143 hd0
  rw [tab_data] at hx1
  simp only [Prod.mk.injEq, DataW.agg.injEq] at hx1
  have c5 : Tryd.prog.cellsOf 5 = 1 := by kernel_rfl
  refine ⟨fun i k hk => ?_⟩
  have hi : i < 64 := by
    have := (List.getElem?_eq_some_iff.1 hk).1
    exact Nat.lt_of_lt_of_eq this (by decide)
  have h1 := hel i hi
  rw [c5, Nat.mul_one] at h1
  obtain ⟨x, hx⟩ : ∃ x, xs[i]? = some x := ⟨xs[i], List.getElem?_eq_getElem (by omega)⟩
  rw [hx] at h1
  obtain ⟨n, e1, e2, _⟩ := DataW.trod_int Tryd.underlying5 h1
  have hm : (xs.map (·.1))[i]? = some (.lit (.int .u8 n)) := by rw [List.getElem?_map, hx, e2]; rfl
  rw [← hx1.1, List.getElem?_map, hk] at hm
  have hnk : n = (k : Int) := by simpa using hm.symm
  subst hnk
  rw [World.var?_cell hg0 hv0 i, ← Array.getElem?_toList]
  have h2 : cs0.toList[i]? = (cs0.toList.drop i)[0]? := by rw [List.getElem?_drop]; rfl
  have h3 : ((cs0.toList.drop i).take 1)[0]? = (cs0.toList.drop i)[0]? := by rw [List.getElem?_take]; rfl
  rw [h2, ← h3, e1]
  rfl
theorem c24 : Tryd.prog.cellsOf 24 = 2 := by kernel_rfl
theorem c22 : Tryd.prog.cellsOf 22 = 1 := by kernel_rfl
theorem c3 : Tryd.prog.cellsOf 3 = 1 := by kernel_rfl
set_option maxRecDepth 100000 in
theorem open_pfx {H : Type} {enc : TypeId × Value → H} {W : World} {b : Nat} {v : Value} {d : DataW H} {p : List MemPlace}
    (hok : Value.okWide Tryd.prog W .any b 24 v) (h : DataW.Trod enc Tryd.prog W 0 (fun _ => true) true 24 v d p) : ∃ (a n : Int), 0 ≤ a ∧ a < 4294967296 ∧ v = pfx a n := by
  simp only [Value.okWide, Tryd.underlying24] at hok
  obtain ⟨cs, rfl, _, _⟩ := hok
  obtain ⟨fuel, hf⟩ := h
  obtain ⟨y0, y1, m, _, hl, h0, h1⟩ := trod_struct2 Tryd.underlying24 hf
  obtain ⟨x0, e0, _, w0⟩ := DataW.trod_int Tryd.underlying22 h0
  obtain ⟨x1, e1, _, w1⟩ := DataW.trod_int Tryd.underlying3 h1
  rw [c22] at e0
  rw [c3] at e1
  rw [c24] at hl
  have w0' : 0 ≤ x0 ∧ x0 < 4294967296 := by
    simp [Lit.wf, IntKind.min, IntKind.max, IntKind.signed, IntKind.bits] at w0
    omega
  refine ⟨x0, x1, w0'.1, w0'.2, ?_⟩
  unfold pfx
  congr 1
  apply Array.toList_inj.1
  simp only [Value.cells, List.drop_zero] at hl e0 e1
  have h2 := List.take_append_drop 1 cs.toList
  rw [e0] at h2
  have h3 : (cs.toList.drop 1).take 1 = cs.toList.drop 1 := List.take_of_length_le (by simp; simp at hl; omega)
  rw [← h2, ← h3, e1]
  rfl
end Go.Proofs.YtpebpfaecdmabaaDoor
/- A set of nodes (an array of two words) as a law's argument. No program stands in it. -/
namespace Go.Proofs.YtpebpfaecdmabaaDoor
open Go.RowKit Go.ChangeShapes Go.WideShapes Go.ChangeAt

theorem u64_word {a : Int} (h : (Lit.int .u64 a).wf = true) : ∃ x : UInt64, a = u x := by
  have h1 : IntKind.u64.min = 0 := rfl
  have h2 : IntKind.u64.max = 18446744073709551615 := rfl
  simp only [Lit.wf, Bool.and_eq_true, decide_eq_true_eq, h1, h2] at h
  exact u_nat h.1 (by omega)

/-- The cells of a set, out of its reading. -/
theorem trod_bt {H : Type} {enc : TypeId × Value → H} {P : Program} {W : World} {base : Nat} {sp : Nat → Bool} {hd : Bool} {t e fuel : Nat} {cs : List Value} {x : DataW H × List MemPlace} (ht : P.underlying t = some (.array 2 e)) (he : P.underlying e = some (.int .u64)) (hc : P.cellsOf e = 1) (hct : P.cellsOf t = 2)
    (h : DataW.trod enc P W base sp hd fuel t cs = some x) : ∃ s : Bt, cs = bc s := by
  cases fuel with
  | zero => simp [DataW.trod] at h
  | succ fuel =>
    unfold DataW.trod at h
    rw [ht] at h
    simp only at h
    split at h
    · rename_i hl
      simp only [Option.map_eq_some_iff] at h
      obtain ⟨xs, hm, _⟩ := h
      simp only [List.range_succ, List.range_zero, List.nil_append, List.cons_append, List.mapM_cons, List.mapM_nil, hc, Nat.mul_one, bind, Option.bind_eq_some_iff, pure] at hm
      obtain ⟨a, ha, b, ⟨c, hc', _⟩, _⟩ := hm
      obtain ⟨m, hm1, _, hm2⟩ := DataW.trod_int he ha
      obtain ⟨n, hn1, _, hn2⟩ := DataW.trod_int he hc'
      obtain ⟨x1, rfl⟩ := u64_word hm2
      obtain ⟨x2, rfl⟩ := u64_word hn2
      rw [hct] at hl
      match cs, hl, hm1, hn1 with
      | [c0, c1], _, hm1, hn1 =>
        simp at hm1 hn1
        exact ⟨(x1, x2), by rw [hm1, hn1]; rfl⟩
    · cases h

theorem open_bt {H : Type} {enc : TypeId × Value → H} {P : Program} {W : World} {t e b : Nat} {v : Value} {d : DataW H} {p : List MemPlace} (ht : P.underlying t = some (.array 2 e)) (he : P.underlying e = some (.int .u64)) (hc : P.cellsOf e = 1) (hct : P.cellsOf t = 2)
    (hok : Value.okWide P W .any b t v) (h : DataW.Trod enc P W 0 (fun _ => true) true t v d p) : ∃ s : Bt, v = bv s := by
  simp only [Value.okWide, ht] at hok
  obtain ⟨cs, rfl, _, _⟩ := hok
  obtain ⟨fuel, hf⟩ := h
  obtain ⟨s, hs⟩ := trod_bt ht he hc hct hf
  refine ⟨s, ?_⟩
  simp only [Value.cells] at hs
  simp only [bc] at hs
  congr 1
  apply Array.toList_inj.1
  rw [hs]
end Go.Proofs.YtpebpfaecdmabaaDoor
