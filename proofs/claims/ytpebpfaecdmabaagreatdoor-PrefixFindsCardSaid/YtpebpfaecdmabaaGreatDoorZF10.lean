/- Parts of this proof, joined. -/
import Derived.RangeFuncNested
import Derived.RangeFuncBound
import Derived.RangeFuncCalls
import Derived.RangeFuncLeaves
import Derived.Shelf.Abstract
import Derived.Shelf.RegionOpen
import Derived.WalkKit
import Derived.OwnWalkIn
import Derived.TacticsInMore
import Derived.LoopNIn
import Derived.LoopIn
import Derived.Test.YtpebpfaecdmabaaGreatDoorZF09
import Derived.RangeFuncBox
import Derived.LoopN
/- Each: the iterator's contract, for every loop body that keeps what lay below. -/
namespace Go.Proofs.YtpebpfaecdmabaaGreatDoor.Bs
open Go.RowKit
attribute [local go_sem] Oper.semAt_some

theorem TabW.kept {w w' : World} {B : Nat} (h : TabW w) (h0 : 0 < B) (hb : Below B w w') : TabW w' :=
  ⟨fun i k hk => (hb.cell (p := ⟨0, i, none⟩) h0).trans (h.at' i k hk)⟩
theorem u_clear (y : UInt64) (hy : y ≠ 0) : (u y - 1 : Int) = u (y - 1) ∧ (y &&& (y - 1)).toNat = y.toNat &&& (y.toNat - 1) := by
  have hn : y.toNat ≠ 0 := fun h => hy (UInt64.toNat_inj.1 (by simpa using h))
  have h1 : (y - 1).toNat = y.toNat - 1 := by
    have hlt := UInt64.toNat_lt y
    rw [UInt64.toNat_sub]
    have e1 : (1 : UInt64).toNat = 1 := rfl
    rw [e1]
    omega
  refine ⟨?_, ?_⟩
  · unfold u
    rw [h1]
    omega
  · rw [UInt64.toNat_and, h1]
/-- The nodes of the word k of a set, rising. -/
def onesI (k : Nat) (x : UInt64) : List Int := (placesL x.toNat).map fun (i : Nat) => 64 * (k : Int) + (i : Int)
theorem places_len (x : Nat) : (placesL x).length ≤ 64 := by
  unfold placesL
  have := List.length_filter_le (fun i => x.testBit i) (List.range 64)
  simpa using this
theorem onesI_zero (k : Nat) : onesI k 0 = [] := by simp [onesI, places_zero]
/-- What Each hands out. -/
def eachL (s : Bt) : List Int := onesI 0 s.1 ++ onesI 1 s.2
def kOf : Value → Int
  | .int _ n => n
  | _ => 0
def wordOf (s : Bt) (k : Nat) : UInt64 := if k = 0 then s.1 else s.2
def doneL (s : Bt) (k : Nat) : List Int := if k = 0 then [] else if k = 1 then onesI 0 s.1 else eachL s

theorem idx0 (a b : Int) (w : World) : (Instr.index 28 (.agg #[.int .u64 a, .int .u64 b]) (.int .i64 0)).run Tryz.prog w = .ok (.int .u64 a) w := by
  simp [Instr.index, run_underlying Tryz.underlying28, asIntOf, go_sem]
theorem idx1 (a b : Int) (w : World) : (Instr.index 28 (.agg #[.int .u64 a, .int .u64 b]) (.int .i64 1)).run Tryz.prog w = .ok (.int .u64 b) w := by
  simp [Instr.index, run_underlying Tryz.underlying28, asIntOf, go_sem]
set_option maxRecDepth 100000 in
set_option maxHeartbeats 4000000 in
theorem each1_in (n : Nat) (hn : 1 ≤ n) (l Bs n₀ : Nat) (h0n : 0 < n₀) (s : Bt) (J Jx : List Int → World → Prop)
    (hY : ∀ pre x W, J pre W → pre.length < 128 → YieldAt Fence.wide (n - 1) Tryz.prog l #[.int .i64 x] W fun e W' =>
      (e = .returned (.bool true) ∧ J (pre ++ [x]) W' ∧ Below n₀ W W') ∨ (e = .returned (.bool false) ∧ Jx (pre ++ [x]) W'))
    (W : World) (hB0 : W.cell? ⟨Bs, 0, none⟩ = some (.int .u64 (u s.1))) (hB1 : W.cell? ⟨Bs, 1, none⟩ = some (.int .u64 (u s.2))) (hT : TabW W) (h0 : J [] W) :
    CallsIn Fence.wide n Tryz.prog 72 #[.func (.yield l) #[] #[], .pointer (some ⟨Bs, 0, none⟩)] W fun e W' => (∃ v, e = .returned v) ∧
      ((∃ ys, ys = eachL s ∧ J ys W') ∨ (∃ pre, pre <+: eachL s ∧ Jx pre W')) := by
  refine callsIn_of_wp Tryz.func72 rfl trivial ?_ rfl
  simp only [Tryz.ntmps72, List.size_toArray, List.length_cons, List.length_nil, Nat.reduceAdd, Nat.reduceSub, Array.replicate_succ, Array.replicate_zero, List.push_toArray, List.append_toArray, List.nil_append, List.cons_append]
  gi_wp2
  gi_loopw [6] (fun i wr => ∃ k : Nat, k ≤ 2 ∧ i = .int .i64 k ∧ J (doneL s k) wr ∧ TabW wr) (fun i _ => (2 - kOf i).toNat)
  case atStart => exact ⟨0, by omega, rfl, h0, hT⟩
  case round =>
    obtain ⟨k, hk, rfl, hJ, hTr⟩ := hrel
    clear hT h0 hB0 hB1
    by_cases h2 : k < 2
    · have hk01 : k = 0 ∨ k = 1 := by omega
      have hlen := fun x => places_len x
      rcases hk01 with rfl | rfl
      · have hidx := fun w => idx0 (u s.1) (u s.2) w
        rw [show (((0 : Nat)) : Int) = 0 from rfl]
        gi_wp2
        gi_loopw [4] (fun v wr => ∃ (y : UInt64) (don : List Int), v = .int .u64 (u y) ∧ don ++ onesI 0 y = onesI 0 s.1 ∧ J don wr ∧ TabW wr) (fun v _ => (kOf v).toNat)
        case atStart => exact ⟨s.1, [], rfl, rfl, hJ, hTr⟩
        case round =>
          clear hJ hTr
          obtain ⟨y, don, rfl, hd, hJ, hTr⟩ := hrel
          by_cases hy : y = 0
          · subst hy
            have hu0 : u 0 = 0 := rfl
            rw [hu0]
            rw [onesI_zero, List.append_nil] at hd
            subst hd
            gi_wp2
            go_roundw
            case rel => exact ⟨1, by omega, rfl, hJ, hTr⟩
            case measure => simp only [kOf]; omega
          · obtain ⟨t, ⟨ht, htb, htl⟩, hc⟩ := Tz_some y hy wr hTr
            have hst := places_step y.toNat t ht htb htl
            obtain ⟨hu1, hu2⟩ := u_clear y hy
            have hone : onesI 0 y = (t : Int) :: onesI 0 (y &&& (y - 1)) := by
              unfold onesI
              rw [hu2, hst, List.map_cons]
              congr 1
              first | done | simp
            rw [hone] at hd
            have hpre : don ++ [(t : Int)] <+: eachL s := by
              unfold eachL
              rw [← hd]
              exact ⟨onesI 0 (y &&& (y - 1)) ++ onesI 1 s.2, by simp⟩
            have hl128 : don.length < 128 := by
              have h1 := hpre.length_le
              have h2 := places_len s.1.toNat
              have h3 := places_len s.2.toNat
              simp [eachL, onesI] at h1 ⊢
              omega
            obtain ⟨fn, tmps, assign, body, hyy, hR⟩ := hY don (t : Int) wr hJ hl128
            have hun : ¬ (u y = 0) := fun h => hy (u_inj (h.trans (show (0 : Int) = u 0 from rfl)))
            have hlt : u (y &&& (y - 1)) < u y := by
              unfold u
              rw [hu2]
              have := Nat.and_le_right (n := y.toNat) (m := y.toNat - 1)
              unfold u at hun
              omega
            have hnn : 0 ≤ u (y &&& (y - 1)) := by unfold u; omega
            have hwr : IntKind.u64.wrap (u (y - 1)) = u (y - 1) := by
              have hlt := UInt64.toNat_lt (y - 1)
              unfold u
              simp only [IntKind.wrap, IntKind.signed, IntKind.bits]
              simp
              omega
            have hand := u_and y (y - 1)
            gi_wp2_with (refine ⟨trivial, ?_⟩; gi_at_call 73; refine (callsIn_wide.2 hc).mono ?_; rintro e w' ⟨rfl, rfl⟩)
            refine hR.mono ?_
            rintro e W3 (⟨rfl, hJ3, hk3⟩ | ⟨rfl, hJx3⟩)
            · gi_wp2
              go_roundw
              case rel => exact ⟨y &&& (y - 1), don ++ [(t : Int)], by first | rfl | (rw [hu1, hand]) | (rw [hand]), by rw [← hd]; simp, hJ3, hTr.kept h0n hk3⟩
              case measure => first | (simp only [kOf]; omega) | (simp only [kOf, hu1, hand]; omega)
            · gi_wp2
              refine bodyPost_ret (results_none rfl _ _ _) rfl ?_
              exact ⟨⟨_, rfl⟩, .inr ⟨don ++ [(t : Int)], hpre, hJx3⟩⟩
      · have hidx := fun w => idx1 (u s.1) (u s.2) w
        rw [show (((1 : Nat)) : Int) = 1 from rfl]
        gi_wp2
        gi_loopw [4] (fun v wr => ∃ (y : UInt64) (don : List Int), v = .int .u64 (u y) ∧ don ++ onesI 1 y = onesI 1 s.2 ∧ J (onesI 0 s.1 ++ don) wr ∧ TabW wr) (fun v _ => (kOf v).toNat)
        case atStart => exact ⟨s.2, [], rfl, rfl, by rw [List.append_nil]; exact hJ, hTr⟩
        case round =>
          clear hJ hTr
          obtain ⟨y, don, rfl, hd, hJ, hTr⟩ := hrel
          by_cases hy : y = 0
          · subst hy
            have hu0 : u 0 = 0 := rfl
            rw [hu0]
            rw [onesI_zero, List.append_nil] at hd
            subst hd
            gi_wp2
            go_roundw
            case rel => exact ⟨2, by omega, rfl, hJ, hTr⟩
            case measure => simp only [kOf]; omega
          · obtain ⟨t, ⟨ht, htb, htl⟩, hc⟩ := Tz_some y hy wr hTr
            have hst := places_step y.toNat t ht htb htl
            obtain ⟨hu1, hu2⟩ := u_clear y hy
            have hone : onesI 1 y = (64 + (t : Int)) :: onesI 1 (y &&& (y - 1)) := by
              unfold onesI
              rw [hu2, hst, List.map_cons]
              congr 1
              first | done | simp
            rw [hone] at hd
            have hpre : (onesI 0 s.1 ++ don) ++ [(64 + (t : Int))] <+: eachL s := by
              unfold eachL
              rw [← hd]
              exact ⟨onesI 1 (y &&& (y - 1)), by simp⟩
            have hl128 : (onesI 0 s.1 ++ don).length < 128 := by
              have h1 := hpre.length_le
              have h2 := places_len s.1.toNat
              have h3 := places_len s.2.toNat
              simp [eachL, onesI] at h1 ⊢
              omega
            obtain ⟨fn, tmps, assign, body, hyy, hR⟩ := hY (onesI 0 s.1 ++ don) (64 + (t : Int)) wr hJ hl128
            have hun : ¬ (u y = 0) := fun h => hy (u_inj (h.trans (show (0 : Int) = u 0 from rfl)))
            have hlt : u (y &&& (y - 1)) < u y := by
              unfold u
              rw [hu2]
              have := Nat.and_le_right (n := y.toNat) (m := y.toNat - 1)
              unfold u at hun
              omega
            have hnn : 0 ≤ u (y &&& (y - 1)) := by unfold u; omega
            have hwr : IntKind.u64.wrap (u (y - 1)) = u (y - 1) := by
              have hlt := UInt64.toNat_lt (y - 1)
              unfold u
              simp only [IntKind.wrap, IntKind.signed, IntKind.bits]
              simp
              omega
            have hand := u_and y (y - 1)
            gi_wp2_with (refine ⟨trivial, ?_⟩; gi_at_call 73; refine (callsIn_wide.2 hc).mono ?_; rintro e w' ⟨rfl, rfl⟩)
            refine hR.mono ?_
            rintro e W3 (⟨rfl, hJ3, hk3⟩ | ⟨rfl, hJx3⟩)
            · gi_wp2
              go_roundw
              case rel => exact ⟨y &&& (y - 1), don ++ [(64 + (t : Int))], by first | rfl | (rw [hu1, hand]) | (rw [hand]), by rw [← hd]; simp, (by rw [← List.append_assoc]; exact hJ3), hTr.kept h0n hk3⟩
              case measure => first | (simp only [kOf]; omega) | (simp only [kOf, hu1, hand]; omega)
            · gi_wp2
              refine bodyPost_ret (results_none rfl _ _ _) rfl ?_
              exact ⟨⟨_, rfl⟩, .inr ⟨(onesI 0 s.1 ++ don) ++ [(64 + (t : Int))], hpre, hJx3⟩⟩
    · obtain rfl : k = 2 := by omega
      gi_wp2
      go_end0
      exact ⟨⟨_, rfl⟩, .inl ⟨_, rfl, hJ⟩⟩
end Go.Proofs.YtpebpfaecdmabaaGreatDoor.Bs
/- Each: what it hands back, and the contract of what it hands back. -/
namespace Go.Proofs.YtpebpfaecdmabaaGreatDoor.Bs
open Go.RowKit

theorem each_stops (n : Nat) (hn : 1 ≤ n) (Bs n₀ : Nat) (h0n : 0 < n₀) (s : Bt) (w : World) (hB0 : w.cell? ⟨Bs, 0, none⟩ = some (.int .u64 (u s.1))) (hB1 : w.cell? ⟨Bs, 1, none⟩ = some (.int .u64 (u s.2))) (hT : TabW w) :
    SeqStopsK Fence.wide n Tryz.prog 72 #[.pointer (some ⟨Bs, 0, none⟩)] (fun x : Int => #[Value.int .i64 x]) (Below n₀) (fun ys => ys = eachL s) (fun pre => pre <+: eachL s) 128 w := fun l J Jx W hW _ _ hY h0 =>
  each1_in n hn l Bs n₀ h0n s J Jx hY W ((hW.cell (World.block_lt_of_cell? _ _ hB0)).trans hB0) ((hW.cell (World.block_lt_of_cell? _ _ hB1)).trans hB1) (hT.below hW) h0
theorem Each_any (s : Bt) (w : World) : Calls Tryz.prog 52 #[bv s] w fun e w' => e = .returned (.func (.func 72) #[] #[.pointer (some ⟨w.heap.size, 0, none⟩)]) ∧ w' = w.alloc (.cells #[.int .u64 (u s.1), .int .u64 (u s.2)] 28) := by
  unfold bv
  go_enter Tryz.func52, Tryz.ntmps52
  go_wp2
  go_ret
  exact ⟨rfl, rfl⟩
theorem placesL_all (s : Bt) : listP (hasB s) 128 = eachL s := by
  unfold listP eachL onesI placesL
  rw [show (128 : Nat) = 64 + 64 from rfl, List.range_add, List.filter_append, List.map_append, List.filter_map, List.map_map]
  have e1 : (List.range 64).filter (hasB s) = (List.range 64).filter fun i => s.1.toNat.testBit i := by
    apply List.filter_congr
    intro i hi
    rw [List.mem_range] at hi
    unfold hasB
    rw [if_pos hi]
  have e2 : (List.range 64).filter (hasB s ∘ fun x => 64 + x) = (List.range 64).filter fun i => s.2.toNat.testBit i := by
    apply List.filter_congr
    intro i _
    simp only [Function.comp]
    unfold hasB
    rw [if_neg (by omega), Nat.add_sub_cancel_left]
  rw [e1, e2]
  congr 1
  apply List.map_congr_left
  intro i _
  simp
end Go.Proofs.YtpebpfaecdmabaaGreatDoor.Bs
/- Each: the iterator's contract, for loop bodies that want to know that a node is one. -/
namespace Go.Proofs.YtpebpfaecdmabaaGreatDoor.Bs
open Go.RowKit
attribute [local go_sem] Oper.semAt_some

set_option maxRecDepth 100000 in
set_option maxHeartbeats 4000000 in
theorem each1_sub (n : Nat) (hn : 1 ≤ n) (l Bs n₀ : Nat) (h0n : 0 < n₀) (s : Bt) (J Jx : List Int → World → Prop)
    (hY : ∀ pre x W, J pre W → pre ++ [x] <+: eachL s → pre.length < 128 → YieldAt Fence.wide (n - 1) Tryz.prog l #[.int .i64 x] W fun e W' =>
      (e = .returned (.bool true) ∧ J (pre ++ [x]) W' ∧ Below n₀ W W') ∨ (e = .returned (.bool false) ∧ Jx (pre ++ [x]) W'))
    (W : World) (hB0 : W.cell? ⟨Bs, 0, none⟩ = some (.int .u64 (u s.1))) (hB1 : W.cell? ⟨Bs, 1, none⟩ = some (.int .u64 (u s.2))) (hT : TabW W) (h0 : J [] W) :
    CallsIn Fence.wide n Tryz.prog 72 #[.func (.yield l) #[] #[], .pointer (some ⟨Bs, 0, none⟩)] W fun e W' => (∃ v, e = .returned v) ∧
      ((∃ ys, ys = eachL s ∧ J ys W') ∨ (∃ pre, pre <+: eachL s ∧ Jx pre W')) := by
  refine callsIn_of_wp Tryz.func72 rfl trivial ?_ rfl
  simp only [Tryz.ntmps72, List.size_toArray, List.length_cons, List.length_nil, Nat.reduceAdd, Nat.reduceSub, Array.replicate_succ, Array.replicate_zero, List.push_toArray, List.append_toArray, List.nil_append, List.cons_append]
  gi_wp2
  gi_loopw [6] (fun i wr => ∃ k : Nat, k ≤ 2 ∧ i = .int .i64 k ∧ J (doneL s k) wr ∧ TabW wr) (fun i _ => (2 - kOf i).toNat)
  case atStart => exact ⟨0, by omega, rfl, h0, hT⟩
  case round =>
    obtain ⟨k, hk, rfl, hJ, hTr⟩ := hrel
    clear hT h0 hB0 hB1
    by_cases h2 : k < 2
    · have hk01 : k = 0 ∨ k = 1 := by omega
      have hlen := fun x => places_len x
      rcases hk01 with rfl | rfl
      · have hidx := fun w => idx0 (u s.1) (u s.2) w
        rw [show (((0 : Nat)) : Int) = 0 from rfl]
        gi_wp2
        gi_loopw [4] (fun v wr => ∃ (y : UInt64) (don : List Int), v = .int .u64 (u y) ∧ don ++ onesI 0 y = onesI 0 s.1 ∧ J don wr ∧ TabW wr) (fun v _ => (kOf v).toNat)
        case atStart => exact ⟨s.1, [], rfl, rfl, hJ, hTr⟩
        case round =>
          clear hJ hTr
          obtain ⟨y, don, rfl, hd, hJ, hTr⟩ := hrel
          by_cases hy : y = 0
          · subst hy
            have hu0 : u 0 = 0 := rfl
            rw [hu0]
            rw [onesI_zero, List.append_nil] at hd
            subst hd
            gi_wp2
            go_roundw
            case rel => exact ⟨1, by omega, rfl, hJ, hTr⟩
            case measure => simp only [kOf]; omega
          · obtain ⟨t, ⟨ht, htb, htl⟩, hc⟩ := Tz_some y hy wr hTr
            have hst := places_step y.toNat t ht htb htl
            obtain ⟨hu1, hu2⟩ := u_clear y hy
            have hone : onesI 0 y = (t : Int) :: onesI 0 (y &&& (y - 1)) := by
              unfold onesI
              rw [hu2, hst, List.map_cons]
              congr 1
              first | done | simp
            rw [hone] at hd
            have hpre : don ++ [(t : Int)] <+: eachL s := by
              unfold eachL
              rw [← hd]
              exact ⟨onesI 0 (y &&& (y - 1)) ++ onesI 1 s.2, by simp⟩
            have hl128 : don.length < 128 := by
              have h1 := hpre.length_le
              have h2 := places_len s.1.toNat
              have h3 := places_len s.2.toNat
              simp [eachL, onesI] at h1 ⊢
              omega
            obtain ⟨fn, tmps, assign, body, hyy, hR⟩ := hY don (t : Int) wr hJ hpre hl128
            have hun : ¬ (u y = 0) := fun h => hy (u_inj (h.trans (show (0 : Int) = u 0 from rfl)))
            have hlt : u (y &&& (y - 1)) < u y := by
              unfold u
              rw [hu2]
              have := Nat.and_le_right (n := y.toNat) (m := y.toNat - 1)
              unfold u at hun
              omega
            have hnn : 0 ≤ u (y &&& (y - 1)) := by unfold u; omega
            have hwr : IntKind.u64.wrap (u (y - 1)) = u (y - 1) := by
              have hlt := UInt64.toNat_lt (y - 1)
              unfold u
              simp only [IntKind.wrap, IntKind.signed, IntKind.bits]
              simp
              omega
            have hand := u_and y (y - 1)
            gi_wp2_with (refine ⟨trivial, ?_⟩; gi_at_call 73; refine (callsIn_wide.2 hc).mono ?_; rintro e w' ⟨rfl, rfl⟩)
            refine hR.mono ?_
            rintro e W3 (⟨rfl, hJ3, hk3⟩ | ⟨rfl, hJx3⟩)
            · gi_wp2
              go_roundw
              case rel => exact ⟨y &&& (y - 1), don ++ [(t : Int)], by first | rfl | (rw [hu1, hand]) | (rw [hand]), by rw [← hd]; simp, hJ3, hTr.kept h0n hk3⟩
              case measure => first | (simp only [kOf]; omega) | (simp only [kOf, hu1, hand]; omega)
            · gi_wp2
              refine bodyPost_ret (results_none rfl _ _ _) rfl ?_
              exact ⟨⟨_, rfl⟩, .inr ⟨don ++ [(t : Int)], hpre, hJx3⟩⟩
      · have hidx := fun w => idx1 (u s.1) (u s.2) w
        rw [show (((1 : Nat)) : Int) = 1 from rfl]
        gi_wp2
        gi_loopw [4] (fun v wr => ∃ (y : UInt64) (don : List Int), v = .int .u64 (u y) ∧ don ++ onesI 1 y = onesI 1 s.2 ∧ J (onesI 0 s.1 ++ don) wr ∧ TabW wr) (fun v _ => (kOf v).toNat)
        case atStart => exact ⟨s.2, [], rfl, rfl, by rw [List.append_nil]; exact hJ, hTr⟩
        case round =>
          clear hJ hTr
          obtain ⟨y, don, rfl, hd, hJ, hTr⟩ := hrel
          by_cases hy : y = 0
          · subst hy
            have hu0 : u 0 = 0 := rfl
            rw [hu0]
            rw [onesI_zero, List.append_nil] at hd
            subst hd
            gi_wp2
            go_roundw
            case rel => exact ⟨2, by omega, rfl, hJ, hTr⟩
            case measure => simp only [kOf]; omega
          · obtain ⟨t, ⟨ht, htb, htl⟩, hc⟩ := Tz_some y hy wr hTr
            have hst := places_step y.toNat t ht htb htl
            obtain ⟨hu1, hu2⟩ := u_clear y hy
            have hone : onesI 1 y = (64 + (t : Int)) :: onesI 1 (y &&& (y - 1)) := by
              unfold onesI
              rw [hu2, hst, List.map_cons]
              congr 1
              first | done | simp
            rw [hone] at hd
            have hpre : (onesI 0 s.1 ++ don) ++ [(64 + (t : Int))] <+: eachL s := by
              unfold eachL
              rw [← hd]
              exact ⟨onesI 1 (y &&& (y - 1)), by simp⟩
            have hl128 : (onesI 0 s.1 ++ don).length < 128 := by
              have h1 := hpre.length_le
              have h2 := places_len s.1.toNat
              have h3 := places_len s.2.toNat
              simp [eachL, onesI] at h1 ⊢
              omega
            obtain ⟨fn, tmps, assign, body, hyy, hR⟩ := hY (onesI 0 s.1 ++ don) (64 + (t : Int)) wr hJ hpre hl128
            have hun : ¬ (u y = 0) := fun h => hy (u_inj (h.trans (show (0 : Int) = u 0 from rfl)))
            have hlt : u (y &&& (y - 1)) < u y := by
              unfold u
              rw [hu2]
              have := Nat.and_le_right (n := y.toNat) (m := y.toNat - 1)
              unfold u at hun
              omega
            have hnn : 0 ≤ u (y &&& (y - 1)) := by unfold u; omega
            have hwr : IntKind.u64.wrap (u (y - 1)) = u (y - 1) := by
              have hlt := UInt64.toNat_lt (y - 1)
              unfold u
              simp only [IntKind.wrap, IntKind.signed, IntKind.bits]
              simp
              omega
            have hand := u_and y (y - 1)
            gi_wp2_with (refine ⟨trivial, ?_⟩; gi_at_call 73; refine (callsIn_wide.2 hc).mono ?_; rintro e w' ⟨rfl, rfl⟩)
            refine hR.mono ?_
            rintro e W3 (⟨rfl, hJ3, hk3⟩ | ⟨rfl, hJx3⟩)
            · gi_wp2
              go_roundw
              case rel => exact ⟨y &&& (y - 1), don ++ [(64 + (t : Int))], by first | rfl | (rw [hu1, hand]) | (rw [hand]), by rw [← hd]; simp, (by rw [← List.append_assoc]; exact hJ3), hTr.kept h0n hk3⟩
              case measure => first | (simp only [kOf]; omega) | (simp only [kOf, hu1, hand]; omega)
            · gi_wp2
              refine bodyPost_ret (results_none rfl _ _ _) rfl ?_
              exact ⟨⟨_, rfl⟩, .inr ⟨(onesI 0 s.1 ++ don) ++ [(64 + (t : Int))], hpre, hJx3⟩⟩
    · obtain rfl : k = 2 := by omega
      gi_wp2
      go_end0
      exact ⟨⟨_, rfl⟩, .inl ⟨_, rfl, hJ⟩⟩

/-- A node's number. -/
abbrev N7 := { x : Int // 0 ≤ x ∧ x < 128 }
theorem eachL_bd (s : Bt) : ∀ x ∈ eachL s, 0 ≤ x ∧ x < 128 := by
  intro x hx
  simp only [eachL, onesI, placesL, List.mem_append, List.mem_map, List.mem_filter, List.mem_range] at hx
  rcases hx with ⟨i, ⟨hi, _⟩, rfl⟩ | ⟨i, ⟨hi, _⟩, rfl⟩ <;> omega
theorem each_stops7 (n : Nat) (hn : 1 ≤ n) (Bs n₀ : Nat) (h0n : 0 < n₀) (s : Bt) (w : World) (hB0 : w.cell? ⟨Bs, 0, none⟩ = some (.int .u64 (u s.1))) (hB1 : w.cell? ⟨Bs, 1, none⟩ = some (.int .u64 (u s.2))) (hT : TabW w) :
    SeqStopsK Fence.wide n Tryz.prog 72 #[.pointer (some ⟨Bs, 0, none⟩)] (fun x : N7 => #[Value.int .i64 x.1]) (Below n₀) (fun ys => ys.map (·.1) = eachL s) (fun pre => pre.map (·.1) <+: eachL s) 128 w := fun l J Jx W hW _ _ hY h0 => by
  refine (each1_sub n hn l Bs n₀ h0n s (fun L W => ∃ L' : List N7, L'.map (·.1) = L ∧ J L' W) (fun L W => ∃ L' : List N7, L'.map (·.1) = L ∧ Jx L' W) ?_ W ((hW.cell (World.block_lt_of_cell? _ _ hB0)).trans hB0) ((hW.cell (World.block_lt_of_cell? _ _ hB1)).trans hB1) (hT.below hW) ⟨[], rfl, h0⟩).mono ?_
  · rintro pre x W1 ⟨L', rfl, hJ⟩ hp hl
    have hx : 0 ≤ x ∧ x < 128 := eachL_bd s x (hp.subset (by simp))
    refine (hY L' ⟨x, hx⟩ W1 hJ (by simpa using hl)).mono ?_
    rintro e W' (⟨rfl, h1, h2⟩ | ⟨rfl, h1⟩)
    · exact .inl ⟨rfl, ⟨_, by simp, h1⟩, h2⟩
    · exact .inr ⟨rfl, ⟨_, by simp, h1⟩⟩
  · rintro e W' ⟨h1, ⟨ys, rfl, L', h2, h3⟩ | ⟨pre, hp, L', rfl, h3⟩⟩
    · exact ⟨h1, .inl ⟨L', h2, h3⟩⟩
    · exact ⟨h1, .inr ⟨L', hp, h3⟩⟩
end Go.Proofs.YtpebpfaecdmabaaGreatDoor.Bs
/- awake's graph: what hops.fill calls, at its arguments. -/
namespace Go.Proofs.YtpebpfaecdmabaaGreatDoor
open Go.RowKit

theorem set50 {w : World} {T M g : Nat} (h : It.Tab w T M g [(0, 0)]) : Calls Tryz.prog 53 #[.pointer (some ⟨T, 0, none⟩), .int .i64 0] w fun e w' => e = .returned (.tuple #[.agg #[.int .u64 0, .int .u64 0], .int .i64 0]) ∧ Below w.heap.size w w' :=
  It.Set_in T M g 0 [(0, 0)] w h (by decide)
theorem of36 {w : World} {a : Option Addr} {cap : Nat} (h : SlR w 1 (.slice a 1 cap) 1 (ints [2])) : Calls Tryz.prog 41 #[.slice a 1 cap] w fun e w' => e = .returned (.tuple #[.agg #[.int .u64 4, .int .u64 0], .int .i64 0]) ∧ Below w.heap.size w w' := by
  refine (Bs.of_one_row 2 a cap w h).mono ?_
  rintro e w' ⟨rfl, h⟩
  rw [show Bs.withR (0, 0) 2 = ((4, 0), 0) by decide +kernel]
  exact ⟨rfl, h⟩
theorem or25 (w : World) : Calls Tryz.prog 32 #[.agg #[.int .u64 0, .int .u64 0], .agg #[.int .u64 4, .int .u64 0]] w fun e w' => e = .returned (.agg #[.int .u64 4, .int .u64 0]) ∧ Below w.heap.size w w' :=
  Bs.Or_any (0, 0) (4, 0) w
theorem id51 {w : World} {T M g : Nat} (h : It.Tab w T M g [(0, 0)]) : Calls Tryz.prog 54 #[.pointer (some ⟨T, 0, none⟩), .agg #[.int .u64 4, .int .u64 0]] w fun e w' => e = .returned (.tuple #[.int .i64 1, .int .i64 0]) ∧ Keep (fun k => k = T ∨ k = M ∨ k = g) w w' := by
  refine (It.ID_any (4, 0) T M g [(0, 0)] w h).mono ?_
  rintro e w' ⟨rfl, g', h1, h2, h3⟩
  rw [show It.idRes (4, 0) [(0, 0)] = (1, 0, [(0, 0), (4, 0)]) by decide +kernel]
  exact ⟨rfl, h2⟩
theorem each49 (w : World) : Calls Tryz.prog 52 #[.agg #[.int .u64 2, .int .u64 0]] w fun e w' => e = .returned (.func (.func 72) #[] #[.pointer (some ⟨w.heap.size, 0, none⟩)]) ∧ w' = w.alloc (.cells #[.int .u64 2, .int .u64 0] 28) :=
  Bs.Each_any (2, 0) w
/-- The number 1. -/
abbrev N1 := { x : Int // x = 1 }
theorem each_two : Bs.eachL ((2, 0) : Bt) = [1] := by decide +kernel
theorem each_stops1 (n : Nat) (hn : 1 ≤ n) (Bx n₀ : Nat) (h0n : 0 < n₀) (w : World) (hB0 : w.cell? ⟨Bx, 0, none⟩ = some (.int .u64 2)) (hB1 : w.cell? ⟨Bx, 1, none⟩ = some (.int .u64 0)) (hT : Bs.TabW w) :
    SeqStopsK Fence.wide n Tryz.prog 72 #[.pointer (some ⟨Bx, 0, none⟩)] (fun x : N1 => #[Value.int .i64 x.1]) (Below n₀) (fun ys => ys.length = 1) (fun pre => pre.length ≤ 1) 1 w := fun l J Jx W hW _ _ hY h0 => by
  refine (Bs.each1_sub n hn l Bx n₀ h0n (2, 0) (fun L W => ∃ L' : List N1, L'.map (·.1) = L ∧ J L' W) (fun L W => ∃ L' : List N1, L'.map (·.1) = L ∧ Jx L' W) ?_ W ((hW.cell (World.block_lt_of_cell? _ _ hB0)).trans hB0) ((hW.cell (World.block_lt_of_cell? _ _ hB1)).trans hB1) (hT.below hW) ⟨[], rfl, h0⟩).mono ?_
  · rintro pre x W1 ⟨L', rfl, hJ⟩ hp hl
    rw [each_two] at hp
    have hpl := hp.length_le
    simp at hpl
    subst hpl
    have hx : x = 1 := by simpa using hp
    refine (hY [] ⟨x, hx⟩ W1 hJ (by simp)).mono ?_
    rintro e W' (⟨rfl, h1, h2⟩ | ⟨rfl, h1⟩)
    · exact .inl ⟨rfl, ⟨_, by simp, h1⟩, h2⟩
    · exact .inr ⟨rfl, ⟨_, by simp, h1⟩⟩
  · rw [each_two]
    rintro e W' ⟨h1, ⟨ys, rfl, L', h2, h3⟩ | ⟨pre, hp, L', rfl, h3⟩⟩
    · exact ⟨h1, .inl ⟨L', by simpa using congrArg List.length h2, h3⟩⟩
    · exact ⟨h1, .inr ⟨L', by simpa using hp.length_le, h3⟩⟩
/-- A box of cells, as an invariant of a loop over a function. -/
theorem obj_own {β : Type} (K : Nat) (f : β → Array Value) (t : TypeId) : Own (fun s W => W.heap[K]? = some (.cells (f s) t (0, 0))) := fun s X Y row hs hg hrow => by
  have hlt := (Array.getElem?_eq_some_iff.1 hs).1
  refine (hg.block K hlt (fun e' => ?_)).trans hs
  obtain ⟨o, ho, hc⟩ := hrow K e'.symm
  rw [hs] at ho; cases ho; cases hc
end Go.Proofs.YtpebpfaecdmabaaGreatDoor
