/- Each: the iterator's contract, for loop bodies that want to know that a node is one. -/
import Derived.Test.YthhinchifegofaaDoorX2
namespace Go.Proofs.YthhinchifegofaaDoor
open Go.RowKit
attribute [local go_sem] Oper.semAt_some

set_option maxRecDepth 100000 in
set_option maxHeartbeats 4000000 in
theorem each1_sub (n : Nat) (hn : 1 ≤ n) (l Bs n₀ : Nat) (h0n : 0 < n₀) (s : Bt) (J Jx : List Int → World → Prop)
    (hY : ∀ pre x W, J pre W → pre ++ [x] <+: eachL s → pre.length < 128 → YieldAt Fence.wide (n - 1) Tryd.prog l #[.int .i64 x] W fun e W' =>
      (e = .returned (.bool true) ∧ J (pre ++ [x]) W' ∧ Below n₀ W W') ∨ (e = .returned (.bool false) ∧ Jx (pre ++ [x]) W'))
    (W : World) (hB0 : W.cell? ⟨Bs, 0, none⟩ = some (.int .u64 (u s.1))) (hB1 : W.cell? ⟨Bs, 1, none⟩ = some (.int .u64 (u s.2))) (hT : TabW W) (h0 : J [] W) :
    CallsIn Fence.wide n Tryd.prog 23 #[.func (.yield l) #[] #[], .pointer (some ⟨Bs, 0, none⟩)] W fun e W' => (∃ v, e = .returned v) ∧
      ((∃ ys, ys = eachL s ∧ J ys W') ∨ (∃ pre, pre <+: eachL s ∧ Jx pre W')) := by
  refine callsIn_of_wp Tryd.func23 rfl trivial ?_ rfl
  simp only [Tryd.ntmps23, List.size_toArray, List.length_cons, List.length_nil, Nat.reduceAdd, Nat.reduceSub, Array.replicate_succ, Array.replicate_zero, List.push_toArray, List.append_toArray, List.nil_append, List.cons_append]
  gi_wp2
  gi_loopw [6] (fun i wr => ∃ k : Nat, k ≤ 2 ∧ i = .int .i64 k ∧ J (doneL s k) wr ∧ TabW wr) (fun i _ => (2 - kOf i).toNat)
  case atStart => exact ⟨0, by omega, rfl, h0, hT⟩
  case round =>
    obtain ⟨k, hk, rfl, hJ, hTr⟩ := hrel
    clear hT h0 hB0 hB1
    by_cases h2 : k < 2
    · have hk01 : k = 0 ∨ k = 1 := by omega
      have hlen := fun x => places_len x
      rcases hk01 with rfl | rfl
      · have hidx := fun w => idx0 (u s.1) (u s.2) w
        rw [show (((0 : Nat)) : Int) = 0 from rfl]
        gi_wp2
        gi_loopw [4] (fun v wr => ∃ (y : UInt64) (don : List Int), v = .int .u64 (u y) ∧ don ++ onesI 0 y = onesI 0 s.1 ∧ J don wr ∧ TabW wr) (fun v _ => (kOf v).toNat)
        case atStart => exact ⟨s.1, [], rfl, rfl, hJ, hTr⟩
        case round =>
          clear hJ hTr
          obtain ⟨y, don, rfl, hd, hJ, hTr⟩ := hrel
          by_cases hy : y = 0
          · subst hy
            have hu0 : u 0 = 0 := rfl
            rw [hu0]
            rw [onesI_zero, List.append_nil] at hd
            subst hd
            gi_wp2
            go_roundw
            case rel => exact ⟨1, by omega, rfl, hJ, hTr⟩
            case measure => simp only [kOf]; omega
          · obtain ⟨t, ⟨ht, htb, htl⟩, hc⟩ := Tz_some y hy wr hTr
            have hst := places_step y.toNat t ht htb htl
            obtain ⟨hu1, hu2⟩ := u_clear y hy
            have hone : onesI 0 y = (t : Int) :: onesI 0 (y &&& (y - 1)) := by
              unfold onesI
              rw [hu2, hst, List.map_cons]
              congr 1
              first | done | simp
            rw [hone] at hd
            have hpre : don ++ [(t : Int)] <+: eachL s := by
              unfold eachL
              rw [← hd]
              exact ⟨onesI 0 (y &&& (y - 1)) ++ onesI 1 s.2, by simp⟩
            have hl128 : don.length < 128 := by
              have h1 := hpre.length_le
              have h2 := places_len s.1.toNat
              have h3 := places_len s.2.toNat
              simp [eachL, onesI] at h1 ⊢
              omega
            obtain ⟨fn, tmps, assign, body, hyy, hR⟩ := hY don (t : Int) wr hJ hpre hl128
            have hun : ¬ (u y = 0) := fun h => hy (u_inj (h.trans (show (0 : Int) = u 0 from rfl)))
            have hlt : u (y &&& (y - 1)) < u y := by
              unfold u
              rw [hu2]
              have := Nat.and_le_right (n := y.toNat) (m := y.toNat - 1)
              unfold u at hun
              omega
            have hnn : 0 ≤ u (y &&& (y - 1)) := by unfold u; omega
            have hwr : IntKind.u64.wrap (u (y - 1)) = u (y - 1) := by
              have hlt := UInt64.toNat_lt (y - 1)
              unfold u
              simp only [IntKind.wrap, IntKind.signed, IntKind.bits]
              simp
              omega
            have hand := u_and y (y - 1)
            gi_wp2_with (refine ⟨trivial, ?_⟩; gi_at_call 24; refine (callsIn_wide.2 hc).mono ?_; rintro e w' ⟨rfl, rfl⟩)
            refine hR.mono ?_
            rintro e W3 (⟨rfl, hJ3, hk3⟩ | ⟨rfl, hJx3⟩)
            · gi_wp2
              go_roundw
              case rel => exact ⟨y &&& (y - 1), don ++ [(t : Int)], by first | rfl | (rw [hu1, hand]) | (rw [hand]), by rw [← hd]; simp, hJ3, hTr.kept h0n hk3⟩
              case measure => first | (simp only [kOf]; omega) | (simp only [kOf, hu1, hand]; omega)
            · gi_wp2
              refine bodyPost_ret (results_none rfl _ _ _) rfl ?_
              exact ⟨⟨_, rfl⟩, .inr ⟨don ++ [(t : Int)], hpre, hJx3⟩⟩
      · have hidx := fun w => idx1 (u s.1) (u s.2) w
        rw [show (((1 : Nat)) : Int) = 1 from rfl]
        gi_wp2
        gi_loopw [4] (fun v wr => ∃ (y : UInt64) (don : List Int), v = .int .u64 (u y) ∧ don ++ onesI 1 y = onesI 1 s.2 ∧ J (onesI 0 s.1 ++ don) wr ∧ TabW wr) (fun v _ => (kOf v).toNat)
        case atStart => exact ⟨s.2, [], rfl, rfl, by rw [List.append_nil]; exact hJ, hTr⟩
        case round =>
          clear hJ hTr
          obtain ⟨y, don, rfl, hd, hJ, hTr⟩ := hrel
          by_cases hy : y = 0
          · subst hy
            have hu0 : u 0 = 0 := rfl
            rw [hu0]
            rw [onesI_zero, List.append_nil] at hd
            subst hd
            gi_wp2
            go_roundw
            case rel => exact ⟨2, by omega, rfl, hJ, hTr⟩
            case measure => simp only [kOf]; omega
          · obtain ⟨t, ⟨ht, htb, htl⟩, hc⟩ := Tz_some y hy wr hTr
            have hst := places_step y.toNat t ht htb htl
            obtain ⟨hu1, hu2⟩ := u_clear y hy
            have hone : onesI 1 y = (64 + (t : Int)) :: onesI 1 (y &&& (y - 1)) := by
              unfold onesI
              rw [hu2, hst, List.map_cons]
              congr 1
              first | done | simp
            rw [hone] at hd
            have hpre : (onesI 0 s.1 ++ don) ++ [(64 + (t : Int))] <+: eachL s := by
              unfold eachL
              rw [← hd]
              exact ⟨onesI 1 (y &&& (y - 1)), by simp⟩
            have hl128 : (onesI 0 s.1 ++ don).length < 128 := by
              have h1 := hpre.length_le
              have h2 := places_len s.1.toNat
              have h3 := places_len s.2.toNat
              simp [eachL, onesI] at h1 ⊢
              omega
            obtain ⟨fn, tmps, assign, body, hyy, hR⟩ := hY (onesI 0 s.1 ++ don) (64 + (t : Int)) wr hJ hpre hl128
            have hun : ¬ (u y = 0) := fun h => hy (u_inj (h.trans (show (0 : Int) = u 0 from rfl)))
            have hlt : u (y &&& (y - 1)) < u y := by
              unfold u
              rw [hu2]
              have := Nat.and_le_right (n := y.toNat) (m := y.toNat - 1)
              unfold u at hun
              omega
            have hnn : 0 ≤ u (y &&& (y - 1)) := by unfold u; omega
            have hwr : IntKind.u64.wrap (u (y - 1)) = u (y - 1) := by
              have hlt := UInt64.toNat_lt (y - 1)
              unfold u
              simp only [IntKind.wrap, IntKind.signed, IntKind.bits]
              simp
              omega
            have hand := u_and y (y - 1)
            gi_wp2_with (refine ⟨trivial, ?_⟩; gi_at_call 24; refine (callsIn_wide.2 hc).mono ?_; rintro e w' ⟨rfl, rfl⟩)
            refine hR.mono ?_
            rintro e W3 (⟨rfl, hJ3, hk3⟩ | ⟨rfl, hJx3⟩)
            · gi_wp2
              go_roundw
              case rel => exact ⟨y &&& (y - 1), don ++ [(64 + (t : Int))], by first | rfl | (rw [hu1, hand]) | (rw [hand]), by rw [← hd]; simp, (by rw [← List.append_assoc]; exact hJ3), hTr.kept h0n hk3⟩
              case measure => first | (simp only [kOf]; omega) | (simp only [kOf, hu1, hand]; omega)
            · gi_wp2
              refine bodyPost_ret (results_none rfl _ _ _) rfl ?_
              exact ⟨⟨_, rfl⟩, .inr ⟨(onesI 0 s.1 ++ don) ++ [(64 + (t : Int))], hpre, hJx3⟩⟩
    · obtain rfl : k = 2 := by omega
      gi_wp2
      go_end0
      exact ⟨⟨_, rfl⟩, .inl ⟨_, rfl, hJ⟩⟩

/-- A node's number. -/
abbrev N7 := { x : Int // 0 ≤ x ∧ x < 128 }
theorem eachL_bd (s : Bt) : ∀ x ∈ eachL s, 0 ≤ x ∧ x < 128 := by
  intro x hx
  simp only [eachL, onesI, placesL, List.mem_append, List.mem_map, List.mem_filter, List.mem_range] at hx
  rcases hx with ⟨i, ⟨hi, _⟩, rfl⟩ | ⟨i, ⟨hi, _⟩, rfl⟩ <;> omega
theorem each_stops7 (n : Nat) (hn : 1 ≤ n) (Bs n₀ : Nat) (h0n : 0 < n₀) (s : Bt) (w : World) (hB0 : w.cell? ⟨Bs, 0, none⟩ = some (.int .u64 (u s.1))) (hB1 : w.cell? ⟨Bs, 1, none⟩ = some (.int .u64 (u s.2))) (hT : TabW w) :
    SeqStopsK Fence.wide n Tryd.prog 23 #[.pointer (some ⟨Bs, 0, none⟩)] (fun x : N7 => #[Value.int .i64 x.1]) (Below n₀) (fun ys => ys.map (·.1) = eachL s) (fun pre => pre.map (·.1) <+: eachL s) 128 w := fun l J Jx W hW _ _ hY h0 => by
  refine (each1_sub n hn l Bs n₀ h0n s (fun L W => ∃ L' : List N7, L'.map (·.1) = L ∧ J L' W) (fun L W => ∃ L' : List N7, L'.map (·.1) = L ∧ Jx L' W) ?_ W ((hW.cell (World.block_lt_of_cell? _ _ hB0)).trans hB0) ((hW.cell (World.block_lt_of_cell? _ _ hB1)).trans hB1) (hT.below hW) ⟨[], rfl, h0⟩).mono ?_
  · rintro pre x W1 ⟨L', rfl, hJ⟩ hp hl
    have hx : 0 ≤ x ∧ x < 128 := eachL_bd s x (hp.subset (by simp))
    refine (hY L' ⟨x, hx⟩ W1 hJ (by simpa using hl)).mono ?_
    rintro e W' (⟨rfl, h1, h2⟩ | ⟨rfl, h1⟩)
    · exact .inl ⟨rfl, ⟨_, by simp, h1⟩, h2⟩
    · exact .inr ⟨rfl, ⟨_, by simp, h1⟩⟩
  · rintro e W' ⟨h1, ⟨ys, rfl, L', h2, h3⟩ | ⟨pre, hp, L', rfl, h3⟩⟩
    · exact ⟨h1, .inl ⟨L', h2, h3⟩⟩
    · exact ⟨h1, .inr ⟨L', hp, h3⟩⟩
end Go.Proofs.YthhinchifegofaaDoor
