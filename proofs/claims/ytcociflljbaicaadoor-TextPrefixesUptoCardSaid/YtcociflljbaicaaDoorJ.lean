/- The reference's ReadPrefix. -/
import Derived.Test.YtcociflljbaicaaDoorI
namespace Go.Proofs.YtcociflljbaicaaDoor
open Go.RowKit (wrap64)
open Go.Lib Go.Proofs.YtcociflljbaicaaDoor.PTextPrefixes Go.Proofs.YtcociflljbaicaaDoorW.PrintWords Go.Proofs.YtcociflljbaicaaDoorW.PrintMore

theorem not_good {l : List UInt8} (h : ∀ a n, a < 4294967296 → snd a n = true → l = pfxL a n → False) : RP l 0 0 11 := .inr ⟨rfl, rfl, rfl, fun a n h1 h2 h3 => h a n h1 h2 h3⟩
theorem read_four (k : Nat) (hk : 50 ≤ k) (l h0 h1 y0 y1 y2 y3 : List UInt8) (hl : cutA 47 [] l = [h0, h1]) (hy : cutA 46 [] h0 = [y0, y1, y2, y3])
    (q0 q1 q2 q3 q4 : Int) (b0 b1 b2 b3 b4 : Bool)
    (n0 : ∀ j, k ≤ j + 9 → causewayref01_Number.f j (bs y0) = some (q0, b0)) (n1 : ∀ j, k ≤ j + 9 → causewayref01_Number.f j (bs y1) = some (q1, b1)) (n2 : ∀ j, k ≤ j + 9 → causewayref01_Number.f j (bs y2) = some (q2, b2)) (n3 : ∀ j, k ≤ j + 9 → causewayref01_Number.f j (bs y3) = some (q3, b3)) (n4 : ∀ j, k ≤ j + 9 → causewayref01_Number.f j (bs h1) = some (q4, b4))
    (r0 : NumR y0 q0 b0) (r1 : NumR y1 q1 b1) (r2 : NumR y2 q2 b2) (r3 : NumR y3 q3 b3) (r4 : NumR h1 q4 b4) :
    ∃ (a : Nat) (n e : Int), causewayref07_ReadPrefix.l0 k [bs h0, bs h1] [bs y0, bs y1, bs y2, bs y3] 0 0 = some ((a : Int), n, e) ∧ RP l a n e := by
  obtain ⟨k, rfl⟩ : ∃ j, k = j + 5 := ⟨k - 5, by omega⟩
  have good : ∀ a n, a < 4294967296 → snd a n = true → l = pfxL a n → (b0 = true ∧ q0 = ((a / 2 ^ 24 % 256 : Nat) : Int)) ∧ (b1 = true ∧ q1 = ((a / 2 ^ 16 % 256 : Nat) : Int)) ∧ (b2 = true ∧ q2 = ((a / 2 ^ 8 % 256 : Nat) : Int)) ∧ (b3 = true ∧ q3 = ((a / 2 ^ 0 % 256 : Nat) : Int)) ∧ (b4 = true ∧ q4 = n) := by
    intro a n ha hs e
    have e1 := good_halves a n hs
    rw [← e, hl] at e1
    simp only [List.cons.injEq, and_true] at e1
    have e2 := good_bytes a
    rw [← e1.1, hy] at e2
    simp only [List.cons.injEq, and_true] at e2
    obtain ⟨o1, o2, o3, o4⟩ := e2
    have hb := snd_bd hs
    exact ⟨r0.2 _ (by omega) (by omega) o1.symm, r1.2 _ (by omega) (by omega) o2.symm, r2.2 _ (by omega) (by omega) o3.symm, r3.2 _ (by omega) (by omega) o4.symm, r4.2 n (by omega) (by omega) e1.2.symm⟩
  have s0 := rl_step (k + 4) [bs h0, bs h1] [bs y0, bs y1, bs y2, bs y3] 0 0 (by decide) (by decide) rfl q0 b0 (n0 _ (by omega))
  rw [show (((0 : Nat) : Int)) = 0 from rfl] at s0
  rw [s0]
  by_cases c0 : b0 = true ∧ 0 ≤ q0 ∧ q0 ≤ 255
  rotate_left
  · rw [if_neg c0]
    refine ⟨0, 0, 11, rfl, not_good fun a n ha hs e => c0 ?_⟩
    have hg := (good a n ha hs e).1
    exact ⟨hg.1, by omega, by omega⟩
  rw [if_pos c0, rl_step (k + 3) [bs h0, bs h1] [bs y0, bs y1, bs y2, bs y3] (0 * 256 + q0.toNat) 1 (by omega) (by decide) rfl q1 b1 (n1 _ (by omega))]
  by_cases c1 : b1 = true ∧ 0 ≤ q1 ∧ q1 ≤ 255
  rotate_left
  · rw [if_neg c1]
    refine ⟨0, 0, 11, rfl, not_good fun a n ha hs e => c1 ?_⟩
    have hg := (good a n ha hs e).2.1
    exact ⟨hg.1, by omega, by omega⟩
  rw [if_pos c1, rl_step (k + 2) [bs h0, bs h1] [bs y0, bs y1, bs y2, bs y3] ((0 * 256 + q0.toNat) * 256 + q1.toNat) 2 (by omega) (by decide) rfl q2 b2 (n2 _ (by omega))]
  by_cases c2 : b2 = true ∧ 0 ≤ q2 ∧ q2 ≤ 255
  rotate_left
  · rw [if_neg c2]
    refine ⟨0, 0, 11, rfl, not_good fun a n ha hs e => c2 ?_⟩
    have hg := (good a n ha hs e).2.2.1
    exact ⟨hg.1, by omega, by omega⟩
  rw [if_pos c2, rl_step (k + 1) [bs h0, bs h1] [bs y0, bs y1, bs y2, bs y3] (((0 * 256 + q0.toNat) * 256 + q1.toNat) * 256 + q2.toNat) 3 (by omega) (by decide) rfl q3 b3 (n3 _ (by omega))]
  by_cases c3 : b3 = true ∧ 0 ≤ q3 ∧ q3 ≤ 255
  rotate_left
  · rw [if_neg c3]
    refine ⟨0, 0, 11, rfl, not_good fun a n ha hs e => c3 ?_⟩
    have hg := (good a n ha hs e).2.2.2.1
    exact ⟨hg.1, by omega, by omega⟩
  rw [if_pos c3, rl_end k (by omega) (bs h0) (bs h1) _ ((((0 * 256 + q0.toNat) * 256 + q1.toNat) * 256 + q2.toNat) * 256 + q3.toNat) (by omega) q4 b4 (n4 _ (by omega))]
  obtain ⟨A, hA⟩ : ∃ A, A = (((0 * 256 + q0.toNat) * 256 + q1.toNat) * 256 + q2.toNat) * 256 + q3.toNat := ⟨_, rfl⟩
  rw [← hA]
  have hA2 : A < 4294967296 := by omega
  have v0 : ((A / 2 ^ 24 % 256 : Nat) : Int) = q0 := by simp only [Nat.reducePow]; omega
  have v1 : ((A / 2 ^ 16 % 256 : Nat) : Int) = q1 := by simp only [Nat.reducePow]; omega
  have v2 : ((A / 2 ^ 8 % 256 : Nat) : Int) = q2 := by simp only [Nat.reducePow]; omega
  have v3 : ((A / 2 ^ 0 % 256 : Nat) : Int) = q3 := by simp only [Nat.reducePow]; omega
  by_cases c4 : b4 = true ∧ snd A q4 = true
  · rw [if_pos c4]
    refine ⟨A, q4, 0, rfl, .inl ⟨rfl, c4.2, hA2, ?_⟩⟩
    have j1 := cutA_join 47 l []
    have j2 := cutA_join 46 h0 []
    rw [hl] at j1
    rw [hy] at j2
    have t0 := (r0.1 c0.1).1
    have t1 := (r1.1 c1.1).1
    have t2 := (r2.1 c2.1).1
    have t3 := (r3.1 c3.1).1
    have t4 := (r4.1 c4.1).1
    rw [pfxL_eq]
    unfold adrL oct
    rw [v0, v1, v2, v3, t0, t1, t2, t3, t4]
    simp only [joinA, List.nil_append] at j1 j2
    rw [← j1, ← j2]
  · rw [if_neg c4]
    refine ⟨0, 0, 11, rfl, not_good fun a n ha hs e => c4 ?_⟩
    obtain ⟨g0, g1, g2, g3, g4⟩ := good a n ha hs e
    have : A = a := by
      have h0 := g0.2
      have h1 := g1.2
      have h2 := g2.2
      have h3 := g3.2
      simp only [Nat.reducePow] at h0 h1 h2 h3
      omega
    rw [this, g4.2]
    exact ⟨g4.1, hs⟩
theorem refRead_plain (s : ByteArray) : ∃ (k a : Nat) (n e : Int), causewayref07_ReadPrefix.f k s = some ((a : Int), n, e) ∧ RP s.data.toList a n e := by
  by_cases h18 : s.size > 18
  · refine ⟨0, 0, 0, 11, ?_, not_good fun a n ha hs e => ?_⟩
    · unfold causewayref07_ReadPrefix.f
      rw [if_pos (by omega)]
      rfl
    · have h1 := pfx_len a n hs
      rw [← e, ts] at h1
      omega
  have hc := fun (k : Nat) (hk : 20 ≤ k) => lift_k (causewayref07_cut.mono s 47) (cut_plain s 47 (by omega)) k (by omega)
  have hsz := fun x => cutA_len 47 s.data.toList [] x
  have hj := cutA_ne 47 s.data.toList []
  cases hh : cutA 47 [] s.data.toList with
  | nil => exact absurd hh hj
  | cons h0 t =>
    rw [hh] at hc hsz
    have hz0 : (bs h0).size ≤ 18 := by
      have := hsz h0 List.mem_cons_self
      rw [ts] at this
      rw [bs_size]
      simp at this
      omega
    have hc2 := fun (k : Nat) (hk : 20 ≤ k) => lift_k (causewayref07_cut.mono (bs h0) 46) (cut_plain (bs h0) 46 (by omega)) k (by omega)
    have hf : ∀ k, 20 ≤ k → causewayref07_ReadPrefix.f k s = if (((h0 :: t).map bs).length : Int) = 2 then causewayref07_ReadPrefix.j0 k ((h0 :: t).map bs) ((cutA 46 [] h0).map bs) ((((cutA 46 [] h0).map bs).length : Int) != 4) else causewayref07_ReadPrefix.j0 k ((h0 :: t).map bs) ((cutA 46 [] h0).map bs) true := by
      intro k hk
      unfold causewayref07_ReadPrefix.f
      have e1 := hc k hk
      have e2 := hc2 k hk
      rw [if_neg (by omega), e1]
      simp only [Option.bind_some]
      rw [if_pos (by simp)]
      rw [show rdOf ByteArray.empty ((h0 :: t).map bs) 0 = bs h0 from rfl, e2]
      rfl
    have fail : ∀ k, 20 ≤ k → causewayref07_ReadPrefix.j0 k ((h0 :: t).map bs) ((cutA 46 [] h0).map bs) true = some (0, 0, 11) := by
      intro k hk
      obtain ⟨j, rfl⟩ : ∃ j, k = j + 1 := ⟨k - 1, by omega⟩
      rw [causewayref07_ReadPrefix.j0, if_pos rfl]
    by_cases ht : t.length = 1
    rotate_left
    · refine ⟨20, 0, 0, 11, ?_, not_good fun a n ha hs e => ?_⟩
      · rw [hf 20 (Nat.le_refl _), if_neg (by simp; omega), fail 20 (Nat.le_refl _)]
        rfl
      · rw [e, good_halves a n hs] at hh
        injection hh with _ h2
        rw [← h2] at ht
        exact ht rfl
    obtain ⟨h1, rfl⟩ : ∃ h1, t = [h1] := List.length_eq_one_iff.1 ht
    by_cases hy : (cutA 46 [] h0).length = 4
    rotate_left
    · refine ⟨20, 0, 0, 11, ?_, not_good fun a n ha hs e => ?_⟩
      · rw [hf 20 (Nat.le_refl _), if_pos (by simp)]
        rw [show ((((cutA 46 [] h0).map bs).length : Int) != 4) = true by rw [List.length_map]; simp; omega, fail 20 (Nat.le_refl _)]
        rfl
      · rw [e, good_halves a n hs] at hh
        injection hh with h2 _
        rw [← h2, good_bytes] at hy
        exact hy rfl
    obtain ⟨y0, y1, y2, y3, hyy⟩ : ∃ y0 y1 y2 y3, cutA 46 [] h0 = [y0, y1, y2, y3] := by
      cases hc : cutA 46 [] h0 with
      | nil => rw [hc] at hy; simp at hy
      | cons y0 r =>
        rcases r with _ | ⟨y1, _ | ⟨y2, _ | ⟨y3, _ | ⟨y4, r⟩⟩⟩⟩ <;> rw [hc] at hy <;> simp at hy
        exact ⟨y0, y1, y2, y3, rfl⟩
    obtain ⟨k0, q0, b0, n0, r0⟩ := num_get y0
    obtain ⟨k1, q1, b1, n1, r1⟩ := num_get y1
    obtain ⟨k2, q2, b2, n2, r2⟩ := num_get y2
    obtain ⟨k3, q3, b3, n3, r3⟩ := num_get y3
    obtain ⟨k4, q4, b4, n4, r4⟩ := num_get h1
    obtain ⟨a, n, e, hres, hR⟩ := read_four (k0 + k1 + k2 + k3 + k4 + 60) (by omega) s.data.toList h0 h1 y0 y1 y2 y3 hh hyy q0 q1 q2 q3 q4 b0 b1 b2 b3 b4 (fun j hj => n0 j (by omega)) (fun j hj => n1 j (by omega)) (fun j hj => n2 j (by omega)) (fun j hj => n3 j (by omega)) (fun j hj => n4 j (by omega)) r0 r1 r2 r3 r4
    refine ⟨k0 + k1 + k2 + k3 + k4 + 60 + 1, a, n, e, ?_, hR⟩
    rw [hf _ (by omega), if_pos (by simp), hyy]
    rw [show (((([y0, y1, y2, y3].map bs).length : Nat) : Int) != 4) = false from rfl, causewayref07_ReadPrefix.j0, if_neg (by decide)]
    exact hres
open Go.RowKit in
theorem refRead_any (s : ByteArray) (a : Nat) (n e : Int) (hR : RP s.data.toList a n e) (w : World) :
    Calls Tryd.prog 8 #[.string s] w fun e' w' => e' = .returned (.tuple #[pv a n, .int .i64 e]) ∧ Below w.heap.size w w' := by
  obtain ⟨k, a', n', e', h, hR'⟩ := refRead_plain s
  obtain ⟨rfl, rfl, rfl⟩ := RP.unique hR hR'
  exact causewayref07_ReadPrefix.calls k s _ _ _ w h
end Go.Proofs.YtcociflljbaicaaDoor
