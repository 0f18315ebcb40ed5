/- The heap: down. -/
import Derived.Test.YtpapknmkiampgaaB
namespace Go.Proofs.Ytpapknmkiampgaa
open Go.RowKit

/-- The place of the lesser child of i, of two; or of the one. -/
def kid (es : List En) (i : Nat) : Nat :=
  match es[2 * i + 2]?, es[2 * i + 1]? with
  | some b, some a => if be b a = true then 2 * i + 2 else 2 * i + 1
  | _, _ => 2 * i + 1
theorem kid_gt (es : List En) (i : Nat) : i < kid es i := by
  unfold kid
  split
  · split <;> omega
  · omega
/-- The entry at i sinks. -/
def downS (s : HS) (i : Nat) : HS :=
  match _hc : s.1[kid s.1 i]?, s.1[i]? with
  | some c, some a => if be c a = true then downS (swS s i (kid s.1 i) a c) (kid s.1 i) else s
  | _, _ => s
termination_by s.1.length - i
decreasing_by
  have h1 := kid_gt s.1 i
  have h2 := (List.getElem?_eq_some_iff.1 _hc).1
  rw [swS_len]
  omega

theorem downS_end (s : HS) (i : Nat) (h : s.1[kid s.1 i]? = none) : downS s i = s := by
  rw [downS]
  split
  · rename_i h1 _; rw [h] at h1; cases h1
  · rfl
theorem downS_no (s : HS) (i : Nat) (a c : En) (hc : s.1[kid s.1 i]? = some c) (ha : s.1[i]? = some a) (h : be c a = false) : downS s i = s := by
  rw [downS]
  split
  · rename_i h1 h2
    rw [hc] at h1; rw [ha] at h2
    injection h1 with h1; injection h2 with h2
    subst h1 h2
    simp [h]
  · rfl
theorem downS_yes (s : HS) (i : Nat) (a c : En) (hc : s.1[kid s.1 i]? = some c) (ha : s.1[i]? = some a) (h : be c a = true) : downS s i = downS (swS s i (kid s.1 i) a c) (kid s.1 i) := by
  rw [downS]
  split
  · rename_i h1 h2
    rw [hc] at h1; rw [ha] at h2
    injection h1 with h1; injection h2 with h2
    subst h1 h2
    simp [h]
  · rename_i h1
    exact (h1 c a hc ha).elim

def DownJ (H : Nat) (v : Value) (s : HS) (i : Nat) (w : World) (a' : Act) (w' : World) : Prop :=
  ∃ (m : Nat) (t : HS) (u2 u3 u4 u5 u6 u7 u8 u9 u10 u11 u12 u13 u14 u15 u16 u17 u18 u19 u20 u21 u22 u23 u24 u25 u26 u27 u28 u29 u30 u31 u32 u33 u34 u35 u36 u37 u38 u39 u40 : Value), a' = { tmps := #[.pointer (some ⟨H, 0, none⟩), .int .i64 m, u2, u3, u4, u5, u6, u7, u8, u9, u10, u11, u12, u13, u14, u15, u16, u17, u18, u19, u20, u21, u22, u23, u24, u25, u26, u27, u28, u29, u30, u31, u32, u33, u34, u35, u36, u37, u38, u39, u40], defers := [] } ∧ m < t.1.length ∧ t.1.length ≤ 128 ∧ HW w' H v t.1 t.2 ∧ Hid (downS t m = downS s i) ∧ Keep (fun k => k = H ∨ v.ownBlock = some k) w w'

set_option maxHeartbeats 4000000 in
theorem down_any (H : Nat) (v : Value) (s : HS) (i : Nat) (w : World) (h : HW w H v s.1 s.2) (hi : i < s.1.length) :
    Calls Try.prog 45 #[.pointer (some ⟨H, 0, none⟩), .int .i64 i] w fun e w' => e = .returned (.tuple #[]) ∧ HW w' H v (downS s i).1 (downS s i).2 ∧ Keep (fun k => k = H ∨ v.ownBlock = some k) w w' := by
  have hl := h.len
  go_enter Try.func45, Try.ntmps45
  go_wp2
  refine wp_scope_jumps1 0 (DownJ H v s i w) (fun a' _ => 128 - (intOf (a'.tmps.getD 1 undef)).toNat) rfl ?_ ?_
  · intro hp
    refine wp_seq_k (fun K hK => ?_)
    go_wp2
    go_step3
    rename_i hK
    exact hK _ _ (hp _ _ ⟨i, s, undef, undef, .int .i64 0, undef, undef, undef, undef, undef, undef, undef, undef, undef, undef, undef, undef, undef, undef, undef, undef, undef, undef, undef, undef, undef, undef, undef, undef, undef, undef, undef, undef, undef, undef, undef, undef, undef, undef, undef, undef, rfl, hi, hl, h, Lib.hid rfl, Keep.refl _ _⟩)
  · rintro a' w' ⟨m, t, u2, u3, u4, u5, u6, u7, u8, u9, u10, u11, u12, u13, u14, u15, u16, u17, u18, u19, u20, u21, u22, u23, u24, u25, u26, u27, u28, u29, u30, u31, u32, u33, u34, u35, u36, u37, u38, u39, u40, rfl, hm, hl, hW, hU, hK⟩
    have c0 := hW.c0
    obtain ⟨G, cap, rfl, _, _, _, _, _⟩ := hW.row (by omega)
    by_cases h1 : 2 * m + 1 < t.1.length
    · obtain ⟨a, ha⟩ : ∃ a, Veil (t.1[m]? = some a) := ⟨t.1[m], ⟨List.getElem?_eq_getElem _⟩⟩
      obtain ⟨c1, hc1⟩ : ∃ b, Veil (t.1[2 * m + 1]? = some b) := ⟨t.1[2 * m + 1]'(by omega), ⟨List.getElem?_eq_getElem _⟩⟩
      by_cases h2 : 2 * m + 2 < t.1.length
      · obtain ⟨b, hb⟩ : ∃ b, Veil (t.1[2 * m + 2]? = some b) := ⟨t.1[2 * m + 2]'(by omega), ⟨List.getElem?_eq_getElem _⟩⟩
        by_cases hbc : be b c1 = true
        · have hkid : Veil (kid t.1 m = 2 * m + 2) := ⟨by unfold kid; rw [hb.out, hc1.out]; simp [hbc]⟩
          obtain ⟨c, hc⟩ : ∃ c, Veil (t.1[2 * m + 2]? = some c) := ⟨b, hb⟩
          by_cases hbe : be c a = true
          · go_wp2_with fail
            refine (before_at H _ t.1 t.2 (2 * m + 2) (2 * m + 1) b c1 _ _ _ (by omega) (by omega) hW hb.out hc1.out).mono ?_
            rintro e w1 ⟨rfl, hb1⟩
            have hWn := hW.below hb1
            have hKn := hK.trans (Keep.of_below hb1)
            have c1n := hWn.c0
            go_wp2_with fail
            refine (before_at H _ t.1 t.2 (2 * m + 2) m c a _ _ _ (by omega) (by omega) hWn hc.out ha.out).mono ?_
            rintro e w2 ⟨rfl, hb2⟩
            have hW2 := hWn.below hb2
            go_wp2_with fail
            refine (swap_at H _ t.1 t.2 m (2 * m + 2) a c _ _ _ (by omega) (by omega) hW2 ha.out hc.out).mono ?_
            rintro e w3 ⟨rfl, hW3, hK3⟩
            have hU2 : Hid (downS (swS (t.1, t.2) m (2 * m + 2) a c) (2 * m + 2) = downS s i) := Lib.hid (by rw [← hU.out, downS_yes t m a c (by rw [hkid.out]; exact hc.out) ha.out hbe, hkid.out])
            have hlen : (swS (t.1, t.2) m (2 * m + 2) a c).1.length = t.1.length := swS_len (t.1, t.2) m (2 * m + 2) a c
            have hm2 : 2 * m + 2 < (swS (t.1, t.2) m (2 * m + 2) a c).1.length := by omega
            have hl2 : (swS (t.1, t.2) m (2 * m + 2) a c).1.length ≤ 128 := by omega
            clear hlen
            generalize swS (t.1, t.2) m (2 * m + 2) a c = t2 at hW3 hU2 hm2 hl2
            have hK4 := hKn.trans ((Keep.of_below hb2).trans hK3)
            go_wp2
            go_step3
            have hq : ((2 * m + 1 + 1 : Int)) = ((2 * m + 2 : Nat) : Int) := by omega
            refine ⟨rfl, ⟨2 * m + 2, t2, _, _, _, _, _, _, _, _, _, _, _, _, _, _, _, _, _, _, _, _, _, _, _, _, _, _, _, _, _, _, _, _, _, _, _, _, _, _, _, by rw [hq], hm2, hl2, hW3, hU2, hK4⟩, ?_⟩
            simp [intOf]
            omega
          · have hbf : be c a = false := by simpa using hbe
            have e2 : downS s i = t := by rw [← hU.out, downS_no t m a c (by rw [hkid.out]; exact hc.out) ha.out hbf]
            have HE := Lib.hid e2
            clear e2
            go_wp2_with fail
            refine (before_at H _ t.1 t.2 (2 * m + 2) (2 * m + 1) b c1 _ _ _ (by omega) (by omega) hW hb.out hc1.out).mono ?_
            rintro e w1 ⟨rfl, hb1⟩
            have hWn := hW.below hb1
            have hKn := hK.trans (Keep.of_below hb1)
            have c1n := hWn.c0
            go_wp2_with fail
            refine (before_at H _ t.1 t.2 (2 * m + 2) m c a _ _ _ (by omega) (by omega) hWn hc.out ha.out).mono ?_
            rintro e w2 ⟨rfl, hb2⟩
            have hW2 := hWn.below hb2
            go_wp2
            simp only [Exit.jump]
            go_end0
            rw [HE.out]
            exact ⟨rfl, hW2, hKn.trans (Keep.of_below hb2)⟩
        · have hbc' : be b c1 = false := by simpa using hbc
          have hkid : Veil (kid t.1 m = 2 * m + 1) := ⟨by unfold kid; rw [hb.out, hc1.out]; simp [hbc']⟩
          obtain ⟨c, hc⟩ : ∃ c, Veil (t.1[2 * m + 1]? = some c) := ⟨c1, hc1⟩
          by_cases hbe : be c a = true
          · go_wp2_with fail
            refine (before_at H _ t.1 t.2 (2 * m + 2) (2 * m + 1) b c1 _ _ _ (by omega) (by omega) hW hb.out hc1.out).mono ?_
            rintro e w1 ⟨rfl, hb1⟩
            have hWn := hW.below hb1
            have hKn := hK.trans (Keep.of_below hb1)
            have c1n := hWn.c0
            go_wp2_with fail
            refine (before_at H _ t.1 t.2 (2 * m + 1) m c a _ _ _ (by omega) (by omega) hWn hc.out ha.out).mono ?_
            rintro e w2 ⟨rfl, hb2⟩
            have hW2 := hWn.below hb2
            go_wp2_with fail
            refine (swap_at H _ t.1 t.2 m (2 * m + 1) a c _ _ _ (by omega) (by omega) hW2 ha.out hc.out).mono ?_
            rintro e w3 ⟨rfl, hW3, hK3⟩
            have hU2 : Hid (downS (swS (t.1, t.2) m (2 * m + 1) a c) (2 * m + 1) = downS s i) := Lib.hid (by rw [← hU.out, downS_yes t m a c (by rw [hkid.out]; exact hc.out) ha.out hbe, hkid.out])
            have hlen : (swS (t.1, t.2) m (2 * m + 1) a c).1.length = t.1.length := swS_len (t.1, t.2) m (2 * m + 1) a c
            have hm2 : 2 * m + 1 < (swS (t.1, t.2) m (2 * m + 1) a c).1.length := by omega
            have hl2 : (swS (t.1, t.2) m (2 * m + 1) a c).1.length ≤ 128 := by omega
            clear hlen
            generalize swS (t.1, t.2) m (2 * m + 1) a c = t2 at hW3 hU2 hm2 hl2
            have hK4 := hKn.trans ((Keep.of_below hb2).trans hK3)
            go_wp2
            go_step3
            have hq : ((2 * m + 1 : Int)) = ((2 * m + 1 : Nat) : Int) := by omega
            refine ⟨rfl, ⟨2 * m + 1, t2, _, _, _, _, _, _, _, _, _, _, _, _, _, _, _, _, _, _, _, _, _, _, _, _, _, _, _, _, _, _, _, _, _, _, _, _, _, _, _, by rw [hq], hm2, hl2, hW3, hU2, hK4⟩, ?_⟩
            simp [intOf]
            omega
          · have hbf : be c a = false := by simpa using hbe
            have e2 : downS s i = t := by rw [← hU.out, downS_no t m a c (by rw [hkid.out]; exact hc.out) ha.out hbf]
            have HE := Lib.hid e2
            clear e2
            go_wp2_with fail
            refine (before_at H _ t.1 t.2 (2 * m + 2) (2 * m + 1) b c1 _ _ _ (by omega) (by omega) hW hb.out hc1.out).mono ?_
            rintro e w1 ⟨rfl, hb1⟩
            have hWn := hW.below hb1
            have hKn := hK.trans (Keep.of_below hb1)
            have c1n := hWn.c0
            go_wp2_with fail
            refine (before_at H _ t.1 t.2 (2 * m + 1) m c a _ _ _ (by omega) (by omega) hWn hc.out ha.out).mono ?_
            rintro e w2 ⟨rfl, hb2⟩
            have hW2 := hWn.below hb2
            go_wp2
            simp only [Exit.jump]
            go_end0
            rw [HE.out]
            exact ⟨rfl, hW2, hKn.trans (Keep.of_below hb2)⟩
      · have hkid : Veil (kid t.1 m = 2 * m + 1) := ⟨by unfold kid; rw [List.getElem?_eq_none (by omega : t.1.length ≤ 2 * m + 2)]⟩
        obtain ⟨c, hc⟩ : ∃ c, Veil (t.1[2 * m + 1]? = some c) := ⟨c1, hc1⟩
        by_cases hbe : be c a = true
        · have hWn := hW
          have hKn := hK
          go_wp2_with fail
          refine (before_at H _ t.1 t.2 (2 * m + 1) m c a _ _ _ (by omega) (by omega) hWn hc.out ha.out).mono ?_
          rintro e w2 ⟨rfl, hb2⟩
          have hW2 := hWn.below hb2
          go_wp2_with fail
          refine (swap_at H _ t.1 t.2 m (2 * m + 1) a c _ _ _ (by omega) (by omega) hW2 ha.out hc.out).mono ?_
          rintro e w3 ⟨rfl, hW3, hK3⟩
          have hU2 : Hid (downS (swS (t.1, t.2) m (2 * m + 1) a c) (2 * m + 1) = downS s i) := Lib.hid (by rw [← hU.out, downS_yes t m a c (by rw [hkid.out]; exact hc.out) ha.out hbe, hkid.out])
          have hlen : (swS (t.1, t.2) m (2 * m + 1) a c).1.length = t.1.length := swS_len (t.1, t.2) m (2 * m + 1) a c
          have hm2 : 2 * m + 1 < (swS (t.1, t.2) m (2 * m + 1) a c).1.length := by omega
          have hl2 : (swS (t.1, t.2) m (2 * m + 1) a c).1.length ≤ 128 := by omega
          clear hlen
          generalize swS (t.1, t.2) m (2 * m + 1) a c = t2 at hW3 hU2 hm2 hl2
          have hK4 := hKn.trans ((Keep.of_below hb2).trans hK3)
          go_wp2
          go_step3
          have hq : ((2 * m + 1 : Int)) = ((2 * m + 1 : Nat) : Int) := by omega
          refine ⟨rfl, ⟨2 * m + 1, t2, _, _, _, _, _, _, _, _, _, _, _, _, _, _, _, _, _, _, _, _, _, _, _, _, _, _, _, _, _, _, _, _, _, _, _, _, _, _, _, by rw [hq], hm2, hl2, hW3, hU2, hK4⟩, ?_⟩
          simp [intOf]
          omega
        · have hbf : be c a = false := by simpa using hbe
          have e2 : downS s i = t := by rw [← hU.out, downS_no t m a c (by rw [hkid.out]; exact hc.out) ha.out hbf]
          have HE := Lib.hid e2
          clear e2
          have hWn := hW
          have hKn := hK
          go_wp2_with fail
          refine (before_at H _ t.1 t.2 (2 * m + 1) m c a _ _ _ (by omega) (by omega) hWn hc.out ha.out).mono ?_
          rintro e w2 ⟨rfl, hb2⟩
          have hW2 := hWn.below hb2
          go_wp2
          simp only [Exit.jump]
          go_end0
          rw [HE.out]
          exact ⟨rfl, hW2, hKn.trans (Keep.of_below hb2)⟩
    · go_wp2
      simp only [Exit.jump]
      have hkn : t.1[kid t.1 m]? = none := by
        refine List.getElem?_eq_none ?_
        have : 2 * m + 1 ≤ kid t.1 m := by
          unfold kid
          split
          · split <;> omega
          · omega
        omega
      have e2 : downS s i = t := by rw [← hU.out, downS_end t m hkn]
      refine bodyPost_ret (results_none rfl _ _ _) rfl ?_
      rw [e2]
      exact ⟨rfl, hW, hK⟩
end Go.Proofs.Ytpapknmkiampgaa
