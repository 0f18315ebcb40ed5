/- The heap: up and down. -/
import Derived.Test.YtpapknmkiampgaaA
import Derived.WalkMore
import Derived.ScopeJumps
namespace Go.Proofs.Ytpapknmkiampgaa
open Go.RowKit

structure Veil (p : Prop) : Prop where
  out : p
abbrev HS := List En × (Nat → Nat)
def swS (s : HS) (i j : Nat) (a b : En) : HS := ((s.1.set i b).set j a, upd (upd s.2 b.2 (i + 1)) a.2 (j + 1))
theorem swS_len (s : HS) (i j : Nat) (a b : En) : (swS s i j a b).1.length = s.1.length := by simp [swS]
/-- The entry at i rises. -/
def upS (s : HS) (i : Nat) : HS :=
  match s.1[i]?, s.1[(i - 1) / 2]? with
  | some a, some b => if h : 0 < i ∧ be a b = true then upS (swS s i ((i - 1) / 2) a b) ((i - 1) / 2) else s
  | _, _ => s
termination_by i
decreasing_by omega

theorem upS_zero (s : HS) : upS s 0 = s := by
  rw [upS]
  split <;> simp
theorem upS_no (s : HS) (i : Nat) (a b : En) (ha : s.1[i]? = some a) (hb : s.1[(i - 1) / 2]? = some b) (h : be a b = false) : upS s i = s := by
  rw [upS, ha, hb]
  simp [h]
theorem upS_yes (s : HS) (i : Nat) (a b : En) (ha : s.1[i]? = some a) (hb : s.1[(i - 1) / 2]? = some b) (hi : 0 < i) (h : be a b = true) : upS s i = upS (swS s i ((i - 1) / 2) a b) ((i - 1) / 2) := by
  rw [upS, ha, hb]
  simp [h, hi]

theorem before_at (H : Nat) (v : Value) (es : List En) (po : Nat → Nat) (i j : Nat) (a b : En) (x y : Int) (w : World) (hx : x = i) (hy : y = j) (h : HW w H v es po) (hi : es[i]? = some a) (hj : es[j]? = some b) :
    Calls Try.prog 43 #[.pointer (some ⟨H, 0, none⟩), .int .i64 x, .int .i64 y] w fun e w' => e = .returned (.bool (be a b)) ∧ Below w.heap.size w w' := by
  subst hx hy
  exact before_any H v es po i j a b w h hi hj
theorem swap_at (H : Nat) (v : Value) (es : List En) (po : Nat → Nat) (i j : Nat) (a b : En) (x y : Int) (w : World) (hx : x = i) (hy : y = j) (h : HW w H v es po) (hi : es[i]? = some a) (hj : es[j]? = some b) :
    Calls Try.prog 44 #[.pointer (some ⟨H, 0, none⟩), .int .i64 x, .int .i64 y] w fun e w' => e = .returned (.tuple #[]) ∧ HW w' H v (swS (es, po) i j a b).1 (swS (es, po) i j a b).2 ∧ Keep (fun k => k = H ∨ v.ownBlock = some k) w w' := by
  subst hx hy
  exact swap_any H v es po i j a b w h hi hj

/-- A scope whose jumps all go to one label; the first way comes to that label, too. -/
theorem wp_scope_jumps1 {P : Program} {a : Act} {w : World} {Q : Exit → Act → World → Prop} {c rest : Code} (l : Nat) (J : Act → World → Prop) (μ : Act → World → Nat) (hf : findLabel c l = some (Code.skip.seq rest))
    (first : (∀ a w, J a w → rest.wp P (Exit.jump l J Q) a w) → c.wp P (Exit.jump l J Q) a w)
    (pass : ∀ a w, J a w → rest.wp P (Exit.jump l (fun a' w' => J a' w' ∧ μ a' w' < μ a w) Q) a w) : (Code.scope c).wp P Q a w :=
  wp_scope_jumps l J μ hf (first fun a w h => Code.wp_mono (fun e a' w' h' => by cases e <;> first | exact ⟨h'.1, h'.2.1⟩ | exact h') (pass a w h)) fun a w h => wp_seq (wp_skip (pass a w h))

def UpJ (H : Nat) (v : Value) (s : HS) (i : Nat) (w : World) (a' : Act) (w' : World) : Prop :=
  ∃ (m : Nat) (t : HS) (u2 u3 u4 u5 u6 u7 u8 u9 u10 u11 u12 u13 u14 u15 u16 u17 u18 u19 u20 u21 u22 : Value), a' = { tmps := #[.pointer (some ⟨H, 0, none⟩), .int .i64 m, u2, u3, u4, u5, u6, u7, u8, u9, u10, u11, u12, u13, u14, u15, u16, u17, u18, u19, u20, u21, u22], defers := [] } ∧ m < t.1.length ∧ HW w' H v t.1 t.2 ∧ Hid (upS t m = upS s i) ∧ Keep (fun k => k = H ∨ v.ownBlock = some k) w w'

set_option maxHeartbeats 2000000 in
theorem up_any (H : Nat) (v : Value) (s : HS) (i : Nat) (w : World) (h : HW w H v s.1 s.2) (hi : i < s.1.length) :
    Calls Try.prog 36 #[.pointer (some ⟨H, 0, none⟩), .int .i64 i] w fun e w' => e = .returned (.tuple #[]) ∧ HW w' H v (upS s i).1 (upS s i).2 ∧ Keep (fun k => k = H ∨ v.ownBlock = some k) w w' := by
  have hl := h.len
  go_enter Try.func36, Try.ntmps36
  go_wp2
  refine wp_scope_jumps1 0 (UpJ H v s i w) (fun a' _ => (intOf (a'.tmps.getD 1 undef)).toNat) rfl ?_ ?_
  · intro hp
    refine wp_seq (wp_label ?_)
    exact hp _ _ ⟨i, s, undef, undef, undef, undef, undef, undef, undef, undef, undef, undef, undef, undef, undef, undef, undef, undef, undef, undef, undef, undef, undef, rfl, hi, h, Lib.hid rfl, Keep.refl _ _⟩
  · rintro a' w' ⟨m, t, u2, u3, u4, u5, u6, u7, u8, u9, u10, u11, u12, u13, u14, u15, u16, u17, u18, u19, u20, u21, u22, rfl, hm, hW, hU, hK⟩
    by_cases h0 : m = 0
    · subst h0
      go_wp2
      simp only [Exit.jump]
      have e := hU.out
      rw [upS_zero] at e
      go_end0
      rw [← e]
      exact ⟨rfl, hW, hK⟩
    · obtain ⟨a, ha⟩ : ∃ a, Veil (t.1[m]? = some a) := ⟨t.1[m], ⟨List.getElem?_eq_getElem _⟩⟩
      obtain ⟨b, hb⟩ : ∃ b, Veil (t.1[(m - 1) / 2]? = some b) := ⟨t.1[(m - 1) / 2]'(by omega), ⟨List.getElem?_eq_getElem _⟩⟩
      have hl := hW.len
      by_cases hbe : be a b = true
      · go_wp2_with (go_at_call 43; refine (before_at H v t.1 t.2 m ((m - 1) / 2) a b _ _ _ (by omega) (by omega) hW ha.out hb.out).mono ?_; rintro e w1 ⟨rfl, hb1⟩)
        refine (swap_at H v t.1 t.2 m ((m - 1) / 2) a b _ _ _ (by omega) (by omega) (hW.below hb1) ha.out hb.out).mono ?_
        rintro e w2 ⟨rfl, hW2, hK2⟩
        have hU2 : Hid (upS (swS (t.1, t.2) m ((m - 1) / 2) a b) ((m - 1) / 2) = upS s i) := Lib.hid (by rw [← hU.out, upS_yes t m a b ha.out hb.out (by omega) hbe])
        have hlen := swS_len (t.1, t.2) m ((m - 1) / 2) a b
        have hm2 : (m - 1) / 2 < (swS (t.1, t.2) m ((m - 1) / 2) a b).1.length := by rw [hlen]; show _ < t.1.length; omega
        clear hlen
        generalize swS (t.1, t.2) m ((m - 1) / 2) a b = t2 at hW2 hU2 hm2
        have hK3 := hK.trans ((Keep.of_below hb1).trans hK2)
        have hq : ((m : Int) - 1) / 2 = (((m - 1) / 2 : Nat) : Int) := by omega
        go_wp2
        go_step3
        refine ⟨rfl, ⟨(m - 1) / 2, t2, _, _, _, _, _, _, _, _, _, _, _, _, _, _, _, _, _, _, _, _, _, by rw [hq], hm2, hW2, hU2, hK3⟩, ?_⟩
        simp [intOf]
        omega
      · have hbf : be a b = false := by simpa using hbe
        have e := upS_no t m a b ha.out hb.out hbf
        have e2 : upS s i = t := by rw [← hU.out, e]
        have HE := Lib.hid e2
        clear e e2
        go_wp2_with (go_at_call 43; refine (before_at H v t.1 t.2 m ((m - 1) / 2) a b _ _ _ (by omega) (by omega) hW ha.out hb.out).mono ?_; rintro e w1 ⟨rfl, hb1⟩)
        simp only [Exit.jump]
        go_end0
        rw [HE.out]
        exact ⟨rfl, hW.below hb1, hK.trans (Keep.of_below hb1)⟩
end Go.Proofs.Ytpapknmkiampgaa
