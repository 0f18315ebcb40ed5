/- The heap: Lower, Key; answers outside. -/
import Derived.Test.YtpapknmkiampgaaJ
namespace Go.Proofs.Ytpapknmkiampgaa
open Go.RowKit

theorem set_split {es : List En} {i : Nat} {a : En} (h : es[i]? = some a) : ∃ l r, es = l ++ a :: r ∧ l.length = i ∧ ∀ x, es.set i x = l ++ x :: r := by
  have hi := (List.getElem?_eq_some_iff.1 h).1
  refine ⟨es.take i, es.drop (i + 1), ?_, by simp; omega, fun x => ?_⟩
  · have h1 : es[i] = a := (List.getElem?_eq_some_iff.1 h).2
    conv => lhs; rw [← List.take_append_drop i es, List.drop_eq_getElem_cons hi, h1]
  · rw [List.set_eq_take_append_cons_drop, if_pos hi]
/-- The heap s whose entry at i has the key k. -/
def lowS (s : HS) (i n : Nat) (k : Int) : HS := upS (s.1.set i (k, n), s.2) i
theorem Hs.lower {s : HS} {L : List En} (h : Hs s L) {n i : Nat} {a : En} {k : Int} (hi : s.1[i]? = some a) (ha : a.2 = n) (hk : k < a.1) : Hs (lowS s i n k) (ins (k, n) (L.filter fun x => x.2 != n)) := by
  have hil := (List.getElem?_eq_some_iff.1 hi).1
  have hbe : be (k, n) a = true := by simp [be, hk]
  have hat : ∀ j, (s.1.set i (k, n))[j]? = if j = i then some (k, n) else s.1[j]? := by
    intro j
    by_cases e : j = i
    · subst e; simp [hil]
    · rw [if_neg e, List.getElem?_set_ne (fun h => e h.symm)]
  have hc : Coh (s.1.set i (k, n), s.2) := by
    constructor
    · intro j b hb
      have hb' : (s.1.set i (k, n))[j]? = some b := hb
      rw [hat j] at hb'
      split at hb'
      · rename_i e
        subst e
        injection hb' with hb'
        subst hb'
        have := h.coh.at_ j a hi
        rw [ha] at this
        exact this
      · exact h.coh.at_ j b hb'
    · intro m hm
      obtain ⟨j, b, hb, e⟩ := h.coh.ex m hm
      by_cases hj : j = i
      · subst hj
        rw [hi] at hb
        injection hb with hb
        subst hb
        exact ⟨j, (k, n), by show (s.1.set j (k, n))[j]? = _; rw [hat j, if_pos rfl], by rw [← e, ha]⟩
      · exact ⟨j, b, by show (s.1.set i (k, n))[j]? = _; rw [hat j, if_neg hj]; exact hb, e⟩
  have hU : HpUp (s.1.set i (k, n), s.2).1 i := by
    constructor
    · intro j x p hj hne hx hp
      have hx' : (s.1.set i (k, n))[j]? = some x := hx
      have hp' : (s.1.set i (k, n))[(j - 1) / 2]? = some p := hp
      rw [hat j, if_neg hne] at hx'
      rw [hat] at hp'
      split at hp'
      · rename_i e
        injection hp' with hp'
        subst hp'
        exact be_le_lt hbe (h.hp j x a hj hx' (by rw [e]; exact hi))
      · exact h.hp j x p hj hx' hp'
    · intro j c g h0 hji hj hx hg
      have hx' : (s.1.set i (k, n))[j]? = some c := hx
      have hg' : (s.1.set i (k, n))[(i - 1) / 2]? = some g := hg
      rw [hat j, if_neg (by omega)] at hx'
      rw [hat, if_neg (by omega)] at hg'
      exact be_le_trans (h.hp i a g h0 hi hg') (h.hp j c a hj hx' (by rw [hji]; exact hi))
  have hup := up_ok i (s.1.set i (k, n), s.2) (by simpa using hil) hc hU
  obtain ⟨l, r, hes, hl, hset⟩ := set_split hi
  have hoth : ∀ x ∈ l ++ r, (x.2 != n) = true := by
    intro x hx
    have hxne : x.2 ≠ n := by
      intro e
      rcases List.mem_append.1 hx with hx | hx
      · obtain ⟨j, hj⟩ := List.getElem?_of_mem hx
        have hjl := (List.getElem?_eq_some_iff.1 hj).1
        have : s.1[j]? = some x := by rw [hes, List.getElem?_append_left hjl]; exact hj
        have := h.coh.inj this hi (by rw [e, ha])
        omega
      · obtain ⟨j, hj⟩ := List.getElem?_of_mem hx
        have : s.1[i + 1 + j]? = some x := by
          rw [hes, List.getElem?_append_right (by omega), hl, show i + 1 + j - i = j + 1 by omega, List.getElem?_cons_succ]
          exact hj
        have := h.coh.inj this hi (by rw [e, ha])
        omega
    simpa using hxne
  have hf : (L.filter fun x => x.2 != n).Perm (l ++ r) := by
    have h1 := (h.perm.filter fun x => x.2 != n).symm
    rw [hes, List.filter_append, List.filter_cons_of_neg (by simp [ha]), ← List.filter_append, List.filter_eq_self.2 hoth] at h1
    exact h1
  refine ⟨hup.2.1, hup.1, ?_, ins_srt (List.Pairwise.filter _ h.srt) fun y hy => ?_⟩
  · refine hup.2.2.trans (List.Perm.trans ?_ (ins_perm _ _).symm)
    show (s.1.set i (k, n)).Perm _
    rw [hset]
    exact List.perm_middle.trans (List.Perm.cons _ hf.symm)
  · have := (List.mem_filter.1 hy).2
    simpa using this

theorem lower_out (H : Nat) (n k : Int) (w : World) (hn : n < 0 ∨ 127 < n) : Calls Try.prog 19 #[.pointer (some ⟨H, 0, none⟩), .int .i64 n, .int .i64 k] w fun e w' => e = .returned (.int .i64 2) ∧ w = w' := by
  have hf : (decide (0 ≤ n) && decide (n ≤ 127)) = false := by
    rcases hn with hn | hn <;> simp <;> omega
  go_enter Try.func19, Try.ntmps19
  go_wp2_with (go_at_call 35; refine (in_any n _).mono ?_; rintro e w' ⟨rfl, rfl⟩)
  go_ret
  exact ⟨rfl, rfl⟩
theorem key_out (H : Nat) (n : Int) (w : World) (hn : n < 0 ∨ 127 < n) : Calls Try.prog 24 #[.pointer (some ⟨H, 0, none⟩), .int .i64 n] w fun e w' => e = .returned (.tuple #[.int .i64 0, .int .i64 2]) ∧ w = w' := by
  have hf : (decide (0 ≤ n) && decide (n ≤ 127)) = false := by
    rcases hn with hn | hn <;> simp <;> omega
  go_enter Try.func24, Try.ntmps24
  go_wp2_with (go_at_call 35; refine (in_any n _).mono ?_; rintro e w' ⟨rfl, rfl⟩)
  go_ret2
  exact ⟨rfl, rfl⟩
theorem lower_none (H : Nat) (v : Value) (s : HS) (n : Nat) (k : Int) (w : World) (h : HW w H v s.1 s.2) (hn : n < 128) (ht : s.2 n = 0) :
    Calls Try.prog 19 #[.pointer (some ⟨H, 0, none⟩), .int .i64 n, .int .i64 k] w fun e w' => e = .returned (.int .i64 8) ∧ w = w' := by
  have hf0 : decide (0 ≤ (n : Int)) = true := by simp
  have hf : decide ((n : Int) ≤ 127) = true := by simp; omega
  have ha := h.at_ n hn
  rw [ht] at ha
  go_enter Try.func19, Try.ntmps19
  go_wp2_with (go_at_call 35; refine (in_any n _).mono ?_; rintro e w' ⟨rfl, rfl⟩)
  go_ret
  exact ⟨rfl, rfl⟩
theorem key_none (H : Nat) (v : Value) (s : HS) (n : Nat) (w : World) (h : HW w H v s.1 s.2) (hn : n < 128) (ht : s.2 n = 0) :
    Calls Try.prog 24 #[.pointer (some ⟨H, 0, none⟩), .int .i64 n] w fun e w' => e = .returned (.tuple #[.int .i64 0, .int .i64 8]) ∧ w = w' := by
  have hf0 : decide (0 ≤ (n : Int)) = true := by simp
  have hf : decide ((n : Int) ≤ 127) = true := by simp; omega
  have ha := h.at_ n hn
  rw [ht] at ha
  go_enter Try.func24, Try.ntmps24
  go_wp2_with (go_at_call 35; refine (in_any n _).mono ?_; rintro e w' ⟨rfl, rfl⟩)
  go_ret2
  exact ⟨rfl, rfl⟩
set_option maxHeartbeats 1000000 in
theorem key_some (H : Nat) (v : Value) (s : HS) (n i : Nat) (a : En) (w : World) (h : HW w H v s.1 s.2) (hn : n < 128) (ht : s.2 n = i + 1) (hi : s.1[i]? = some a) :
    Calls Try.prog 24 #[.pointer (some ⟨H, 0, none⟩), .int .i64 n] w fun e w' => e = .returned (.tuple #[.int .i64 a.1, .int .i64 0]) ∧ Below w.heap.size w w' := by
  have hf0 : decide (0 ≤ (n : Int)) = true := by simp
  have hf : decide ((n : Int) ≤ 127) = true := by simp; omega
  have ha := h.at_ n hn
  have hl := h.len
  have hil := (List.getElem?_eq_some_iff.1 hi).1
  rw [ht] at ha
  have hz : (((i + 1 : Nat) : Int) == 0) = false := by simp; omega
  have c0 := h.c0
  obtain ⟨G, cap, rfl, hG, hGl, hcap, hcm, hrow⟩ := h.row (by omega)
  obtain ⟨i0, i1, _, _⟩ := hrow i a hi
  unfold maxLen at hcm
  clear hrow hi ht
  go_enter Try.func24, Try.ntmps24
  go_wp2_with (go_at_call 35; refine (in_any n _).mono ?_; rintro e w' ⟨rfl, rfl⟩)
  go_quiet (fail)
  go_wp2
  go_ret2
  exact ⟨rfl, below_drewN (Below.refl _ _) _⟩
set_option maxHeartbeats 1000000 in
theorem lower_cost (H : Nat) (v : Value) (s : HS) (n i : Nat) (a : En) (k : Int) (w : World) (h : HW w H v s.1 s.2) (hn : n < 128) (ht : s.2 n = i + 1) (hi : s.1[i]? = some a) (hk : ¬ k < a.1) :
    Calls Try.prog 19 #[.pointer (some ⟨H, 0, none⟩), .int .i64 n, .int .i64 k] w fun e w' => e = .returned (.int .i64 6) ∧ Below w.heap.size w w' := by
  have hf0 : decide (0 ≤ (n : Int)) = true := by simp
  have hf : decide ((n : Int) ≤ 127) = true := by simp; omega
  have ha := h.at_ n hn
  have hl := h.len
  have hil := (List.getElem?_eq_some_iff.1 hi).1
  rw [ht] at ha
  have hz : (((i + 1 : Nat) : Int) == 0) = false := by simp; omega
  have c0 := h.c0
  obtain ⟨G, cap, rfl, hG, hGl, hcap, hcm, hrow⟩ := h.row (by omega)
  obtain ⟨i0, i1, _, _⟩ := hrow i a hi
  unfold maxLen at hcm
  have hcmp : decide (k < a.1) = false := by simpa using hk --CMP
  clear hrow hi ht hk
  go_enter Try.func19, Try.ntmps19
  go_wp2_with (go_at_call 35; refine (in_any n _).mono ?_; rintro e w' ⟨rfl, rfl⟩)
  go_quiet (fail)
  go_wp2
  go_ret
  exact ⟨rfl, below_drewN (Below.refl _ _) _⟩
theorem set_same {A : Type} : ∀ (l : List A) (j : Nat) (x : A), l[j]? = some x → l.set j x = l
  | [], _, _, h => by simp at h
  | y :: l, 0, x, h => by simp at h; subst h; rfl
  | y :: l, j + 1, x, h => by rw [List.set_cons_succ, set_same l j x (by simpa using h)]
theorem ec_key (es : List En) (i : Nat) (a : En) (k : Int) (hi : es[i]? = some a) : (es.flatMap ec).set (i * 2) (.int .i64 (k, a.2).1) = (es.set i (k, a.2)).flatMap ec := by
  have hl := (List.getElem?_eq_some_iff.1 hi).1
  have h1 := ec_set es (k, a.2) i hl
  rw [set_same _ (i * 2 + 1) _ (by rw [List.getElem?_set_ne (by omega)]; exact (ec_at es i a hi).2)] at h1
  exact h1
theorem HW.setK {w : World} {H G cap : Nat} {es : List En} {po : Nat → Nat} (h : HW w H (.slice (some ⟨G, 0, none⟩) es.length cap) es po) (i : Nat) (a : En) (k : Int) (hi : es[i]? = some a) :
    HW (w.setCell ⟨G, i * 2, none⟩ (.int .i64 (k, a.2).1)) H (.slice (some ⟨G, 0, none⟩) es.length cap) (es.set i (k, a.2)) po := by
  have hap : G ≠ H := by simpa [Value.ownBlock] using h.apart
  have K : Keep (fun k => k = G) w (w.setCell ⟨G, i * 2, none⟩ (.int .i64 (k, a.2).1)) := (Keep.refl (fun k => k = G) w).setCell _ _ (.inl rfl)
  have o1 := (h.own.stored (i * 2) (.int .i64 (k, a.2).1)).1
  rw [ec_key es i a k hi] at o1
  refine ⟨K.cell h.c0 (Ne.symm hap), K.unfrozen h.lt h.f0 (Ne.symm hap), fun n hn => K.cell (h.at_ n hn) (Ne.symm hap), fun n hn => K.unfrozen h.lt (h.fa n hn) (Ne.symm hap), ?_, h.apart, ?_, h.small, ?_⟩
  · rw [List.length_set]; exact o1
  · rw [List.length_set]; exact h.len
  · intro e he
    rcases List.mem_or_eq_of_mem_set he with he | rfl
    · exact h.node e he
    · exact h.node a (List.mem_of_getElem? hi) --NODE
set_option maxHeartbeats 2000000 in
theorem lower_some (H : Nat) (v : Value) (s : HS) (n i : Nat) (a : En) (k : Int) (w : World) (h : HW w H v s.1 s.2) (hn : n < 128) (ht : s.2 n = i + 1) (hi : s.1[i]? = some a) (ha2 : a.2 = n) (hk : k < a.1) :
    Calls Try.prog 19 #[.pointer (some ⟨H, 0, none⟩), .int .i64 n, .int .i64 k] w fun e w' => e = .returned (.int .i64 0) ∧ HW w' H v (lowS s i n k).1 (lowS s i n k).2 ∧ Keep (fun k => k = H ∨ v.ownBlock = some k) w w' := by
  have hf0 : decide (0 ≤ (n : Int)) = true := by simp
  have hf : decide ((n : Int) ≤ 127) = true := by simp; omega
  have ha := h.at_ n hn
  have hl := h.len
  have hil := (List.getElem?_eq_some_iff.1 hi).1
  rw [ht] at ha
  have hz : (((i + 1 : Nat) : Int) == 0) = false := by simp; omega
  have c0 := h.c0
  obtain ⟨G, cap, rfl, hG, hGl, hcap, hcm, hrow⟩ := h.row (by omega)
  obtain ⟨i0, i1, fi0, fi1⟩ := hrow i a hi
  unfold maxLen at hcm
  have hcmp : decide (k < a.1) = true := by simpa using hk --CMP
  have HT := Lib.hid ht
  have HS2 := Lib.hid (fun nq => (h.drewN nq).setK i a k hi)
  clear hrow hi ht hk
  go_enter Try.func19, Try.ntmps19
  go_wp2_with (go_at_call 35; refine (in_any n _).mono ?_; rintro e w' ⟨rfl, rfl⟩)
  go_quiet (fail)
  go_wp2_with fail
  have hS := HS2.out nq
  obtain ⟨W0, hW0⟩ : ∃ W0, W0 = w.drewN nq := ⟨_, rfl⟩
  rw [← hW0] at hS ⊢
  have hW := (show HW W0 H (.slice (some ⟨G, 0, none⟩) s.1.length cap) s.1 s.2 by rw [hW0]; exact h.drewN nq)
  have c0w := hW.c0
  have haw := hW.at_ n hn
  rw [HT.out] at haw
  have i0w : W0.cell? ⟨G, i * 2, none⟩ = some (.int .i64 a.1) := by rw [hW0]; exact i0
  have f0w : W0.frozen? ⟨G, i * 2, none⟩ = false := by rw [hW0]; exact fi0
  have hK0 : Keep (fun k => k = H ∨ (Value.slice (some ⟨G, 0, none⟩) s.1.length cap).ownBlock = some k) w W0 := by rw [hW0]; exact (Keep.refl _ w).drewN nq
  clear hW0 HS2 c0 ha i0 i1 fi0 fi1 hW
  go_region
  obtain ⟨W1, hW1⟩ : ∃ W1, W1 = (W0.setCell ⟨G, i * 2, none⟩ (.int .i64 k)).drew := ⟨_, rfl⟩ --STORE
  rw [← hW1]
  have hS1 : HW W1 H (.slice (some ⟨G, 0, none⟩) s.1.length cap) (s.1.set i (k, n)) s.2 := by rw [hW1, ← ha2]; exact hS.drew
  have hK1 : Keep (fun k => k = H ∨ (Value.slice (some ⟨G, 0, none⟩) s.1.length cap).ownBlock = some k) w W1 := by rw [hW1]; exact (hK0.setCell ⟨G, i * 2, none⟩ _ (.inl (.inr rfl))).drewN 1
  clear hW1 hS hK0 c0w haw i0w f0w
  have hal := hS1.at_ n hn
  rw [HT.out] at hal
  go_wp2_with fail
  have hup := up_any H _ (s.1.set i (k, n), s.2) i W1 (by simpa using hS1) (by simpa using hil)
  refine hup.mono ?_
  rintro e W2 ⟨rfl, hW2, hK2⟩
  have hK3 := hK1.trans hK2
  clear hup hK1 hK2 hS1 hal
  go_wp2
  go_ret
  exact ⟨rfl, hW2, hK3⟩

/-- What Lower answers. -/
def lowE (L : List En) (n : Int) (k : Int) : Int :=
  if n < 0 ∨ 127 < n then 2 else match L.find? fun x => (x.2 : Int) == n with
    | none => 8
    | some a => if k < a.1 then 0 else 6
/-- What Lower leaves. -/
def lowL (L : List En) (n : Int) (k : Int) : List En := if lowE L n k = 0 then ins (k, n.toNat) (L.filter fun x => x.2 != n.toNat) else L
theorem find_none {L : List En} {n : Nat} (h : ∀ a ∈ L, a.2 ≠ n) : (L.find? fun x => (x.2 : Int) == (n : Int)) = none :=
  List.find?_eq_none.2 fun a ha => by have := h a ha; simp; omega
theorem find_some {L : List En} {n : Nat} {a : En} (ha : a ∈ L) (e : a.2 = n) (hu : ∀ b ∈ L, b.2 = n → b = a) : (L.find? fun x => (x.2 : Int) == (n : Int)) = some a := by
  cases hf : L.find? fun x => (x.2 : Int) == (n : Int) with
  | none =>
    have := List.find?_eq_none.1 hf a ha
    simp [e] at this
  | some b =>
    have h1 := List.mem_of_find?_eq_some hf
    have h2 := List.find?_some hf
    rw [hu b h1 (by simp at h2; omega)]
theorem HStep.same {H : Nat} {v : Value} {L : List En} {w w' : World} (h : HB w H v L) (hb : Below w.heap.size w w') : HStep H v L w w' := ⟨v, h.below hb, Keep.of_below hb, .inl rfl⟩
theorem Lower_any (H : Nat) (v : Value) (L : List En) (n k : Int) (w : World) (h : HB w H v L) :
    Calls Try.prog 19 #[.pointer (some ⟨H, 0, none⟩), .int .i64 n, .int .i64 k] w fun e w' => e = .returned (.int .i64 (lowE L n k)) ∧ HStep H v (lowL L n k) w w' := by
  by_cases hn : n < 0 ∨ 127 < n
  · have e : lowE L n k = 2 := by unfold lowE; rw [if_pos hn]
    have e2 : lowL L n k = L := by unfold lowL; rw [e, if_neg (by decide)]
    rw [e, e2]
    refine (lower_out H n k w hn).mono ?_
    rintro e' w' ⟨he, rfl⟩
    exact ⟨he, HStep.same h (Below.refl _ _)⟩
  obtain ⟨m, rfl⟩ := Int.eq_ofNat_of_zero_le (show 0 ≤ n by omega)
  have hm : m < 128 := by omega
  have hnd := h.node
  obtain ⟨s, h1, h2⟩ := h
  by_cases hz : s.2 m = 0
  · have hf : (L.find? fun x => (x.2 : Int) == (m : Int)) = none := find_none fun a ha e => (h2.there m).2 ⟨a, ha, e⟩ hz
    have e : lowE L m k = 8 := by unfold lowE; rw [if_neg hn, hf]
    have e2 : lowL L m k = L := by unfold lowL; rw [e, if_neg (by decide)]
    rw [e, e2]
    refine (lower_none H v s m k w h1 hm hz).mono ?_
    rintro e' w' ⟨he, rfl⟩
    exact ⟨he, HStep.same ⟨s, h1, h2⟩ (Below.refl _ _)⟩
  · obtain ⟨i, a, hi, ha, e, haL⟩ := h2.place hz
    have hf := find_some haL e fun b hb eb => h2.node hb haL (by rw [eb, e])
    by_cases hk : k < a.1
    · have e1 : lowE L m k = 0 := by unfold lowE; rw [if_neg hn, hf]; simp only []; rw [if_pos hk]
      have e2 : lowL L m k = ins (k, m) (L.filter fun x => x.2 != m) := by unfold lowL; rw [e1, if_pos rfl]; rfl
      rw [e1, e2]
      refine (lower_some H v s m i a k w h1 hm hi ha e hk).mono ?_
      rintro e' w' ⟨he, hW, hK⟩
      exact ⟨he, v, ⟨_, hW, h2.lower ha e hk⟩, hK, .inl rfl⟩
    · have e1 : lowE L m k = 6 := by unfold lowE; rw [if_neg hn, hf]; simp only []; rw [if_neg hk]
      have e2 : lowL L m k = L := by unfold lowL; rw [e1, if_neg (by decide)]
      rw [e1, e2]
      refine (lower_cost H v s m i a k w h1 hm hi ha hk).mono ?_
      rintro e' w' ⟨he, hb⟩
      exact ⟨he, HStep.same ⟨s, h1, h2⟩ hb⟩
/-- What Key answers. -/
def keyR (L : List En) (n : Int) : Int × Int :=
  if n < 0 ∨ 127 < n then (0, 2) else match L.find? fun x => (x.2 : Int) == n with
    | none => (0, 8)
    | some a => (a.1, 0)
/-- A key as the heap hands it out. -/
def kv (q : Int × Int) : Value := .int .i64 q.1 --KV
theorem Key_any (H : Nat) (v : Value) (L : List En) (n : Int) (w : World) (h : HB w H v L) :
    Calls Try.prog 24 #[.pointer (some ⟨H, 0, none⟩), .int .i64 n] w fun e w' => e = .returned (.tuple #[kv (keyR L n), .int .i64 (keyR L n).2]) ∧ Below w.heap.size w w' := by
  by_cases hn : n < 0 ∨ 127 < n
  · have e : keyR L n = (0, 2) := by unfold keyR; rw [if_pos hn]
    rw [e]
    refine (key_out H n w hn).mono ?_
    rintro e' w' ⟨he, rfl⟩
    exact ⟨he, Below.refl _ _⟩
  obtain ⟨m, rfl⟩ := Int.eq_ofNat_of_zero_le (show 0 ≤ n by omega)
  have hm : m < 128 := by omega
  obtain ⟨s, h1, h2⟩ := h
  by_cases hz : s.2 m = 0
  · have hf : (L.find? fun x => (x.2 : Int) == (m : Int)) = none := find_none fun a ha e => (h2.there m).2 ⟨a, ha, e⟩ hz
    have e : keyR L m = (0, 8) := by unfold keyR; rw [if_neg hn, hf]
    rw [e]
    refine (key_none H v s m w h1 hm hz).mono ?_
    rintro e' w' ⟨he, rfl⟩
    exact ⟨he, Below.refl _ _⟩
  · obtain ⟨i, a, hi, ha, e, haL⟩ := h2.place hz
    have hf := find_some haL e fun b hb eb => h2.node hb haL (by rw [eb, e])
    have e1 : keyR L m = (a.1, 0) := by unfold keyR; rw [if_neg hn, hf]
    rw [e1]
    exact key_some H v s m i a w h1 hm hi ha
/-- What Push answers, and leaves. -/
def pushE (L : List En) (n : Int) : Int :=
  if n < 0 ∨ 127 < n then 2 else match L.find? fun x => (x.2 : Int) == n with
    | none => 0
    | some _ => 5
def pushL (L : List En) (n : Int) (k : Int) : List En := if pushE L n = 0 then ins (k, n.toNat) L else L
theorem Push_any (H : Nat) (v : Value) (L : List En) (n k : Int) (w : World) (h : HB w H v L) :
    Calls Try.prog 9 #[.pointer (some ⟨H, 0, none⟩), .int .i64 n, .int .i64 k] w fun e w' => e = .returned (.int .i64 (pushE L n)) ∧ HStep H v (pushL L n k) w w' := by
  by_cases hn : n < 0 ∨ 127 < n
  · have e : pushE L n = 2 := by unfold pushE; rw [if_pos hn]
    have e2 : pushL L n k = L := by unfold pushL; rw [e, if_neg (by decide)]
    rw [e, e2]
    refine (push_out _ n k w (.inr ⟨H, rfl⟩) (.inr hn)).mono ?_
    rintro e' w' ⟨he, rfl⟩
    exact ⟨he, HStep.same h (Below.refl _ _)⟩
  obtain ⟨m, rfl⟩ := Int.eq_ofNat_of_zero_le (show 0 ≤ n by omega)
  have hm : m < 128 := by omega
  by_cases hz : ∃ a ∈ L, a.2 = m
  · obtain ⟨a, ha, e⟩ := hz
    have hf := find_some ha e fun b hb eb => h.inj hb ha (by rw [eb, e])
    have e1 : pushE L m = 5 := by unfold pushE; rw [if_neg hn, hf]
    have e2 : pushL L m k = L := by unfold pushL; rw [e1, if_neg (by decide)]
    rw [e1, e2]
    refine (Push_twice H v L m m k w rfl h hm ⟨a, ha, e⟩).mono ?_
    rintro e' w' ⟨he, rfl⟩
    exact ⟨he, HStep.same h (Below.refl _ _)⟩
  · have hz' : ∀ a ∈ L, a.2 ≠ m := fun a ha e => hz ⟨a, ha, e⟩
    have hf := find_none hz'
    have e1 : pushE L m = 0 := by unfold pushE; rw [if_neg hn, hf]
    have e2 : pushL L m k = ins (k, m) L := by unfold pushL; rw [e1, if_pos rfl]; rfl
    rw [e1, e2]
    exact Push_new H v L m m k w rfl h hm hz'
/-- What Drop answers, and leaves. -/
def dropE (L : List En) (n : Int) : Int :=
  if n < 0 ∨ 127 < n then 2 else match L.find? fun x => (x.2 : Int) == n with
    | none => 8
    | some _ => 0
def dropL (L : List En) (n : Int) : List En := if dropE L n = 0 then L.filter fun x => x.2 != n.toNat else L
theorem Drop_any (H : Nat) (v : Value) (L : List En) (n : Int) (w : World) (h : HB w H v L) :
    Calls Try.prog 10 #[.pointer (some ⟨H, 0, none⟩), .int .i64 n] w fun e w' => e = .returned (.int .i64 (dropE L n)) ∧ HStep H v (dropL L n) w w' := by
  by_cases hn : n < 0 ∨ 127 < n
  · have e : dropE L n = 2 := by unfold dropE; rw [if_pos hn]
    have e2 : dropL L n = L := by unfold dropL; rw [e, if_neg (by decide)]
    rw [e, e2]
    refine (drop_out _ n w (.inr ⟨H, rfl⟩) (.inr hn)).mono ?_
    rintro e' w' ⟨he, rfl⟩
    exact ⟨he, HStep.same h (Below.refl _ _)⟩
  obtain ⟨m, rfl⟩ := Int.eq_ofNat_of_zero_le (show 0 ≤ n by omega)
  have hm : m < 128 := by omega
  by_cases hz : ∃ a ∈ L, a.2 = m
  · obtain ⟨a, ha, e⟩ := hz
    have hf := find_some ha e fun b hb eb => h.inj hb ha (by rw [eb, e])
    have e1 : dropE L m = 0 := by unfold dropE; rw [if_neg hn, hf]
    have e2 : dropL L m = L.filter fun x => x.2 != m := by unfold dropL; rw [e1, if_pos rfl]; rfl
    rw [e1, e2]
    exact Drop_some H v L m m w rfl h hm ⟨a, ha, e⟩
  · have hz' : ∀ a ∈ L, a.2 ≠ m := fun a ha e => hz ⟨a, ha, e⟩
    have hf := find_none hz'
    have e1 : dropE L m = 8 := by unfold dropE; rw [if_neg hn, hf]
    have e2 : dropL L m = L := by unfold dropL; rw [e1, if_neg (by decide)]
    rw [e1, e2]
    refine (Drop_none H v L m m w rfl h hm hz').mono ?_
    rintro e' w' ⟨he, rfl⟩
    exact ⟨he, HStep.same h (Below.refl _ _)⟩
/-- What Pop answers, and leaves. -/
def topE (L : List En) : Int × Int × Int := match L with
  | [] => (0, 0, 8)
  | a :: _ => (a.2, a.1, 0)
theorem topR_E (L : List En) : topR L = .tuple #[.int .i64 (topE L).1, kv ((topE L).2.1, (topE L).2.2), .int .i64 (topE L).2.2] := by cases L <;> rfl
theorem Pop_any (H : Nat) (v : Value) (L : List En) (w : World) (h : HB w H v L) :
    Calls Try.prog 12 #[.pointer (some ⟨H, 0, none⟩)] w fun e w' => e = .returned (topR L) ∧ HStep H v L.tail w w' := by
  cases L with
  | nil =>
    refine (Pop_none H v w h).mono ?_
    rintro e' w' ⟨he, hb⟩
    exact ⟨he, HStep.same h hb⟩
  | cons a L => exact Pop_some H v a L w h
end Go.Proofs.Ytpapknmkiampgaa
