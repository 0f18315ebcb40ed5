/- The heap: the plain law of its order. -/
import Derived.Test.YtpapknmkiampgaaG
namespace Go.Proofs.Ytpapknmkiampgaa

theorem be_irrefl (a : En) : be a a = false := by simp [be]
theorem be_iff (a b : En) : be a b = true ↔ a.1 < b.1 ∨ (a.1 = b.1 ∧ a.2 < b.2) := by simp [be]
theorem be_false (a b : En) : be a b = false ↔ b.1 < a.1 ∨ (a.1 = b.1 ∧ b.2 ≤ a.2) := by
  rw [← Bool.not_eq_true, be_iff]
  omega
theorem be_trans {a b c : En} (h : be a b = true) (k : be b c = true) : be a c = true := by
  rw [be_iff] at *
  omega
theorem be_le_trans {a b c : En} (h : be b a = false) (k : be c b = false) : be c a = false := by
  rw [be_false] at *
  omega
theorem be_le_lt {a b c : En} (h : be a b = true) (k : be c b = false) : be c a = false := by
  rw [be_iff] at h
  rw [be_false] at *
  omega
theorem be_asymm {a b : En} (h : be a b = true) : be b a = false := by
  rw [be_iff] at h
  rw [be_false]
  omega
theorem be_total {a b : En} (h : be a b = false) (hne : a.2 ≠ b.2) : be b a = true := by
  rw [be_false] at h
  rw [be_iff]
  omega

/-- The places tell where each node stands. -/
structure Coh (s : HS) : Prop where
  at_ : ∀ (i : Nat) (a : En), s.1[i]? = some a → s.2 a.2 = i + 1
  ex : ∀ n, s.2 n ≠ 0 → ∃ (i : Nat) (a : En), s.1[i]? = some a ∧ a.2 = n

theorem Coh.inj {s : HS} (h : Coh s) {i j : Nat} {a b : En} (hi : s.1[i]? = some a) (hj : s.1[j]? = some b) (e : a.2 = b.2) : i = j := by
  have h1 := h.at_ i a hi
  have h2 := h.at_ j b hj
  rw [e, h2] at h1
  omega

theorem sw_at {es : List En} {i j : Nat} {a b : En} (hi : es[i]? = some a) (hj : es[j]? = some b) (k : Nat) :
    ((es.set i b).set j a)[k]? = if k = j then some a else if k = i then some b else es[k]? := by
  have hil := (List.getElem?_eq_some_iff.1 hi).1
  have hjl := (List.getElem?_eq_some_iff.1 hj).1
  by_cases h1 : k = j
  · subst h1
    rw [if_pos rfl, List.getElem?_set_self (by simpa using hjl)]
  · rw [if_neg h1, List.getElem?_set_ne (fun e => h1 e.symm)]
    by_cases h2 : k = i
    · subst h2
      rw [if_pos rfl, List.getElem?_set_self hil]
    · rw [if_neg h2, List.getElem?_set_ne (fun e => h2 e.symm)]

theorem Coh.sw {s : HS} (h : Coh s) {i j : Nat} {a b : En} (hi : s.1[i]? = some a) (hj : s.1[j]? = some b) : Coh (swS s i j a b) := by
  have hs : ∀ k, (swS s i j a b).1[k]? = if k = j then some a else if k = i then some b else s.1[k]? := sw_at hi hj
  have hp : ∀ n, (swS s i j a b).2 n = if n = a.2 then j + 1 else if n = b.2 then i + 1 else s.2 n := by
    intro n
    simp [swS, upd]
  constructor
  · intro k c hk
    rw [hs] at hk
    rw [hp]
    by_cases h1 : k = j
    · rw [if_pos h1] at hk
      injection hk with hk
      subst hk h1
      simp
    · rw [if_neg h1] at hk
      by_cases h2 : k = i
      · rw [if_pos h2] at hk
        injection hk with hk
        subst hk h2
        by_cases e : b.2 = a.2
        · have := h.inj hj hi e
          omega
        · simp [e]
      · rw [if_neg h2] at hk
        have e1 : c.2 ≠ a.2 := fun e => h2 (h.inj hk hi e)
        have e2 : c.2 ≠ b.2 := fun e => h1 (h.inj hk hj e)
        simp only [e1, e2, if_false]
        exact h.at_ k c hk
  · intro n hn
    rw [hp] at hn
    by_cases e1 : n = a.2
    · exact ⟨j, a, by rw [hs, if_pos rfl], e1.symm⟩
    · rw [if_neg e1] at hn
      by_cases e2 : n = b.2
      · by_cases hij : i = j
        · subst hij
          rw [hi] at hj
          injection hj with hj
          subst hj
          exact absurd e2 e1
        · exact ⟨i, b, by rw [hs, if_neg hij, if_pos rfl], e2.symm⟩
      · rw [if_neg e2] at hn
        obtain ⟨k, c, hk, hc⟩ := h.ex n hn
        have h1 : k ≠ j := fun e => by subst e; rw [hj] at hk; injection hk with hk; subst hk; exact e2 hc.symm
        have h2 : k ≠ i := fun e => by subst e; rw [hi] at hk; injection hk with hk; subst hk; exact e1 hc.symm
        exact ⟨k, c, by rw [hs, if_neg h1, if_neg h2]; exact hk, hc⟩

theorem set_set_perm {es : List En} {i j : Nat} {a b : En} (hi : es[i]? = some a) (hj : es[j]? = some b) : ((es.set i b).set j a).Perm es := by
  have hil := (List.getElem?_eq_some_iff.1 hi).1
  have hjl := (List.getElem?_eq_some_iff.1 hj).1
  have ea : es[i] = a := (List.getElem?_eq_some_iff.1 hi).2
  have eb : es[j] = b := (List.getElem?_eq_some_iff.1 hj).2
  have := List.set_set_perm hil hjl
  rw [ea, eb] at this
  exact this
theorem sw_perm {s : HS} {i j : Nat} {a b : En} (hi : s.1[i]? = some a) (hj : s.1[j]? = some b) : (swS s i j a b).1.Perm s.1 := set_set_perm hi hj

/-- The heap's order. -/
def Hp (es : List En) : Prop := ∀ i a p, 0 < i → es[i]? = some a → es[(i - 1) / 2]? = some p → be a p = false
/-- The same, but at i towards its parent. -/
def HpUp (es : List En) (i : Nat) : Prop :=
  (∀ j a p, 0 < j → j ≠ i → es[j]? = some a → es[(j - 1) / 2]? = some p → be a p = false) ∧
  (∀ j c g, 0 < i → (j - 1) / 2 = i → 0 < j → es[j]? = some c → es[(i - 1) / 2]? = some g → be c g = false)
/-- The same, but at i towards its children. -/
def HpDown (es : List En) (i : Nat) : Prop :=
  (∀ j a p, 0 < j → (j - 1) / 2 ≠ i → es[j]? = some a → es[(j - 1) / 2]? = some p → be a p = false) ∧
  (∀ j c g, 0 < i → (j - 1) / 2 = i → 0 < j → es[j]? = some c → es[(i - 1) / 2]? = some g → be c g = false)

theorem up_ok (i : Nat) : ∀ (s : HS), i < s.1.length → Coh s → HpUp s.1 i → Hp (upS s i).1 ∧ Coh (upS s i) ∧ (upS s i).1.Perm s.1 := by
  induction i using Nat.strongRecOn with
  | _ i ih =>
    intro s hi hc hp
    obtain ⟨a, ha⟩ : ∃ a, s.1[i]? = some a := ⟨_, List.getElem?_eq_getElem hi⟩
    obtain ⟨b, hb⟩ : ∃ b, s.1[(i - 1) / 2]? = some b := ⟨_, List.getElem?_eq_getElem (by omega)⟩
    by_cases h : 0 < i ∧ be a b = true
    · rw [upS_yes s i a b ha hb h.1 h.2]
      have hs := sw_at ha hb
      have := ih ((i - 1) / 2) (by omega) (swS s i ((i - 1) / 2) a b) (by rw [swS_len]; omega) (hc.sw ha hb) ?_
      · exact ⟨this.1, this.2.1, this.2.2.trans (sw_perm ha hb)⟩
      · constructor
        · intro j x p hj hne hx hpp
          rw [show (swS s i ((i - 1) / 2) a b).1 = (s.1.set i b).set ((i - 1) / 2) a from rfl, hs] at hx hpp
          rw [if_neg hne] at hx
          by_cases hji : j = i
          · subst hji
            rw [if_pos rfl] at hx hpp
            injection hx with hx
            injection hpp with hpp
            subst hx hpp
            exact be_asymm h.2
          · rw [if_neg hji] at hx
            by_cases h1 : (j - 1) / 2 = (i - 1) / 2
            · rw [if_pos h1] at hpp
              injection hpp with hpp
              subst hpp
              have := hp.1 j x b hj hji hx (by rw [h1]; exact hb)
              exact be_le_lt h.2 this
            · rw [if_neg h1] at hpp
              by_cases h2 : (j - 1) / 2 = i
              · rw [if_pos h2] at hpp
                injection hpp with hpp
                subst hpp
                exact hp.2 j x b h.1 h2 hj hx hb
              · rw [if_neg h2] at hpp
                exact hp.1 j x p hj hji hx hpp
        · intro j c g hi0 hji hj hx hg
          rw [show (swS s i ((i - 1) / 2) a b).1 = (s.1.set i b).set ((i - 1) / 2) a from rfl, hs] at hx hg
          rw [if_neg (by omega), if_neg (by omega)] at hg
          have hbg := hp.1 ((i - 1) / 2) b g hi0 (by omega) hb hg
          rw [if_neg (by omega)] at hx
          by_cases h1 : j = i
          · rw [if_pos h1] at hx
            injection hx with hx
            subst hx
            exact hbg
          · rw [if_neg h1] at hx
            exact be_le_trans hbg (hp.1 j c b hj h1 hx (by rw [hji]; exact hb))
    · have e : upS s i = s := by
        by_cases h0 : i = 0
        · subst h0; exact upS_zero s
        · have hab : be a b = false := by
            rw [← Bool.not_eq_true]
            exact fun e => h ⟨by omega, e⟩
          exact upS_no s i a b ha hb hab
      rw [e]
      refine ⟨?_, hc, List.Perm.refl _⟩
      intro j x p hj hx hpp
      by_cases hji : j = i
      · subst hji
        rw [ha] at hx
        rw [hb] at hpp
        injection hx with hx
        injection hpp with hpp
        subst hx hpp
        rw [← Bool.not_eq_true]
        exact fun e => h ⟨hj, e⟩
      · exact hp.1 j x p hj hji hx hpp

theorem kid_cases (es : List En) (i : Nat) : kid es i = 2 * i + 1 ∨ kid es i = 2 * i + 2 := by
  unfold kid
  split
  · split
    · exact .inr rfl
    · exact .inl rfl
  · exact .inl rfl
/-- The child that is chosen is the least. -/
theorem kid_least {es : List En} {i j : Nat} {c x : En} (hc : es[kid es i]? = some c) (hj : 0 < j) (hji : (j - 1) / 2 = i) (hx : es[j]? = some x) : be x c = false := by
  have hjc : j = 2 * i + 1 ∨ j = 2 * i + 2 := by omega
  unfold kid at hc
  cases h2 : es[2 * i + 2]? with
  | none =>
    rw [h2] at hc
    simp only at hc
    rcases hjc with rfl | rfl
    · rw [hc] at hx; injection hx with hx; subst hx; exact be_irrefl _
    · rw [h2] at hx; cases hx
  | some b =>
    cases h1 : es[2 * i + 1]? with
    | none =>
      have l2 := (List.getElem?_eq_some_iff.1 h2).1
      have l1 := List.getElem?_eq_none_iff.1 h1
      omega
    | some a =>
      rw [h1, h2] at hc
      simp only at hc
      by_cases hba : be b a = true
      · rw [if_pos hba, h2] at hc
        injection hc with hc
        subst hc
        rcases hjc with rfl | rfl
        · rw [h1] at hx; injection hx with hx; subst hx; exact be_asymm hba
        · rw [h2] at hx; injection hx with hx; subst hx; exact be_irrefl _
      · rw [if_neg hba, h1] at hc
        injection hc with hc
        subst hc
        rcases hjc with rfl | rfl
        · rw [h1] at hx; injection hx with hx; subst hx; exact be_irrefl _
        · rw [h2] at hx; injection hx with hx; subst hx; simpa using hba

theorem down_ok (n : Nat) : ∀ (s : HS) (i : Nat), s.1.length - i = n → i < s.1.length → Coh s → HpDown s.1 i → Hp (downS s i).1 ∧ Coh (downS s i) ∧ (downS s i).1.Perm s.1 := by
  induction n using Nat.strongRecOn with
  | _ n ih =>
    intro s i hn hi hc hp
    obtain ⟨a, ha⟩ : ∃ a, s.1[i]? = some a := ⟨_, List.getElem?_eq_getElem hi⟩
    have hkg := kid_gt s.1 i
    have hkc := kid_cases s.1 i
    cases hk : s.1[kid s.1 i]? with
    | none =>
      rw [downS_end s i hk]
      refine ⟨?_, hc, List.Perm.refl _⟩
      intro j x p hj hx hpp
      by_cases h1 : (j - 1) / 2 = i
      · have l1 := List.getElem?_eq_none_iff.1 hk
        have l2 := (List.getElem?_eq_some_iff.1 hx).1
        have hkk : kid s.1 i = 2 * i + 1 := by
          unfold kid
          rw [List.getElem?_eq_none (by omega : s.1.length ≤ 2 * i + 2)]
        omega
      · exact hp.1 j x p hj h1 hx hpp
    | some c =>
      have hkl := (List.getElem?_eq_some_iff.1 hk).1
      by_cases hca : be c a = true
      · rw [downS_yes s i a c hk ha hca]
        have hs := sw_at ha hk
        have := ih (s.1.length - kid s.1 i) (by omega) (swS s i (kid s.1 i) a c) (kid s.1 i) (by rw [swS_len]) (by rw [swS_len]; exact hkl) (hc.sw ha hk) ?_
        · exact ⟨this.1, this.2.1, this.2.2.trans (sw_perm ha hk)⟩
        · constructor
          · intro j x p hj hne hx hpp
            rw [show (swS s i (kid s.1 i) a c).1 = (s.1.set i c).set (kid s.1 i) a from rfl, hs] at hx hpp
            rw [if_neg hne] at hpp
            by_cases h1 : (j - 1) / 2 = i
            · rw [if_pos h1] at hpp
              injection hpp with hpp
              subst hpp
              by_cases h2 : j = kid s.1 i
              · rw [if_pos h2] at hx
                injection hx with hx
                subst hx
                exact be_asymm hca
              · rw [if_neg h2, if_neg (by omega)] at hx
                exact kid_least hk hj h1 hx
            · rw [if_neg h1] at hpp
              have hjk : j ≠ kid s.1 i := by omega
              rw [if_neg hjk] at hx
              by_cases h3 : j = i
              · subst h3
                rw [if_pos rfl] at hx
                injection hx with hx
                subst hx
                exact hp.2 _ c p hj (by omega) (by omega) hk hpp
              · rw [if_neg h3] at hx
                exact hp.1 j x p hj h1 hx hpp
          · intro j x g hi0 hji hj hx hg
            rw [show (swS s i (kid s.1 i) a c).1 = (s.1.set i c).set (kid s.1 i) a from rfl, hs] at hx hg
            have e1 : (kid s.1 i - 1) / 2 = i := by omega
            rw [e1, if_neg (by omega), if_pos rfl] at hg
            injection hg with hg
            subst hg
            rw [if_neg (by omega), if_neg (by omega)] at hx
            exact hp.1 j x c hj (by omega) hx (by rw [hji]; exact hk)
      · have hcf : be c a = false := by simpa using hca
        rw [downS_no s i a c hk ha hcf]
        refine ⟨?_, hc, List.Perm.refl _⟩
        intro j x p hj hx hpp
        by_cases h1 : (j - 1) / 2 = i
        · rw [h1, ha] at hpp
          injection hpp with hpp
          subst hpp
          exact be_le_trans hcf (kid_least hk hj h1 hx)
        · exact hp.1 j x p hj h1 hx hpp
theorem down_noop (s : HS) (i : Nat) (h : Hp s.1) : downS s i = s := by
  cases hk : s.1[kid s.1 i]? with
  | none => exact downS_end s i hk
  | some c =>
    have hkl := (List.getElem?_eq_some_iff.1 hk).1
    have hkg := kid_gt s.1 i
    have hkc := kid_cases s.1 i
    obtain ⟨a, ha⟩ : ∃ a, s.1[i]? = some a := ⟨_, List.getElem?_eq_getElem (by omega)⟩
    exact downS_no s i a c hk ha (h _ c a (by omega) hk (by rw [show (kid s.1 i - 1) / 2 = i by omega]; exact ha))
end Go.Proofs.Ytpapknmkiampgaa
