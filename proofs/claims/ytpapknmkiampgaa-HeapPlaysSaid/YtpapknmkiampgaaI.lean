/- The heap: its steps as steps of a sorted list. -/
import Derived.Test.YtpapknmkiampgaaH
namespace Go.Proofs.Ytpapknmkiampgaa

theorem dl_at (es : List En) (k : Nat) : es.dropLast[k]? = if k < es.length - 1 then es[k]? else none := by
  rw [List.dropLast_eq_take, List.getElem?_take]

theorem take_ok {s : HS} {i : Nat} {a b : En} (hc : Coh s) (hp : Hp s.1) (ha : s.1[i]? = some a) (hb : s.1[s.1.length - 1]? = some b) :
    Hp (takeS s i a b).1 ∧ Coh (takeS s i a b) ∧ (a :: (takeS s i a b).1).Perm s.1 := by
  have hil := (List.getElem?_eq_some_iff.1 ha).1
  have hs := sw_at ha hb
  have h1 : (swS s i (s.1.length - 1) a b).1 = (s.1.set i b).set (s.1.length - 1) a := rfl
  have hlen : (swS s i (s.1.length - 1) a b).1.length = s.1.length := swS_len _ _ _ _ _
  have hcs := hc.sw ha hb
  have hps := sw_perm ha hb
  have hla : (swS s i (s.1.length - 1) a b).1[s.1.length - 1]? = some a := by rw [h1, hs, if_pos rfl]
  have hd : ∀ k, (swS s i (s.1.length - 1) a b).1.dropLast[k]? = if k < s.1.length - 1 then (if k = i then some b else s.1[k]?) else none := by
    intro k
    rw [dl_at, hlen]
    by_cases hk : k < s.1.length - 1
    · rw [if_pos hk, if_pos hk, h1, hs, if_neg (by omega)]
    · rw [if_neg hk, if_neg hk]
  have hdc : Coh ((swS s i (s.1.length - 1) a b).1.dropLast, upd (swS s i (s.1.length - 1) a b).2 a.2 0) := by
    constructor
    · intro k c hk
      have hk' : (swS s i (s.1.length - 1) a b).1.dropLast[k]? = some c := hk
      rw [dl_at, hlen] at hk'
      split at hk'
      · rename_i hkl
        have hne : c.2 ≠ a.2 := fun e => by have := hcs.inj hk' hla e; omega
        show upd (swS s i (s.1.length - 1) a b).2 a.2 0 c.2 = k + 1
        simp only [upd, if_neg hne]
        exact hcs.at_ k c hk'
      · cases hk'
    · intro n hn
      have hn' : upd (swS s i (s.1.length - 1) a b).2 a.2 0 n ≠ 0 := hn
      simp only [upd] at hn'
      split at hn'
      · exact absurd rfl hn'
      · rename_i hne
        obtain ⟨k, c, hk, hcn⟩ := hcs.ex n hn'
        have hkl : k ≠ s.1.length - 1 := fun e => by subst e; rw [hla] at hk; injection hk with hk; subst hk; exact hne hcn.symm
        have := (List.getElem?_eq_some_iff.1 hk).1
        refine ⟨k, c, ?_, hcn⟩
        show (swS s i (s.1.length - 1) a b).1.dropLast[k]? = some c
        rw [dl_at, hlen, if_pos (by omega)]
        exact hk
  have hperm : (a :: (swS s i (s.1.length - 1) a b).1.dropLast).Perm s.1 := by
    have hne : (swS s i (s.1.length - 1) a b).1 ≠ [] := by
      intro e
      rw [e] at hlen
      simp at hlen
      omega
    have hlast : (swS s i (s.1.length - 1) a b).1.getLast hne = a := by
      rw [List.getLast_eq_getElem]
      have hla' : (swS s i (s.1.length - 1) a b).1[(swS s i (s.1.length - 1) a b).1.length - 1]? = some a := by rw [hlen]; exact hla
      exact (List.getElem?_eq_some_iff.1 hla').2
    have := List.dropLast_concat_getLast hne
    rw [hlast] at this
    refine (List.perm_append_singleton a _).symm.trans ?_
    rw [this]
    exact hps
  unfold takeS
  by_cases hlt : i < s.1.length - 1
  · rw [if_pos hlt]
    have hdl : (swS s i (s.1.length - 1) a b).1.dropLast.length = s.1.length - 1 := by rw [List.length_dropLast, hlen]
    generalize (swS s i (s.1.length - 1) a b).1.dropLast = d at hd hdc hperm hdl ⊢
    generalize upd (swS s i (s.1.length - 1) a b).2 a.2 0 = po at hdc ⊢
    have h2 : ∀ (j : Nat) (c g : En), 0 < i → (j - 1) / 2 = i → 0 < j → d[j]? = some c → d[(i - 1) / 2]? = some g → be c g = false := by
      intro j c g hi0 hji hj hx hg
      rw [hd] at hx hg
      rw [if_pos (by omega), if_neg (by omega)] at hg
      by_cases hjl : j < s.1.length - 1
      · rw [if_pos hjl, if_neg (by omega)] at hx
        exact be_le_trans (hp i a g hi0 ha hg) (hp j c a hj hx (by rw [hji]; exact ha))
      · rw [if_neg hjl] at hx
        cases hx
    have base : ∀ (j : Nat) (x p : En), 0 < j → j ≠ i → (j - 1) / 2 ≠ i → d[j]? = some x → d[(j - 1) / 2]? = some p → be x p = false := by
      intro j x p hj hji hpi hx hpp
      rw [hd] at hx hpp
      by_cases hjl : j < s.1.length - 1
      · rw [if_pos hjl, if_neg hji] at hx
        rw [if_pos (by omega), if_neg hpi] at hpp
        exact hp j x p hj hx hpp
      · rw [if_neg hjl] at hx
        cases hx
    have hdi : d[i]? = some b := by rw [hd, if_pos hlt, if_pos rfl]
    obtain ⟨g, hg⟩ : ∃ g, d[(i - 1) / 2]? = some g := ⟨_, List.getElem?_eq_getElem (by omega)⟩
    by_cases hup : 0 < i ∧ be b g = true
    · have hU : HpUp (d, po).1 i := by
        constructor
        · intro j x p hj hji hx hpp
          by_cases hpi : (j - 1) / 2 = i
          · have hpp' : d[(j - 1) / 2]? = some p := hpp
            rw [hpi, hdi] at hpp'
            injection hpp' with hpp'
            subst hpp'
            exact be_le_lt hup.2 (h2 j x g hup.1 hpi hj hx hg)
          · exact base j x p hj hji hpi hx hpp
        · exact h2
      have := up_ok i (d, po) (by show i < d.length; omega) hdc hU
      rw [down_noop _ _ this.1]
      exact ⟨this.1, this.2.1, (List.Perm.cons a this.2.2).trans hperm⟩
    · have hup0 : upS (d, po) i = (d, po) := by
        by_cases h0 : i = 0
        · subst h0; exact upS_zero _
        · refine upS_no (d, po) i b g hdi hg ?_
          rw [← Bool.not_eq_true]
          exact fun e => hup ⟨by omega, e⟩
      rw [hup0]
      have hD : HpDown (d, po).1 i := by
        constructor
        · intro j x p hj hpi hx hpp
          by_cases hji : j = i
          · subst hji
            have hx' : d[j]? = some x := hx
            have hpp' : d[(j - 1) / 2]? = some p := hpp
            rw [hdi] at hx'
            rw [hg] at hpp'
            injection hx' with hx'
            injection hpp' with hpp'
            subst hx' hpp'
            rw [← Bool.not_eq_true]
            exact fun e => hup ⟨hj, e⟩
          · exact base j x p hj hji hpi hx hpp
        · exact h2
      have := down_ok _ (d, po) i rfl (by show i < d.length; omega) hdc hD
      exact ⟨this.1, this.2.1, (List.Perm.cons a this.2.2).trans hperm⟩
  · rw [if_neg hlt]
    refine ⟨?_, hdc, hperm⟩
    intro j x p hj hx hpp
    have hx' : (swS s i (s.1.length - 1) a b).1.dropLast[j]? = some x := hx
    have hpp' : (swS s i (s.1.length - 1) a b).1.dropLast[(j - 1) / 2]? = some p := hpp
    rw [hd] at hx' hpp'
    by_cases hjl : j < s.1.length - 1
    · rw [if_pos hjl, if_neg (by omega)] at hx'
      rw [if_pos (by omega), if_neg (by omega)] at hpp'
      exact hp j x p hj hx' hpp'
    · rw [if_neg hjl] at hx'
      cases hx'

theorem push_ok {s : HS} {n : Nat} {k : Int} (hc : Coh s) (hp : Hp s.1) (hn : s.2 n = 0) :
    Hp (upS (s.1 ++ [(k, n)], upd s.2 n (s.1.length + 1)) s.1.length).1 ∧ Coh (upS (s.1 ++ [(k, n)], upd s.2 n (s.1.length + 1)) s.1.length) ∧ (upS (s.1 ++ [(k, n)], upd s.2 n (s.1.length + 1)) s.1.length).1.Perm ((k, n) :: s.1) := by
  have hne : ∀ (i : Nat) (a : En), s.1[i]? = some a → a.2 ≠ n := by
    intro i a ha e
    have := hc.at_ i a ha
    rw [e, hn] at this
    omega
  have hc' : Coh (s.1 ++ [(k, n)], upd s.2 n (s.1.length + 1)) := by
    constructor
    · intro i a ha
      have ha' : (s.1 ++ [(k, n)])[i]? = some a := ha
      show upd s.2 n (s.1.length + 1) a.2 = i + 1
      by_cases hi : i < s.1.length
      · rw [List.getElem?_append_left hi] at ha'
        simp only [upd, if_neg (hne i a ha')]
        exact hc.at_ i a ha'
      · have hl := (List.getElem?_eq_some_iff.1 ha').1
        simp at hl
        have : i = s.1.length := by omega
        subst this
        simp at ha'
        subst ha'
        simp [upd]
    · intro m hm
      have hm' : upd s.2 n (s.1.length + 1) m ≠ 0 := hm
      by_cases e : m = n
      · exact ⟨s.1.length, (k, n), by simp, e.symm⟩
      · simp only [upd, if_neg e] at hm'
        obtain ⟨i, a, ha, he⟩ := hc.ex m hm'
        exact ⟨i, a, by show (s.1 ++ [(k, n)])[i]? = some a; rw [List.getElem?_append_left (List.getElem?_eq_some_iff.1 ha).1]; exact ha, he⟩
  have hU : HpUp (s.1 ++ [(k, n)], upd s.2 n (s.1.length + 1)).1 s.1.length := by
    constructor
    · intro j x p hj hne hx hpp
      have hx' : (s.1 ++ [(k, n)])[j]? = some x := hx
      have hpp' : (s.1 ++ [(k, n)])[(j - 1) / 2]? = some p := hpp
      have hl := (List.getElem?_eq_some_iff.1 hx').1
      simp at hl
      rw [List.getElem?_append_left (by omega)] at hx' hpp'
      exact hp j x p hj hx' hpp'
    · intro j c g _ hji hj hx _
      have hl := (List.getElem?_eq_some_iff.1 hx).1
      simp at hl
      omega
  have := up_ok s.1.length (s.1 ++ [(k, n)], upd s.2 n (s.1.length + 1)) (by simp) hc' hU
  exact ⟨this.1, this.2.1, this.2.2.trans (List.perm_append_singleton _ _)⟩

/-- Rising. -/
def Srt (L : List En) : Prop := L.Pairwise fun a b => be a b = true
/-- The heap s holds the entries of the rising list L. -/
structure Hs (s : HS) (L : List En) : Prop where
  coh : Coh s
  hp : Hp s.1
  perm : s.1.Perm L
  srt : Srt L
theorem Hs.new : Hs ([], fun _ => 0) [] := ⟨⟨fun i a h => by simp at h, fun n h => absurd rfl h⟩, fun i a p _ h => by simp at h, List.Perm.refl _, List.Pairwise.nil⟩

theorem srt_unique : ∀ (L M : List En), Srt L → Srt M → L.Perm M → L = M := by
  intro L
  induction L with
  | nil => intro M _ _ h; exact (List.nil_perm.1 h).symm
  | cons a L ih =>
    intro M hL hM h
    cases M with
    | nil => exact absurd (List.perm_nil.1 h) (by simp)
    | cons b M =>
      have hab : a = b := by
        have h1 : a ∈ b :: M := h.subset (by simp)
        have h2 : b ∈ a :: L := h.symm.subset (by simp)
        rcases List.mem_cons.1 h1 with e | e
        · exact e
        · rcases List.mem_cons.1 h2 with e' | e'
          · exact e'.symm
          · have x := (List.pairwise_cons.1 hM).1 a e
            have y := (List.pairwise_cons.1 hL).1 b e'
            rw [be_asymm x] at y
            cases y
      subst hab
      rw [ih M (List.pairwise_cons.1 hL).2 (List.pairwise_cons.1 hM).2 (List.Perm.cons_inv h)]

theorem root_least {es : List En} (hp : Hp es) {m : En} (hm : es[0]? = some m) : ∀ (i : Nat) (x : En), es[i]? = some x → be x m = false := by
  intro i
  induction i using Nat.strongRecOn with
  | _ i ih =>
    intro x hx
    by_cases h0 : i = 0
    · subst h0
      rw [hm] at hx
      injection hx with hx
      subst hx
      exact be_irrefl _
    · have hl := (List.getElem?_eq_some_iff.1 hx).1
      obtain ⟨p, hpp⟩ : ∃ p, es[(i - 1) / 2]? = some p := ⟨_, List.getElem?_eq_getElem (by omega)⟩
      exact be_le_trans (ih _ (by omega) p hpp) (hp i x p (by omega) hx hpp)

theorem Hs.length {s : HS} {L : List En} (h : Hs s L) : s.1.length = L.length := h.perm.length_eq
theorem Hs.head {s : HS} {a : En} {L : List En} (h : Hs s (a :: L)) : s.1[0]? = some a := by
  have hl := h.length
  obtain ⟨m, hm⟩ : ∃ m, s.1[0]? = some m := ⟨_, List.getElem?_eq_getElem (by simp at hl; omega)⟩
  have h1 : a ∈ s.1 := h.perm.symm.subset (by simp)
  obtain ⟨i, hi⟩ := List.getElem?_of_mem h1
  have h2 := root_least h.hp hm i a hi
  have h3 : m ∈ a :: L := h.perm.subset (List.mem_of_getElem? hm)
  rcases List.mem_cons.1 h3 with e | e
  · rw [hm, e]
  · have := (List.pairwise_cons.1 h.srt).1 m e
    rw [h2] at this
    cases this
theorem Hs.last {s : HS} {L : List En} (h : Hs s L) (hl : 0 < L.length) : ∃ b, s.1[s.1.length - 1]? = some b := ⟨_, List.getElem?_eq_getElem (by have := h.length; omega)⟩
theorem Hs.pop {s : HS} {a b : En} {L : List En} (h : Hs s (a :: L)) (hb : s.1[s.1.length - 1]? = some b) : Hs (takeS s 0 a b) L := by
  have := take_ok h.coh h.hp h.head hb
  exact ⟨this.2.1, this.1, List.Perm.cons_inv (this.2.2.trans h.perm), (List.pairwise_cons.1 h.srt).2⟩
theorem Hs.node {s : HS} {L : List En} (h : Hs s L) {a b : En} (ha : a ∈ L) (hb : b ∈ L) (e : a.2 = b.2) : a = b := by
  obtain ⟨i, hi⟩ := List.getElem?_of_mem (h.perm.symm.subset ha)
  obtain ⟨j, hj⟩ := List.getElem?_of_mem (h.perm.symm.subset hb)
  have := h.coh.inj hi hj e
  subst this
  rw [hi] at hj
  injection hj
theorem Hs.drop {s : HS} {a b : En} {i : Nat} {L : List En} (h : Hs s L) (ha : s.1[i]? = some a) (hb : s.1[s.1.length - 1]? = some b) : Hs (takeS s i a b) (L.filter fun x => x.2 != a.2) := by
  have := take_ok h.coh h.hp ha hb
  refine ⟨this.2.1, this.1, ?_, List.Pairwise.filter _ h.srt⟩
  have h1 := (this.2.2.trans h.perm).filter fun x => x.2 != a.2
  rw [List.filter_cons_of_neg (by simp)] at h1
  rw [List.filter_eq_self.2 ?_] at h1
  · exact h1
  · intro x hx
    obtain ⟨j, hj⟩ := List.getElem?_of_mem hx
    have hxa : x.2 ≠ a.2 := by
      intro e
      have hmem : x ∈ L := h.perm.subset (this.2.2.subset (List.mem_cons_of_mem _ hx))
      have haL : a ∈ L := h.perm.subset (List.mem_of_getElem? ha)
      have hxe := h.node hmem haL e
      subst hxe
      have hnd : s.1.Nodup := by
        refine List.pairwise_iff_getElem.2 fun p q hp hq hpq he => ?_
        have := h.coh.inj (List.getElem?_eq_getElem hp) (List.getElem?_eq_getElem hq) (by rw [he])
        omega
      exact (List.nodup_cons.1 (this.2.2.symm.nodup hnd)).1 hx
    simpa using hxa

/-- x at its place in a rising list. -/
def ins (x : En) : List En → List En
  | [] => [x]
  | y :: l => if be x y = true then x :: y :: l else y :: ins x l
theorem ins_perm (x : En) (l : List En) : (ins x l).Perm (x :: l) := by
  induction l with
  | nil => exact List.Perm.refl _
  | cons y l ih =>
    unfold ins
    split
    · exact List.Perm.refl _
    · exact (List.Perm.cons y ih).trans (List.Perm.swap x y l)
theorem ins_srt {x : En} {l : List En} (h : Srt l) (hx : ∀ y ∈ l, y.2 ≠ x.2) : Srt (ins x l) := by
  induction l with
  | nil => exact List.pairwise_singleton _ _
  | cons y l ih =>
    have hc := List.pairwise_cons.1 h
    unfold ins
    split
    · rename_i hxy
      refine List.pairwise_cons.2 ⟨fun z hz => ?_, h⟩
      rcases List.mem_cons.1 hz with rfl | hz
      · exact hxy
      · exact be_trans hxy (hc.1 z hz)
    · rename_i hxy
      have hyx : be y x = true := be_total (by simpa using hxy) (fun e => hx y (by simp) e.symm)
      refine List.pairwise_cons.2 ⟨fun z hz => ?_, ih hc.2 (fun z hz => hx z (List.mem_cons_of_mem _ hz))⟩
      rcases List.mem_cons.1 ((ins_perm x l).subset hz) with rfl | hz
      · exact hyx
      · exact hc.1 z hz
theorem Hs.push {s : HS} {L : List En} (h : Hs s L) {n : Nat} {k : Int} (hn : s.2 n = 0) : Hs (upS (s.1 ++ [(k, n)], upd s.2 n (s.1.length + 1)) s.1.length) (ins (k, n) L) := by
  have := push_ok (k := k) h.coh h.hp hn
  refine ⟨this.2.1, this.1, (this.2.2.trans (List.Perm.cons _ h.perm)).trans (ins_perm _ _).symm, ins_srt h.srt fun y hy e => ?_⟩
  obtain ⟨i, hi⟩ := List.getElem?_of_mem (h.perm.symm.subset hy)
  have := h.coh.at_ i y hi
  have e' : y.2 = n := e
  rw [e', hn] at this
  omega
theorem Hs.there {s : HS} {L : List En} (h : Hs s L) (n : Nat) : s.2 n ≠ 0 ↔ ∃ a ∈ L, a.2 = n := by
  constructor
  · intro hn
    obtain ⟨i, a, ha, e⟩ := h.coh.ex n hn
    exact ⟨a, h.perm.subset (List.mem_of_getElem? ha), e⟩
  · rintro ⟨a, ha, rfl⟩
    obtain ⟨i, hi⟩ := List.getElem?_of_mem (h.perm.symm.subset ha)
    rw [h.coh.at_ i a hi]
    omega
theorem Hs.place {s : HS} {L : List En} (h : Hs s L) {n : Nat} (hn : s.2 n ≠ 0) : ∃ i a, s.2 n = i + 1 ∧ s.1[i]? = some a ∧ a.2 = n ∧ a ∈ L := by
  obtain ⟨i, a, ha, e⟩ := h.coh.ex n hn
  have := h.coh.at_ i a ha
  rw [e] at this
  exact ⟨i, a, this, ha, e, h.perm.subset (List.mem_of_getElem? ha)⟩
theorem Hs.popAll {s : HS} {L : List En} (h : Hs s L) : popAll L.length s = L.map (·.2) := by
  induction L generalizing s with
  | nil => rfl
  | cons a L ih =>
    obtain ⟨b, hb⟩ := h.last (by simp)
    simp only [List.length_cons, Go.Proofs.Ytpapknmkiampgaa.popAll, h.head, hb, List.map_cons]
    rw [ih (h.pop hb)]
theorem Hs.nodes {s : HS} {L : List En} (h : Hs s L) : nodesOf s = L.map (·.2) := by
  unfold nodesOf
  rw [h.length]
  exact h.popAll
end Go.Proofs.Ytpapknmkiampgaa
