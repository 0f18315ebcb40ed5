/- The texts of sets: plain. -/
import Derived.Test.YthhinchifegofaaDoorTA
import Derived.Test.YthhinchifegofaaDoorD
import Derived.Lib.SplitLaws
namespace Go.Proofs.YthhinchifegofaaDoor
open Go.Lib

/-- A text cut at a byte; pre: what stands before. -/
def cutA (b : UInt8) : List UInt8 → List UInt8 → List (List UInt8)
  | pre, [] => [pre]
  | pre, c :: r => if c = b then pre :: cutA b [] r else cutA b (pre ++ [c]) r
theorem cutA_plain (b : UInt8) : ∀ (x pre : List UInt8), (∀ c ∈ x, c ≠ b) → cutA b pre x = [pre ++ x]
  | [], pre, _ => by simp [cutA]
  | c :: x, pre, h => by
    rw [cutA, if_neg (h c List.mem_cons_self), cutA_plain b x _ fun d hd => h d (List.mem_cons_of_mem _ hd)]
    simp
theorem cutA_hit (b : UInt8) (y : List UInt8) : ∀ (x pre : List UInt8), (∀ c ∈ x, c ≠ b) → cutA b pre (x ++ b :: y) = (pre ++ x) :: cutA b [] y
  | [], pre, _ => by simp [cutA]
  | c :: x, pre, h => by
    rw [List.cons_append, cutA, if_neg (h c List.mem_cons_self), cutA_hit b y x _ fun d hd => h d (List.mem_cons_of_mem _ hd)]
    simp
theorem cutA_len (b : UInt8) : ∀ (l pre : List UInt8) (x : List UInt8), x ∈ cutA b pre l → x.length ≤ pre.length + l.length
  | [], pre, x, h => by
    simp [cutA] at h
    subst h
    simp
  | c :: l, pre, x, h => by
    rw [cutA] at h
    split at h
    · rcases List.mem_cons.1 h with rfl | h
      · simp
      · have := cutA_len b l [] x h
        simp at this ⊢
        omega
    · have := cutA_len b l _ x h
      simp at this ⊢
      omega
theorem index_hit (s : UInt8) (y : List UInt8) : ∀ (x : List UInt8), (∀ c ∈ x, c ≠ s) → index (x ++ s :: y) [s] = (x.length : Int)
  | [], _ => by simp [index]
  | b :: x, h => by
    have ih := index_hit s y x fun c hc => h c (List.mem_cons_of_mem _ hc)
    have hb : (s == b) = false := beq_eq_false_iff_ne.2 fun e => h b List.mem_cons_self e.symm
    rw [List.cons_append, index]
    simp only [List.isPrefixOf, hb, Bool.false_and]
    rw [ih]
    rw [if_neg (by decide), if_neg (by simp)]
    simp
theorem splitK_hit (s : UInt8) (k : Nat) (x y : List UInt8) (h : ∀ c ∈ x, c ≠ s) : splitK [s] 0 (k + 1) (x ++ s :: y) = x :: splitK [s] 0 k y := by
  rw [splitK, index_hit s y x h, if_neg (by simp)]
  simp
theorem map_bs {ws : List ByteArray} {L : List (List UInt8)} (h : ws.map (·.data.toList) = L) : ws = L.map bs := by
  rw [← h, List.map_map]
  conv => lhs; rw [← List.map_id ws]
  apply List.map_congr_left
  intro x _
  exact (bs_self x).symm
theorem first_at (c : UInt8) : ∀ (l : List UInt8), (∀ d ∈ l, d ≠ c) ∨ ∃ x y, l = x ++ c :: y ∧ ∀ d ∈ x, d ≠ c
  | [] => .inl (by simp)
  | b :: l => by
    by_cases h : b = c
    · exact .inr ⟨[], l, by rw [h]; rfl, by simp⟩
    · rcases first_at c l with h1 | ⟨x, y, rfl, h1⟩
      · exact .inl fun d hd => by
          rcases List.mem_cons.1 hd with rfl | hd
          · exact h
          · exact h1 d hd
      · refine .inr ⟨b :: x, y, rfl, fun d hd => ?_⟩
        rcases List.mem_cons.1 hd with rfl | hd
        · exact h
        · exact h1 d hd
theorem count_none (c : UInt8) (x : List UInt8) (h : ∀ d ∈ x, d ≠ c) : x.count c = 0 := List.count_eq_zero.2 fun hc => h c hc rfl
theorem splitK_cutA (c : UInt8) : ∀ (n : Nat) (l : List UInt8), l.length ≤ n → splitK [c] 0 (l.count c) l = cutA c [] l
  | n, l, hn => by
    rcases first_at c l with h | ⟨x, y, rfl, h⟩
    · rw [count_none c l h, cutA_plain c l [] h, splitK]
      simp
    · cases n with
      | zero => simp at hn
      | succ n =>
        have ih := splitK_cutA c n y (by simp at hn; omega)
        rw [List.count_append, count_none c x h, List.count_cons_self, Nat.zero_add, splitK_hit _ _ _ _ h, cutA_hit c y x [] h, ih]
        rfl
theorem split_cutA (x : ByteArray) : splitB (bs [44]) 0 (countB x (bs [44])) x = (cutA 44 [] x.data.toList).map bs := by
  have e : countB x (bs [44]) = x.data.toList.count 44 := count_one 44 x.data.toList
  rw [e]
  exact map_bs ((splitB_data _ _ _ _).trans (splitK_cutA 44 _ _ (Nat.le_refl _)))
theorem joinTail_cons (x : List UInt8) (r : List (List UInt8)) : joinTail [44] (x :: r) = 44 :: (x ++ joinTail [44] r) := by simp [joinTail]
theorem cutA_tail : ∀ (r : List (List UInt8)) (x pre : List UInt8), (∀ d ∈ x, d ≠ 44) → (∀ y ∈ r, ∀ d ∈ y, d ≠ 44) → cutA 44 pre (x ++ joinTail [44] r) = (pre ++ x) :: r
  | [], x, pre, hx, _ => by
    rw [show joinTail [44] ([] : List (List UInt8)) = [] from rfl, List.append_nil, cutA_plain 44 x pre hx]
  | y :: r, x, pre, hx, hr => by
    rw [joinTail_cons, cutA_hit 44 _ x pre hx, cutA_tail r y [] (hr y List.mem_cons_self) fun z hz => hr z (List.mem_cons_of_mem _ hz)]
    rfl
theorem word_no (n : Int) (h0 : 0 ≤ n) : ∀ d ∈ itoa n, d ≠ 44 := by
  intro d hd e
  subst e
  unfold itoa at hd
  rw [if_neg (by omega)] at hd
  have := decDigits_dig _ _ hd
  revert this
  unfold dig
  decide
theorem words_no (s : Bt) : ∀ y ∈ wordsL s, ∀ d ∈ y, d ≠ 44 := by
  intro y hy
  obtain ⟨n, hn, rfl⟩ := List.mem_map.1 hy
  exact word_no n (eachL_bd s n hn).1
/-- The pieces of the inner text. -/
theorem cut_inner (s : Bt) : cutA 44 [] (join (wordsL s) [44]) = if eachL s = [] then [[]] else wordsL s := by
  have hn := words_no s
  cases he : eachL s with
  | nil =>
    have : wordsL s = [] := by unfold wordsL; rw [he]; rfl
    rw [this]
    rfl
  | cons n r =>
    have hw : wordsL s = itoa n :: r.map itoa := by unfold wordsL; rw [he]; rfl
    rw [hw] at hn ⊢
    rw [join_cons, cutA_tail _ _ [] (hn _ List.mem_cons_self) fun y hy => hn y (List.mem_cons_of_mem _ hy)]
    simp

/-- A word read into a set. -/
def addW (s : Bt) (w : List UInt8) : Bt := match atoiAll w with
  | .ok n => if inN n then addB s n.toNat else s
  | _ => s
def readL (ws : List (List UInt8)) : Bt := ws.foldl addW (0, 0)
theorem inN_of {n : Int} (h : 0 ≤ n ∧ n < 128) : inN n = true := by simp [inN]; omega
theorem addW_itoa (s : Bt) (n : Int) (h : 0 ≤ n ∧ n < 128) : addW s (itoa n) = addB s n.toNat := by
  unfold addW
  rw [atoi_itoa n h.1 (by omega)]
  simp only []
  rw [if_pos (inN_of h)]
theorem fold_words : ∀ (L : List Int) (t u : Bt), (∀ n ∈ L, 0 ≤ n ∧ n < 128) → ofB L t = some u → (L.map itoa).foldl addW t = u
  | [], t, u, _, h => by
    simp only [ofB, Option.some.injEq] at h
    exact h
  | n :: L, t, u, hL, h => by
    rw [List.map_cons, List.foldl_cons, addW_itoa t n (hL n List.mem_cons_self)]
    refine fold_words L _ u (fun m hm => hL m (List.mem_cons_of_mem _ hm)) ?_
    rw [ofB, if_pos (inN_of (hL n List.mem_cons_self))] at h
    exact h
theorem of_eachL (s : Bt) : ofB (eachL s) (0, 0) = some s := by
  rw [← placesL_all]
  exact of_listP (hasB s) s fun _ _ => rfl
theorem empty_each (s : Bt) (h : eachL s = []) : s = (0, 0) := by
  have := of_eachL s
  rw [h] at this
  exact (Option.some.inj this).symm
theorem atoi_nil : ∀ v, atoiAll [] ≠ .ok v := by
  intro v h
  have : (match atoiAll [] with | .ok _ => true | _ => false) = false := by decide +kernel
  rw [h] at this
  cases this
theorem read_inner (s : Bt) : readL (cutA 44 [] (join (wordsL s) [44])) = s := by
  rw [cut_inner]
  by_cases h : eachL s = []
  · rw [if_pos h, empty_each s h]
    show addW (0, 0) [] = _
    unfold addW
    split
    · rename_i n hn
      exact absurd hn (atoi_nil n)
    · rfl
  · rw [if_neg h]
    exact fold_words (eachL s) _ s (eachL_bd s) (of_eachL s)
/-- What stands between the braces. -/
def innerL (l : List UInt8) : List UInt8 := (l.drop 1).take (l.length - 2)
theorem inner_text (s : Bt) : innerL (textL s) = join (wordsL s) [44] := by
  unfold innerL textL
  simp
theorem read_text (s : Bt) : readL (cutA 44 [] (innerL (textL s))) = s := by rw [inner_text, read_inner]
theorem text_inj {s t : Bt} (h : textL s = textL t) : s = t := by rw [← read_text s, h, read_text t]
theorem text_len (s : Bt) : 2 ≤ (textL s).length ∧ (textL s).length ≤ 514 := by
  have := join_len s
  unfold textL
  simp
  omega
/-- What a text reads as. -/
def BR (l : List UInt8) (s : Bt) (e : Int) : Prop := (e = 0 ∧ l = textL s) ∨ (s = (0, 0) ∧ e = 11 ∧ ∀ t, l ≠ textL t)
theorem BR.total (l : List UInt8) : ∃ s e, BR l s e := by
  by_cases h : ∃ t, l = textL t
  · obtain ⟨t, h⟩ := h
    exact ⟨t, 0, .inl ⟨rfl, h⟩⟩
  · exact ⟨(0, 0), 11, .inr ⟨rfl, rfl, fun t ht => h ⟨t, ht⟩⟩⟩
theorem BR.unique {l : List UInt8} {s t : Bt} {e f : Int} (h : BR l s e) (h' : BR l t f) : s = t ∧ e = f := by
  rcases h with ⟨h1, h2⟩ | ⟨h1, h2, h3⟩ <;> rcases h' with ⟨k1, k2⟩ | ⟨k1, k2, k3⟩
  · exact ⟨text_inj (h2 ▸ k2), by omega⟩
  · exact absurd h2 (k3 s)
  · exact absurd k2 (h3 t)
  · exact ⟨by rw [h1, k1], by omega⟩
/-- The node that a piece names. -/
def nodeOf (p : List UInt8) : Option Int := ((List.range 128).find? fun (k : Nat) => itoa (k : Int) == p).map fun (k : Nat) => (k : Int)
theorem nodeOf_some {p : List UInt8} {n : Int} : nodeOf p = some n ↔ (0 ≤ n ∧ n < 128 ∧ itoa n = p) := by
  unfold nodeOf
  constructor
  · intro h
    obtain ⟨k, hk, rfl⟩ := Option.map_eq_some_iff.1 h
    have h1 := List.mem_of_find?_eq_some hk
    have h2 := List.find?_some hk
    rw [List.mem_range] at h1
    exact ⟨by omega, by omega, by simpa using h2⟩
  · rintro ⟨h0, h1, h2⟩
    cases hf : (List.range 128).find? fun (k : Nat) => itoa (k : Int) == p with
    | none =>
      have := List.find?_eq_none.1 hf n.toNat (by rw [List.mem_range]; omega)
      rw [show ((n.toNat : Nat) : Int) = n by omega, h2] at this
      simp at this
    | some k =>
      have h3 := List.find?_some hf
      have : itoa (k : Int) = itoa n := by rw [h2]; simpa using h3
      rw [Option.map_some, itoa_inj this]
theorem nodes_inner (s : Bt) : (cutA 44 [] (join (wordsL s) [44])).filterMap nodeOf = eachL s := by
  rw [cut_inner]
  by_cases h : eachL s = []
  · rw [if_pos h, h]
    have : nodeOf [] = none := by
      cases hn : nodeOf [] with
      | none => rfl
      | some n => exact absurd (nodeOf_some.1 hn).2.2 (itoa_ne n)
    simp [this]
  · rw [if_neg h]
    unfold wordsL
    rw [List.filterMap_map]
    have key : ∀ L : List Int, (∀ n ∈ L, 0 ≤ n ∧ n < 128) → L.filterMap (nodeOf ∘ itoa) = L := by
      intro L
      induction L with
      | nil => intro _; rfl
      | cons n L ih =>
        intro hL
        have hn := hL n List.mem_cons_self
        rw [List.filterMap_cons_some (by show nodeOf (itoa n) = some n; exact nodeOf_some.2 ⟨hn.1, hn.2, rfl⟩), ih fun m hm => hL m (List.mem_cons_of_mem _ hm)]
    exact key _ (eachL_bd s)
theorem nodes_text (s : Bt) : (cutA 44 [] (innerL (textL s))).filterMap nodeOf = eachL s := by rw [inner_text, nodes_inner]
end Go.Proofs.YthhinchifegofaaDoor
