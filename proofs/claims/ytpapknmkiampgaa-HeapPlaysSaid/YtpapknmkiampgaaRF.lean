/- The reference's functions, as functions of the rising list. -/
import Derived.Test.YtpapknmkiampgaaSLK
import Derived.Test.YtpapknmkiampgaaPHeapPlaysx1
import Derived.Test.YtpapknmkiampgaaPHeapPlaysx2
import Derived.Test.YtpapknmkiampgaaPHeapPlaysx3
namespace Go.Proofs.Ytpapknmkiampgaa
open Go.RowKit (wrap64)
open Go.Proofs.Ytpapknmkiampgaa.PHeapPlays Go.Proofs.YtpapknmkiampgaaW.PrintWords Go.Proofs.YtpapknmkiampgaaW.PrintMore

def toS (e : En) : S79 := ⟨(e.2 : Int), e.1⟩
def LS (L : List En) : List S79 := L.map toS
theorem LS_len (L : List En) : (LS L).length = L.length := by simp [LS]
theorem rd_LS (L : List En) (i : Nat) (h : i < L.length) : rd_T79 (LS L) (i : Int) = toS L[i] := by
  unfold rd_T79 LS
  rw [Int.toNat_natCast]
  simp [h]
theorem w1 (i : Nat) (h : i < 1000) : wrap64 ((i : Int) + 1) = ((i + 1 : Nat) : Int) := by unfold wrap64; omega
theorem LS_append (a b : List En) : LS (a ++ b) = LS a ++ LS b := by simp [LS]
theorem LS_cons (e : En) (L : List En) : LS (e :: L) = toS e :: LS L := rfl
theorem toS_eta (e : En) : (⟨(toS e).f0, (toS e).f1⟩ : S79) = toS e := rfl

theorem key_loop (L : List En) (hL : L.length ≤ 128) (n : Int) : ∀ (d i k : Nat), i + d = L.length → d + 1 ≤ k →
    causewayref05_Key.l0 k n (i : Int) (LS L) = some (match (L.drop i).find? fun x => (x.2 : Int) == n with | none => (0, 8) | some a => (a.1, 0))
  | 0, i, k, h, hk => by
    obtain ⟨k, rfl⟩ : ∃ m, k = m + 1 := ⟨k - 1, by omega⟩
    rw [causewayref05_Key.l0, if_neg (by rw [LS_len]; omega), List.drop_eq_nil_of_le (by omega)]
    rfl
  | d + 1, i, k, h, hk => by
    obtain ⟨k, rfl⟩ : ∃ m, k = m + 1 := ⟨k - 1, by omega⟩
    have hi : i < L.length := by omega
    rw [causewayref05_Key.l0, if_pos (by rw [LS_len]; omega), if_pos (by omega), rd_LS L i hi, List.drop_eq_getElem_cons hi, List.find?_cons]
    by_cases e : (L[i].2 : Int) = n
    · have e0 : (toS L[i]).f0 = n := e
      rw [if_pos e0]
      have : ((L[i].2 : Int) == n) = true := by simpa using e
      rw [this]
      rfl
    · have e0 : ¬ (toS L[i]).f0 = n := e
      rw [if_neg e0, w1 i (by omega), key_loop L hL n d (i + 1) k (by omega) (by omega)]
      have : ((L[i].2 : Int) == n) = false := by simpa using e
      rw [this]
theorem key_f (L : List En) (hL : L.length ≤ 128) (n : Int) (k : Nat) (hk : 200 ≤ k) : causewayref05_Key.f k (LS L) n = some (keyR L n) := by
  obtain ⟨k, rfl⟩ : ∃ m, k = m + 1 := ⟨k - 1, by omega⟩
  have hl := key_loop L hL n L.length 0 k (by omega) (by omega)
  unfold causewayref05_Key.f keyR
  by_cases h0 : n < 0
  · rw [if_pos h0, if_pos (.inl h0), causewayref05_Key.j0, if_pos rfl]
  · rw [if_neg h0, causewayref05_Key.j0]
    by_cases h1 : 127 < n
    · rw [if_pos (by simpa using h1), if_pos (.inr h1)]
    · rw [if_neg (by simpa using h1), if_neg (by omega)]
      exact hl
theorem put_rest (L : List En) (hL : L.length ≤ 128) (x y : Int) : ∀ (d i k : Nat) (acc : List S79), i + d = L.length → d + 1 ≤ k → acc.length ≤ i + 1 →
    causewayref05_put.l0 k true (i : Int) (LS L) x y acc = some (acc ++ LS (L.drop i))
  | 0, i, k, acc, h, hk, ha => by
    obtain ⟨k, rfl⟩ : ∃ m, k = m + 1 := ⟨k - 1, by omega⟩
    rw [causewayref05_put.l0, if_neg (by rw [LS_len]; omega), if_pos rfl, List.drop_eq_nil_of_le (by omega)]
    simp [LS]
  | d + 1, i, k, acc, h, hk, ha => by
    obtain ⟨k, rfl⟩ : ∃ m, k = m + 1 := ⟨k - 1, by omega⟩
    have hi : i < L.length := by omega
    rw [causewayref05_put.l0, if_pos (by rw [LS_len]; omega), if_pos (by omega), if_pos rfl, if_pos (by omega), rd_LS L i hi, w1 i (by omega), put_rest L hL x y d (i + 1) k _ (by omega) (by omega) (by simp; omega), toS_eta, List.drop_eq_getElem_cons hi, LS_cons]
    simp
theorem put_loop (L : List En) (hL : L.length ≤ 128) (x : En) : ∀ (d i k : Nat) (acc : List S79), i + d = L.length → d + 1 ≤ k → acc.length ≤ i →
    causewayref05_put.l0 k false (i : Int) (LS L) (x.2 : Int) x.1 acc = some (acc ++ LS (ins x (L.drop i)))
  | 0, i, k, acc, h, hk, ha => by
    obtain ⟨k, rfl⟩ : ∃ m, k = m + 1 := ⟨k - 1, by omega⟩
    rw [causewayref05_put.l0, if_neg (by rw [LS_len]; omega), if_neg (by decide), if_pos (by omega), List.drop_eq_nil_of_le (by omega)]
    rfl
  | d + 1, i, k, acc, h, hk, ha => by
    obtain ⟨k, rfl⟩ : ∃ m, k = m + 1 := ⟨k - 1, by omega⟩
    have hi : i < L.length := by omega
    have r1 := put_rest L hL (x.2 : Int) x.1 d (i + 1) k ((acc ++ [toS x]) ++ [toS L[i]]) (by omega) (by omega) (by simp; omega)
    have r2 := put_loop L hL x d (i + 1) k (acc ++ [toS L[i]]) (by omega) (by omega) (by simp; omega)
    have hd : L.drop i = L[i] :: L.drop (i + 1) := List.drop_eq_getElem_cons hi
    have hyes : be x L[i] = true → some (((acc ++ [toS x]) ++ [toS L[i]]) ++ LS (L.drop (i + 1))) = some (acc ++ LS (ins x (L.drop i))) := by
      intro hb
      rw [hd]
      unfold ins
      rw [if_pos hb, LS_cons, LS_cons]
      simp
    have hno : ¬ be x L[i] = true → some ((acc ++ [toS L[i]]) ++ LS (ins x (L.drop (i + 1)))) = some (acc ++ LS (ins x (L.drop i))) := by
      intro hb
      rw [hd]
      conv => rhs; unfold ins
      rw [if_neg hb, LS_cons]
      simp
    have hbe := be_iff x L[i]
    rw [causewayref05_put.l0, if_pos (by rw [LS_len]; omega), if_pos (by omega), if_neg (by decide), rd_LS L i hi, w1 i (by omega)]
    simp only [Option.bind_some, toS_eta]
    rw [if_pos (show acc.length < 8796093022208 by omega), if_pos (show (acc ++ [(⟨(x.2 : Int), x.1⟩ : S79)]).length < 8796093022208 by simp; omega)]
    have e1 : (toS L[i]).f1 = L[i].1 := rfl
    have e0 : (toS L[i]).f0 = (L[i].2 : Int) := rfl
    rw [e1, e0]
    have ex : (⟨(x.2 : Int), x.1⟩ : S79) = toS x := rfl
    rw [ex, r1, r2]
    by_cases c1 : x.1 < L[i].1
    · rw [if_pos c1]
      exact hyes (hbe.2 (.inl c1))
    · rw [if_neg c1]
      by_cases c2 : x.1 = L[i].1
      · rw [if_pos c2]
        by_cases c3 : (x.2 : Int) < (L[i].2 : Int)
        · rw [if_pos c3]
          exact hyes (hbe.2 (.inr ⟨c2, by omega⟩))
        · rw [if_neg c3]
          try rw [if_pos (show acc.length < 8796093022208 by omega)]
          exact hno fun hb => by rcases hbe.1 hb with h | h <;> omega
      · rw [if_neg c2]
        try rw [if_pos (show acc.length < 8796093022208 by omega)]
        exact hno fun hb => by rcases hbe.1 hb with h | h <;> omega
theorem put_f (L : List En) (hL : L.length ≤ 128) (x : En) (k : Nat) (hk : 200 ≤ k) : causewayref05_put.f k (LS L) (x.2 : Int) x.1 = some (LS (ins x L)) := by
  unfold causewayref05_put.f
  have := put_loop L hL x L.length 0 k [] (by omega) (by omega) (by simp)
  simpa using this
theorem without_loop (L : List En) (hL : L.length ≤ 128) (n : Nat) : ∀ (d i k : Nat) (acc : List S79), i + d = L.length → d + 1 ≤ k → acc.length ≤ i →
    causewayref05_without.l0 k (n : Int) (i : Int) (LS L) acc = some (acc ++ LS ((L.drop i).filter fun x => x.2 != n))
  | 0, i, k, acc, h, hk, ha => by
    obtain ⟨k, rfl⟩ : ∃ m, k = m + 1 := ⟨k - 1, by omega⟩
    rw [causewayref05_without.l0, if_neg (by rw [LS_len]; omega), List.drop_eq_nil_of_le (by omega)]
    simp [LS]
  | d + 1, i, k, acc, h, hk, ha => by
    obtain ⟨k, rfl⟩ : ∃ m, k = m + 1 := ⟨k - 1, by omega⟩
    have hi : i < L.length := by omega
    rw [causewayref05_without.l0, if_pos (by rw [LS_len]; omega), if_pos (by omega), rd_LS L i hi, w1 i (by omega), List.drop_eq_getElem_cons hi, toS_eta]
    by_cases e : (L[i].2 : Int) = (n : Int)
    · have e2 : (toS L[i]).f0 = (n : Int) := e
      rw [if_pos e2, without_loop L hL n d (i + 1) k acc (by omega) (by omega) (by omega), List.filter_cons_of_neg (by simp; omega)]
    · have e2 : ¬ (toS L[i]).f0 = (n : Int) := e
      rw [if_neg e2, if_pos (by omega), without_loop L hL n d (i + 1) k _ (by omega) (by omega) (by simp; omega), List.filter_cons_of_pos (by simp; omega)]
      simp [LS]
theorem without_f (L : List En) (hL : L.length ≤ 128) (n : Nat) (k : Nat) (hk : 200 ≤ k) : causewayref05_without.f k (LS L) (n : Int) = some (LS (L.filter fun x => x.2 != n)) := by
  unfold causewayref05_without.f
  have := without_loop L hL n L.length 0 k [] (by omega) (by omega) (by simp)
  simpa using this
theorem keyR_push (L : List En) (n : Int) : pushE L n = if (keyR L n).2 = 2 then 2 else if (keyR L n).2 = 0 then 5 else 0 := by
  unfold pushE keyR
  split
  · rfl
  · split <;> rfl
theorem push_f (L : List En) (hL : L.length ≤ 128) (n k' : Int) (k : Nat) (hk : 200 ≤ k) : causewayref05_Push.f k (LS L) n k' = some (pushE L n, LS (pushL L n k')) := by
  unfold causewayref05_Push.f
  rw [key_f L hL n k hk]
  simp only [Option.bind_some]
  have hp := keyR_push L n
  unfold pushL
  by_cases h2 : (keyR L n).2 = 2
  · rw [if_pos h2] at hp ⊢
    rw [hp, if_neg (by decide), h2]
  · rw [if_neg h2] at hp ⊢
    by_cases h0 : (keyR L n).2 = 0
    · rw [if_pos h0] at hp ⊢
      rw [hp, if_neg (by decide)]
    · rw [if_neg h0] at hp ⊢
      rw [hp, if_pos rfl]
      have hn : 0 ≤ n := by
        by_cases hn : 0 ≤ n
        · exact hn
        · exfalso
          refine h2 ?_
          unfold keyR
          rw [if_pos (.inl (by omega))]
      have := put_f L hL (k', n.toNat) k hk
      rw [show (((k', n.toNat) : En).2 : Int) = n by simp; omega] at this
      rw [this]
      rfl
theorem keyR_in {L : List En} {n : Int} (h : (keyR L n).2 = 0) : 0 ≤ n := by
  by_cases hn : 0 ≤ n
  · exact hn
  · unfold keyR at h
    rw [if_pos (.inl (by omega))] at h
    cases h
theorem filter_len (L : List En) (p : En → Bool) (hL : L.length ≤ 128) : (L.filter p).length ≤ 128 := Nat.le_trans (List.length_filter_le _ _) hL
theorem lower_f (L : List En) (hL : L.length ≤ 128) (n k' : Int) (k : Nat) (hk : 200 ≤ k) : causewayref05_Lower.f k (LS L) n k' = some (lowE L n k', LS (lowL L n k')) := by
  unfold causewayref05_Lower.f
  rw [key_f L hL n k hk]
  simp only [Option.bind_some]
  have hp : lowE L n k' = if (keyR L n).2 = 0 then (if k' ≥ (keyR L n).1 then 6 else 0) else (keyR L n).2 := by
    unfold lowE keyR
    split
    · rfl
    · split
      · rfl
      · rename_i a _
        by_cases hk : k' < a.1
        · rw [if_pos hk, if_pos rfl, if_neg (by simp; omega)]
        · rw [if_neg hk, if_pos rfl, if_pos (by simp; omega)]
  unfold lowL
  by_cases h0 : (keyR L n).2 = 0
  · rw [if_pos h0] at hp ⊢
    by_cases h1 : k' ≥ (keyR L n).1
    · rw [if_pos h1] at hp ⊢
      rw [hp, if_neg (by decide)]
    · rw [if_neg h1] at hp ⊢
      rw [hp, if_pos rfl]
      have hn := keyR_in h0
      have e1 := without_f L hL n.toNat k hk
      rw [show ((n.toNat : Nat) : Int) = n by omega] at e1
      have e2 := put_f (L.filter fun x => x.2 != n.toNat) (filter_len L _ hL) (k', n.toNat) k hk
      rw [show (((k', n.toNat) : En).2 : Int) = n by simp; omega] at e2
      rw [e1, Option.bind_some, e2]
      rfl
  · rw [if_neg h0] at hp ⊢
    rw [hp, if_neg h0]
theorem drop_f (L : List En) (hL : L.length ≤ 128) (n : Int) (k : Nat) (hk : 200 ≤ k) : causewayref05_Drop.f k (LS L) n = some (dropE L n, LS (dropL L n)) := by
  unfold causewayref05_Drop.f
  rw [key_f L hL n k hk]
  simp only [Option.bind_some]
  have hp : dropE L n = (keyR L n).2 := by
    unfold dropE keyR
    split
    · rfl
    · split <;> rfl
  unfold dropL
  rw [hp]
  by_cases h0 : (keyR L n).2 = 0
  · rw [if_pos h0, if_pos h0, h0]
    have hn := keyR_in h0
    have e1 := without_f L hL n.toNat k hk
    rw [show ((n.toNat : Nat) : Int) = n by omega] at e1
    rw [e1]
    rfl
  · rw [if_neg h0, if_neg h0]
theorem top_f (L : List En) : causewayref05_Top.f (LS L) = some (topE L) := by
  unfold causewayref05_Top.f
  cases L with
  | nil => rfl
  | cons a L =>
    rw [if_neg (by simp [LS]; omega), if_pos (by simp [LS])]
    rfl
def nodesI (L : List En) : List Int := L.map fun a => (a.2 : Int)
theorem nodes_loop (L : List En) (hL : L.length ≤ 128) : ∀ (d i k : Nat) (acc : List Int), i + d = L.length → d + 1 ≤ k → acc.length ≤ i →
    causewayref05_Nodes.l0 k acc (i : Int) (LS L) = some (acc ++ nodesI (L.drop i))
  | 0, i, k, acc, h, hk, ha => by
    obtain ⟨k, rfl⟩ : ∃ m, k = m + 1 := ⟨k - 1, by omega⟩
    rw [causewayref05_Nodes.l0, if_neg (by rw [LS_len]; omega), List.drop_eq_nil_of_le (by omega)]
    simp [nodesI]
  | d + 1, i, k, acc, h, hk, ha => by
    obtain ⟨k, rfl⟩ : ∃ m, k = m + 1 := ⟨k - 1, by omega⟩
    have hi : i < L.length := by omega
    rw [causewayref05_Nodes.l0, if_pos (by rw [LS_len]; omega), if_pos (by omega), if_pos (by omega), rd_LS L i hi, w1 i (by omega), nodes_loop L hL d (i + 1) k _ (by omega) (by omega) (by simp; omega), List.drop_eq_getElem_cons hi]
    rw [show nodesI (L[i] :: L.drop (i + 1)) = (L[i].2 : Int) :: nodesI (L.drop (i + 1)) from rfl]
    simp [toS]
theorem nodes_f (L : List En) (hL : L.length ≤ 128) (k : Nat) (hk : 200 ≤ k) : causewayref05_Nodes.f k (LS L) = some (nodesI L) := by
  unfold causewayref05_Nodes.f
  have := nodes_loop L hL L.length 0 k [] (by omega) (by omega) (by simp)
  simpa using this
theorem same_loop (l : List Int) (hl : l.length ≤ 128) : ∀ (d i k : Nat), i + d = l.length → d + 1 ≤ k → causewaylaw05_sameInts.l0 k l l (i : Int) = some true
  | 0, i, k, h, hk => by
    obtain ⟨k, rfl⟩ : ∃ m, k = m + 1 := ⟨k - 1, by omega⟩
    rw [causewaylaw05_sameInts.l0, if_neg (by omega)]
  | d + 1, i, k, h, hk => by
    obtain ⟨k, rfl⟩ : ∃ m, k = m + 1 := ⟨k - 1, by omega⟩
    rw [causewaylaw05_sameInts.l0, if_pos (by omega), if_pos (by omega), if_pos (by omega), if_pos rfl, w1 i (by omega), same_loop l hl d (i + 1) k (by omega) (by omega)]
theorem same_f (l : List Int) (hl : l.length ≤ 128) (k : Nat) (hk : 200 ≤ k) : causewaylaw05_sameInts.f k l l = some true := by
  unfold causewaylaw05_sameInts.f
  rw [if_pos rfl]
  exact same_loop l hl l.length 0 k (by omega) (by omega)
end Go.Proofs.Ytpapknmkiampgaa
