/- The reference's ReadPrefix, in plain lists. -/
import Derived.Test.YtcociflljbaicaaDoorG
import Derived.Test.YtcociflljbaicaaDoorT6
namespace Go.Proofs.YtcociflljbaicaaDoor
open Go.RowKit (wrap64)
open Go.Lib Go.Proofs.YtcociflljbaicaaDoor.PTextPrefixes Go.Proofs.YtcociflljbaicaaDoorW.PrintWords Go.Proofs.YtcociflljbaicaaDoorW.PrintMore

/-- A text cut at a byte; pre: what stands before. -/
def cutA (b : UInt8) : List UInt8 → List UInt8 → List (List UInt8)
  | pre, [] => [pre]
  | pre, c :: r => if c = b then pre :: cutA b [] r else cutA b (pre ++ [c]) r
theorem cutA_plain (b : UInt8) : ∀ (x pre : List UInt8), (∀ c ∈ x, c ≠ b) → cutA b pre x = [pre ++ x]
  | [], pre, _ => by simp [cutA]
  | c :: x, pre, h => by
    rw [cutA, if_neg (h c List.mem_cons_self), cutA_plain b x _ fun d hd => h d (List.mem_cons_of_mem _ hd)]
    simp
theorem cutA_hit (b : UInt8) (y : List UInt8) : ∀ (x pre : List UInt8), (∀ c ∈ x, c ≠ b) → cutA b pre (x ++ b :: y) = (pre ++ x) :: cutA b [] y
  | [], pre, _ => by simp [cutA]
  | c :: x, pre, h => by
    rw [List.cons_append, cutA, if_neg (h c List.mem_cons_self), cutA_hit b y x _ fun d hd => h d (List.mem_cons_of_mem _ hd)]
    simp
def joinA (b : UInt8) : List (List UInt8) → List UInt8
  | [] => []
  | [x] => x
  | x :: y :: r => x ++ b :: joinA b (y :: r)
theorem cutA_ne (b : UInt8) : ∀ (l pre : List UInt8), cutA b pre l ≠ []
  | [], pre => by simp [cutA]
  | c :: l, pre => by
    rw [cutA]
    split
    · simp
    · exact cutA_ne b l _
theorem cutA_join (b : UInt8) : ∀ (l pre : List UInt8), joinA b (cutA b pre l) = pre ++ l
  | [], pre => by simp [cutA, joinA]
  | c :: l, pre => by
    rw [cutA]
    split
    · rename_i h
      subst h
      have ih := cutA_join c l []
      have hn := cutA_ne c l []
      cases hc : cutA c [] l with
      | nil => exact absurd hc hn
      | cons x r =>
        rw [hc] at ih
        rw [joinA, ih]
        simp
    · rw [cutA_join b l]
      simp
theorem cutA_len (b : UInt8) : ∀ (l pre : List UInt8) (x : List UInt8), x ∈ cutA b pre l → x.length ≤ pre.length + l.length
  | [], pre, x, h => by
    simp [cutA] at h
    subst h
    simp
  | c :: l, pre, x, h => by
    rw [cutA] at h
    split at h
    · rcases List.mem_cons.1 h with rfl | h
      · simp
      · have := cutA_len b l [] x h
        simp at this ⊢
        omega
    · have := cutA_len b l _ x h
      simp at this ⊢
      omega
theorem cut_loop (s : ByteArray) (b : UInt8) (hs : s.size ≤ 1000) : ∀ (d i fr : Nat) (out : List ByteArray), i + d = s.size → fr ≤ i → out.length ≤ i →
    causewayref07_cut.l0 (d + 2) s (b.toNat : Int) out (fr : Int) (i : Int) = some (out ++ (cutA b ((s.data.toList.take i).drop fr) (s.data.toList.drop i)).map bs)
  | 0, i, fr, out, h, hf, ho => by
    have hi : i = s.size := by omega
    have hl := ts s
    have ex : s.extract fr i = bs ((s.data.toList.take i).drop fr) := by
      apply ba_ext
      rw [extract_data]
      simp [bs, List.drop_take]
    rw [causewayref07_cut.l0, if_pos (by omega), if_pos (by omega), if_pos (by omega), if_pos (by omega), if_pos (by omega)]
    have w1 : wrap64 ((i : Int) + 1) = ((i + 1 : Nat) : Int) := by unfold wrap64; omega
    rw [w1, causewayref07_cut.l0, if_neg (by omega)]
    have hd : s.data.toList.drop i = [] := List.drop_eq_nil_of_le (by omega)
    rw [Int.toNat_natCast, Int.toNat_natCast, ex, hd, cutA]
    rfl
  | d + 1, i, fr, out, h, hf, ho => by
    have hl := ts s
    have hi : i < s.size := by omega
    have ex : s.extract fr i = bs ((s.data.toList.take i).drop fr) := by
      apply ba_ext
      rw [extract_data]
      simp [bs, List.drop_take]
    have w1 : wrap64 ((i : Int) + 1) = ((i + 1 : Nat) : Int) := by unfold wrap64; omega
    have hd : s.data.toList.drop i = s.data.toList[i]'(by omega) :: s.data.toList.drop (i + 1) := List.drop_eq_getElem_cons (by omega)
    rw [causewayref07_cut.l0, if_pos (by omega), if_neg (by omega), if_pos (by omega), if_pos (by omega), bt_get s i hi, hd, cutA, w1]
    by_cases hc : s.data.toList[i]'(by omega) = b
    · rw [if_pos (by rw [hc]), if_pos (by omega), if_pos (by omega), if_pos (by omega), if_pos hc]
      have ih := cut_loop s b hs d (i + 1) (i + 1) (out ++ [s.extract fr i]) (by omega) (Nat.le_refl _) (by simp; omega)
      rw [Int.toNat_natCast, Int.toNat_natCast, ih, ex]
      have e : (s.data.toList.take (i + 1)).drop (i + 1) = [] := List.drop_eq_nil_of_le (by simp; omega)
      rw [e]
      simp
    · rw [if_neg (fun e => hc (UInt8.toNat_inj.1 (by exact_mod_cast e))), if_neg hc]
      have ih := cut_loop s b hs d (i + 1) fr out (by omega) (by omega) (by omega)
      rw [ih]
      congr 3
      rw [List.take_succ_eq_append_getElem (by omega), List.drop_append_of_le_length (by simp; omega)]
theorem cut_plain (s : ByteArray) (b : UInt8) (hs : s.size ≤ 1000) : causewayref07_cut.f (s.size + 2) s (b.toNat : Int) = some ((cutA b [] s.data.toList).map bs) := by
  unfold causewayref07_cut.f
  have := cut_loop s b hs s.size 0 0 [] (by omega) (Nat.le_refl _) (Nat.le_refl _)
  simpa using this
theorem lift_k {α : Type} {f : Nat → Option α} (hm : ∀ k, LeO (f k) (f (k + 1))) {k : Nat} {r : α} (h : f k = some r) : ∀ j, k ≤ j → f j = some r := by
  intro j hj
  obtain ⟨d, rfl⟩ : ∃ d, j = k + d := ⟨j - k, by omega⟩
  clear hj
  induction d with
  | zero => exact h
  | succ d ih => exact hm _ _ ih
end Go.Proofs.YtcociflljbaicaaDoor
