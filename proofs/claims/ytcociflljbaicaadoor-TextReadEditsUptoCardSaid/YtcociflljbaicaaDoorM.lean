/- The references of numerals, as functions: Digits, Number, Read, Text. -/
import Derived.Test.YtcociflljbaicaaDoorN
import Derived.Test.YtcociflljbaicaaDoorT1
import Derived.Test.YtcociflljbaicaaDoorPTextPrefixesx5
import Derived.Laws.Strings
namespace Go.Proofs.YtcociflljbaicaaDoor
open Go.RowKit (wrap64)
open Go.Lib Go.Proofs.YtcociflljbaicaaDoor.PTextPrefixes Go.Proofs.YtcociflljbaicaaDoorW.PrintWords Go.Proofs.YtcociflljbaicaaDoorW.PrintMore

theorem ba_ext {a b : ByteArray} (h : a.data.toList = b.data.toList) : a = b := by
  cases a; cases b
  congr 1
  exact Array.toList_inj.1 h
theorem u64_wrap (x : Int) (h0 : 0 ≤ x) (h1 : x < 18446744073709551616) : IntKind.u64.wrap x = x := by
  simp only [IntKind.wrap, IntKind.signed, IntKind.bits]
  simp
  omega
theorem u64_low (d : Nat) (h : d < 10) : IntKind.u64.wrap (48 + Int.tmod (d : Int) 10) % 256 = 48 + (d : Int) := by
  have : Int.tmod (d : Int) 10 = d := by
    rw [Int.tmod_eq_emod_of_nonneg (by omega)]
    omega
  rw [this, u64_wrap _ (by omega) (by omega)]
  omega
theorem dig_step (x0 : Int) (k u : Nat) (x3 : ByteArray) (h0 : 0 < u) (h : u < 18446744073709551616) (hs : x3.size ≤ 1000) :
    causewayref01_Digits.l0 (k + 1) x0 x3 (u : Int) = causewayref01_Digits.l0 k x0 ((⟨#[UInt8.ofNat (48 + u % 10)]⟩ : ByteArray) ++ x3) ((u / 10 : Nat) : Int) := by
  have e1 : IntKind.u64.wrap (48 + Int.tmod (u : Int) 10) % 256 = ((48 + u % 10 : Nat) : Int) := by
    have : Int.tmod (u : Int) 10 = ((u % 10 : Nat) : Int) := by
      rw [Int.tmod_eq_emod_of_nonneg (by omega)]
      omega
    rw [this, u64_wrap _ (by omega) (by omega)]
    omega
  have e2 : IntKind.u64.wrap (Int.tdiv (u : Int) 10) = ((u / 10 : Nat) : Int) := by
    rw [Int.tdiv_eq_ediv_of_nonneg (by omega), u64_wrap _ (by omega) (by omega)]
    omega
  have e3 : strOfNums [((48 + u % 10 : Nat) : Int)] = (⟨#[UInt8.ofNat (48 + u % 10)]⟩ : ByteArray) := by
    simp only [strOfNums, List.map_cons, List.map_nil, Int.toNat_natCast]
  simp only [causewayref01_Digits.l0]
  rw [if_pos (by omega), e1, e2]
  simp only [Option.bind_some]
  rw [e3, if_pos ?_]
  rw [show (⟨#[UInt8.ofNat (48 + u % 10)]⟩ : ByteArray).size = 1 from rfl]
  omega
theorem dig_loop (x0 : Int) (u : Nat) : ∀ (x3 : ByteArray), 0 < u → u < 18446744073709551616 → x3.size + nDigits u ≤ 1000 →
    ∃ k, ∀ j, causewayref01_Digits.l0 (k + j) x0 x3 (u : Int) = causewayref01_Digits.l0 j x0 ((⟨(decDigits u).toArray⟩ : ByteArray) ++ x3) 0 := by
  induction u using Nat.strongRecOn with
  | _ u ih =>
    intro x3 h0 h hs
    have hn := nDigits_pos u
    by_cases hu : u < 10
    · refine ⟨1, fun j => ?_⟩
      rw [Nat.add_comm 1 j, dig_step x0 j u x3 h0 h (by omega), show u / 10 = 0 by omega, show u % 10 = u by omega, decDigits_one hu]
      rfl
    · have hb := nDigits_big hu
      have hdd : decDigits u = decDigits (u / 10) ++ [UInt8.ofNat (48 + u % 10)] := by rw [decDigits, dif_neg hu]
      obtain ⟨k, hk⟩ := ih (u / 10) (by omega) ((⟨#[UInt8.ofNat (48 + u % 10)]⟩ : ByteArray) ++ x3) (by omega) (by omega) (by
        rw [ByteArray.size_append, show (⟨#[UInt8.ofNat (48 + u % 10)]⟩ : ByteArray).size = 1 from rfl]
        omega)
      refine ⟨k + 1, fun j => ?_⟩
      rw [show k + 1 + j = (k + j) + 1 by omega, dig_step x0 (k + j) u x3 h0 h (by omega), hk j]
      congr 1
      apply ba_ext
      rw [hdd]
      simp
theorem nd20 (u : Nat) (h : u < 18446744073709551616) : nDigits u ≤ 20 := by
  by_cases h0 : u < 10
  · rw [nDigits_small h0]; omega
  · have h1 := decDigits_val u
    have h2 := decDigits_length u
    obtain ⟨c, r, e, hc⟩ := decDigits_head u (by omega)
    have hd := decDigits_dig u
    rw [e] at h1 h2 hd
    have hcd := hd c (by simp)
    unfold dig at hcd
    by_cases hl : nDigits u ≤ 20
    · exact hl
    · exfalso
      have key : ∀ (l : List UInt8) (acc : Nat), acc * 10 ^ l.length ≤ decVal acc l := by
        intro l
        induction l with
        | nil => intro acc; rw [decVal_nil]; simp
        | cons x l ih =>
          intro acc
          rw [decVal_cons]
          refine Nat.le_trans ?_ (ih _)
          rw [List.length_cons, Nat.pow_succ, Nat.mul_comm (10 ^ l.length) 10, ← Nat.mul_assoc]
          exact Nat.mul_le_mul_right _ (by omega)
      have h3 := key r (c.toNat - 48)
      rw [decVal_cons, show 0 * 10 + (c.toNat - 48) = c.toNat - 48 by omega] at h1
      rw [h1] at h3
      rw [List.length_cons] at h2
      have h4 : 10 ^ 20 ≤ 10 ^ r.length := Nat.pow_le_pow_right (by omega) (by omega)
      have h5 : 1 * 10 ^ r.length ≤ (c.toNat - 48) * 10 ^ r.length := Nat.mul_le_mul_right _ (by omega)
      have h6 : (10 : Nat) ^ 20 = 100000000000000000000 := by decide
      omega
theorem digits_any (n : Int) (h0 : -9223372036854775808 ≤ n) (h1 : n < 9223372036854775808) : ∃ k, causewayref01_Digits.f k n = some ⟨(itoa n).toArray⟩ := by
  unfold causewayref01_Digits.f
  by_cases hz : n = 0
  · subst hz
    refine ⟨0, ?_⟩
    have h48 : itoa 0 = [48] := by
      unfold itoa
      rw [if_neg (by omega), show (0 : Int).toNat = 0 from rfl, decDigits_one (by omega)]
      rfl
    rw [if_pos rfl, h48]
  · simp only [if_neg hz]
    have hw : ∀ m : Int, IntKind.u64.wrap m = m % 18446744073709551616 := by
      intro m
      simp only [IntKind.wrap, IntKind.signed, IntKind.bits]
      simp
    by_cases hn : n < 0
    · simp only [if_pos hn]
      rw [hw, hw, show (-(n % 18446744073709551616)) % 18446744073709551616 = ((n.natAbs : Nat) : Int) by omega]
      obtain ⟨k, hk⟩ := dig_loop n n.natAbs ⟨#[]⟩ (by omega) (by omega) (by have := nd20 n.natAbs (by omega); show 0 + _ ≤ _; omega)
      refine ⟨k + 1 + 1, ?_⟩
      simp only [causewayref01_Digits.j0]
      rw [hk 1]
      simp only [causewayref01_Digits.l0]
      rw [if_neg (by omega), if_pos hn, if_pos ?_]
      · congr 1
        apply ba_ext
        unfold itoa
        rw [if_pos hn]
        simp
      · have := nd20 n.natAbs (by omega)
        have h2 := decDigits_length n.natAbs
        show 1 + ((⟨(decDigits n.natAbs).toArray⟩ : ByteArray) ++ ⟨#[]⟩).size ≤ _
        rw [ByteArray.size_append]
        show 1 + ((decDigits n.natAbs).toArray.size + 0) ≤ _
        rw [List.size_toArray, h2]
        omega
    · simp only [if_neg hn]
      rw [hw, show n % 18446744073709551616 = ((n.toNat : Nat) : Int) by omega]
      obtain ⟨k, hk⟩ := dig_loop n n.toNat ⟨#[]⟩ (by omega) (by omega) (by have := nd20 n.toNat (by omega); show 0 + _ ≤ _; omega)
      refine ⟨k + 1 + 1, ?_⟩
      simp only [causewayref01_Digits.j0]
      rw [hk 1]
      simp only [causewayref01_Digits.l0]
      rw [if_neg (by omega), if_neg hn]
      congr 1
      apply ba_ext
      unfold itoa
      rw [if_neg hn]
      simp

/-! ### Number -/
theorem bt_get (t : ByteArray) (i : Nat) (h : i < t.size) : bt t (i : Int) = (((t.data.toList[i]'(by simpa using h)).toNat : Nat) : Int) := by
  unfold bt
  rw [dif_pos (by simpa using h)]
  simp only [Int.toNat_natCast]
  rfl
theorem ts (t : ByteArray) : t.data.toList.length = t.size := by simp
theorem pow19 (l : List UInt8) (h : l.length ≤ 19) (hd : ∀ c ∈ l, dig c) : decVal 0 l < 10000000000000000000 := by
  have h1 := decVal_lt l hd 0
  have h2 : (10 : Nat) ^ l.length ≤ 10 ^ 19 := Nat.pow_le_pow_right (by omega) h
  have h3 : (10 : Nat) ^ 19 = 10000000000000000000 := by decide
  omega

def numEnd (neg : Bool) (V : Nat) : Int × Bool :=
  if neg = true then (wrap64 (IntKind.u64.wrap (-(V : Int))), decide ((V : Int) ≤ 9223372036854775808)) else (wrap64 (V : Int), decide ((V : Int) < 9223372036854775808))
theorem num_loop (neg : Bool) (t : ByteArray) (h19 : t.size ≤ 19) (d : Nat) : ∀ (i : Nat), i + d = t.size → (∀ c ∈ t.data.toList.take i, dig c) →
    ∃ k r, causewayref01_Number.l0 k neg t (decVal 0 (t.data.toList.take i) : Nat) i = some r ∧ ((∀ c ∈ t.data.toList, dig c) → r = numEnd neg (decVal 0 t.data.toList)) ∧ ((∃ c ∈ t.data.toList, ¬ dig c) → r = (0, false)) := by
  have hts := ts t
  induction d with
  | zero =>
    intro i hi hd
    have htk : t.data.toList.take i = t.data.toList := List.take_of_length_le (by omega)
    rw [htk] at hd ⊢
    refine ⟨1, numEnd neg (decVal 0 t.data.toList), ?_, fun _ => rfl, fun ⟨c, hc, hn⟩ => absurd (hd c hc) hn⟩
    simp only [causewayref01_Number.l0]
    rw [if_neg (by omega)]
    unfold numEnd
    split <;> rfl
  | succ d ih =>
    intro i hi hd
    have hil : i < t.size := by omega
    have hb := bt_get t i hil
    have hmem : t.data.toList[i]'(by omega) ∈ t.data.toList := List.getElem_mem _
    generalize hc : t.data.toList[i]'(by omega) = c at hb hmem
    by_cases hdc : dig c
    · have htk : t.data.toList.take (i + 1) = t.data.toList.take i ++ [c] := by
        rw [List.take_succ_eq_append_getElem (by omega), hc]
      obtain ⟨k, r, h1, h2, h3⟩ := ih (i + 1) (by omega) (by
        intro x hx
        rw [htk] at hx
        rcases List.mem_append.1 hx with hx | hx
        · exact hd x hx
        · simp only [List.mem_singleton] at hx
          subst hx
          exact hdc)
      refine ⟨k + 1, r, ?_, h2, h3⟩
      have hV := pow19 (t.data.toList.take i) (by rw [List.length_take]; omega) hd
      have hV' := pow19 (t.data.toList.take (i + 1)) (by rw [List.length_take]; omega) (by
        intro x hx
        rw [htk] at hx
        rcases List.mem_append.1 hx with hx | hx
        · exact hd x hx
        · simp only [List.mem_singleton] at hx
          subst hx
          exact hdc)
      have e1 : decVal 0 (t.data.toList.take (i + 1)) = decVal 0 (t.data.toList.take i) * 10 + (c.toNat - 48) := by
        rw [htk, decVal_append, decVal_cons, decVal_nil]
      rw [e1] at h1 hV'
      have hdc' := hdc
      unfold dig at hdc'
      have hlen : (decVal 0 (t.data.toList.take i)) * 10 < 18446744073709551616 := by omega
      simp only [causewayref01_Number.l0]
      rw [if_pos (by omega), if_pos (by omega), hb, if_neg (by omega), if_neg (by omega)]
      rw [u64_wrap (_ * 10) (by omega) (by omega), u64_wrap _ (by omega) (by omega), show wrap64 ((i : Int) + 1) = ((i + 1 : Nat) : Int) by unfold wrap64; omega]
      rw [show ((decVal 0 (t.data.toList.take i) : Nat) : Int) * 10 + ((c.toNat : Nat) - 48 : Int) % 256 = ((decVal 0 (t.data.toList.take i) * 10 + (c.toNat - 48) : Nat) : Int) by omega]
      exact h1
    · refine ⟨1, (0, false), ?_, fun h => absurd (h c hmem) hdc, fun _ => rfl⟩
      simp only [causewayref01_Number.l0]
      rw [if_pos (by omega), if_pos (by omega), hb]
      unfold dig at hdc
      by_cases h48 : c.toNat < 48
      · rw [if_pos (by omega)]
      · rw [if_neg (by omega), if_pos (by omega)]

/-- What stands behind the sign is a number as R9 has it. -/
def canon (neg : Bool) (l : List UInt8) : Prop := l ≠ [] ∧ l.length ≤ 19 ∧ (∀ c ∈ l, dig c) ∧ ∀ c r, l = c :: r → c.toNat = 48 → r = [] ∧ neg = false
theorem num_j1 (neg : Bool) (t : ByteArray) : ∃ k r, causewayref01_Number.j1 k neg t = some r ∧ (canon neg t.data.toList → r = numEnd neg (decVal 0 t.data.toList)) ∧ (¬ canon neg t.data.toList → r.2 = false) := by
  have hts := ts t
  by_cases he : t.data.toList = []
  · refine ⟨2, (0, false), ?_, fun h => absurd he h.1, fun _ => rfl⟩
    simp only [causewayref01_Number.j1, causewayref01_Number.j2]
    rw [if_pos (by rw [ByteArray.toList_eq]; exact he), if_pos trivial]
  · have hpos : 0 < t.size := by
      rw [← hts]
      exact List.length_pos_iff.2 he
    have htl : ¬ t.toList = ([] : List UInt8) := by rw [ByteArray.toList_eq]; exact he
    by_cases h19 : t.size ≤ 19
    · have hb := bt_get t 0 hpos
      obtain ⟨c, r, hcr⟩ : ∃ c r, t.data.toList = c :: r := by
        cases h : t.data.toList with
        | nil => exact absurd h he
        | cons c r => exact ⟨c, r, rfl⟩
      have h0 : t.data.toList[0]'(by omega) = c := by simp [hcr]
      rw [h0] at hb
      have hb' : bt t 0 = (c.toNat : Int) := hb
      obtain ⟨k, q, h1, h2, h3⟩ := num_loop neg t h19 t.size 0 (by omega) (by simp)
      have h1' : causewayref01_Number.l0 k neg t 0 0 = some q := h1
      have good : (c.toNat = 48 → r = [] ∧ neg = false) → ∃ k r', causewayref01_Number.j1 k neg t = some r' ∧ (canon neg t.data.toList → r' = numEnd neg (decVal 0 t.data.toList)) ∧ (¬ canon neg t.data.toList → r'.2 = false) := by
        intro hz
        refine ⟨k + 2, q, ?_, fun h => h2 h.2.2.1, fun hn => ?_⟩
        · simp only [causewayref01_Number.j1, causewayref01_Number.j2]
          rw [if_neg htl, if_neg (by omega), if_pos (by omega), hb']
          by_cases h48 : c.toNat = 48
          · obtain ⟨hr, hneg⟩ := hz h48
            have hsz : t.size = 1 := by rw [← hts, hcr, hr]; rfl
            rw [if_pos (by omega), if_neg (by omega), hneg, if_neg (by decide)]
            rw [hneg] at h1'
            exact h1'
          · rw [if_neg (by omega), if_neg (by decide)]
            exact h1'
        · have hnd : ∃ c ∈ t.data.toList, ¬ dig c := by
            by_cases hall : ∀ c ∈ t.data.toList, dig c
            · exfalso
              refine hn ⟨he, by omega, hall, fun c' r' e e' => ?_⟩
              rw [hcr] at e
              injection e with e1 e2
              subst e1 e2
              exact hz e'
            · simpa using hall
          rw [h3 hnd]
      by_cases h48 : c.toNat = 48
      · by_cases hr : r = []
        · by_cases hneg : neg = false
          · exact good fun _ => ⟨hr, hneg⟩
          · have hneg' : neg = true := by simpa using hneg
            refine ⟨2, (0, false), ?_, fun h => absurd (h.2.2.2 c r hcr h48).2 hneg, fun _ => rfl⟩
            have hsz : t.size = 1 := by rw [← hts, hcr, hr]; rfl
            simp only [causewayref01_Number.j1, causewayref01_Number.j2]
            rw [if_neg htl, if_neg (by omega), if_pos (by omega), hb', if_pos (by omega), if_neg (by omega), hneg', if_pos rfl]
        · refine ⟨2, (0, false), ?_, fun h => absurd (h.2.2.2 c r hcr h48).1 hr, fun _ => rfl⟩
          have hsz : 1 < t.size := by
            rw [← hts, hcr, List.length_cons]
            have := List.length_pos_iff.2 hr
            omega
          simp only [causewayref01_Number.j1, causewayref01_Number.j2]
          rw [if_neg htl, if_neg (by omega), if_pos (by omega), hb', if_pos (by omega), if_pos (by omega), if_pos trivial]
      · exact good fun e => absurd e h48
    · refine ⟨2, (0, false), ?_, fun h => absurd h.2.1 (by omega), fun _ => rfl⟩
      simp only [causewayref01_Number.j1, causewayref01_Number.j2]
      rw [if_neg htl, if_pos (by omega), if_pos trivial]

/-- What Number says: it is the inverse of the decimal text. -/
def NumR (l : List UInt8) (n : Int) (b : Bool) : Prop :=
  (b = true → itoa n = l ∧ -9223372036854775808 ≤ n ∧ n < 9223372036854775808) ∧ ∀ m : Int, -9223372036854775808 ≤ m → m < 9223372036854775808 → itoa m = l → b = true ∧ n = m
theorem num_of (l : List UInt8) (n : Int) (b : Bool) (h : b = true → itoa n = l ∧ -9223372036854775808 ≤ n ∧ n < 9223372036854775808) (hb : b = false → ∀ m : Int, -9223372036854775808 ≤ m → m < 9223372036854775808 → itoa m ≠ l) : NumR l n b := by
  refine ⟨h, fun m h0 h1 e => ?_⟩
  cases b with
  | false => exact absurd e (hb rfl m h0 h1)
  | true =>
    refine ⟨rfl, itoa_inj ?_⟩
    rw [(h rfl).1, e]
theorem canon_itoa (neg : Bool) (u : Nat) (h : u < 10000000000000000000) (h0 : neg = true → 0 < u) : canon neg (decDigits u) := by
  refine ⟨decDigits_ne u, ?_, decDigits_dig u, fun c r e e' => ?_⟩
  · rw [decDigits_length]
    by_cases h1 : nDigits u ≤ 19
    · exact h1
    · have h20 : nDigits u = 20 := by have := nd20 u (by omega); omega
      exfalso
      by_cases hu : u < 10
      · rw [nDigits_small hu] at h20; omega
      · obtain ⟨c, r, e, hc⟩ := decDigits_head u (by omega)
        have hv := decDigits_val u
        have hl := decDigits_length u
        have hd := decDigits_dig u
        rw [e] at hv hl hd
        have hcd := hd c (by simp)
        unfold dig at hcd
        have key : ∀ (l : List UInt8) (acc : Nat), acc * 10 ^ l.length ≤ decVal acc l := by
          intro l
          induction l with
          | nil => intro acc; rw [decVal_nil]; simp
          | cons x l ih =>
            intro acc
            rw [decVal_cons]
            refine Nat.le_trans ?_ (ih _)
            rw [List.length_cons, Nat.pow_succ, Nat.mul_comm (10 ^ l.length) 10, ← Nat.mul_assoc]
            exact Nat.mul_le_mul_right _ (by omega)
        have h3 := key r (c.toNat - 48)
        rw [decVal_cons, show 0 * 10 + (c.toNat - 48) = c.toNat - 48 by omega] at hv
        rw [hv] at h3
        rw [List.length_cons] at hl
        have hr : r.length = 19 := by omega
        rw [hr] at h3
        have h6 : (10 : Nat) ^ 19 = 10000000000000000000 := by decide
        rw [h6] at h3
        omega
  · by_cases hu : u = 0
    · subst hu
      rw [decDigits_one (by omega)] at e
      injection e with _ e2
      refine ⟨e2.symm, ?_⟩
      cases neg with
      | false => rfl
      | true => exact absurd (h0 rfl) (by omega)
    · obtain ⟨c', r', e2, hc⟩ := decDigits_head u (by omega)
      rw [e2] at e
      injection e with e3 _
      subst e3
      exact absurd e' hc
theorem num_any (s : ByteArray) : ∃ k n b, causewayref01_Number.f k s = some (n, b) ∧ NumR s.data.toList n b := by
  have hts := ts s
  have hw : ∀ m : Int, IntKind.u64.wrap m = m % 18446744073709551616 := by
    intro m
    simp only [IntKind.wrap, IntKind.signed, IntKind.bits]
    simp
  by_cases hm : ∃ r, s.data.toList = 45 :: r
  · obtain ⟨r, hr⟩ := hm
    have hpos : 0 < s.size := by rw [← hts, hr]; simp
    have hb := bt_get s 0 hpos
    have h0 : s.data.toList[0]'(by omega) = 45 := by simp [hr]
    rw [h0] at hb
    have hb' : (bt s 0 == 45) = true := by rw [show bt s 0 = 45 from hb]; rfl
    have hx : (s.extract 1 s.size).data.toList = r := by
      rw [ByteArray.data_extract, Array.toList_extract, List.extract_eq_take_drop, hr]
      simp only [List.drop_succ_cons, List.drop_zero]
      exact List.take_of_length_le (by rw [← hts, hr]; simp)
    obtain ⟨k, q, h1, h2, h3⟩ := num_j1 true (s.extract 1 s.size)
    rw [hx] at h2 h3
    refine ⟨k + 1, q.1, q.2, ?_, ?_⟩
    · unfold causewayref01_Number.f
      rw [if_pos (by omega), if_pos (by omega), hb']
      simp only [causewayref01_Number.j0]
      rw [if_pos trivial, if_pos (by omega)]
      exact h1
    · rw [hr]
      by_cases hcn : canon true r
      · rw [h2 hcn]
        obtain ⟨c1, c2, c3, c4⟩ := hcn
        have hV := pow19 r c2 c3
        have hdd := decDigits_of r c3 c1 (fun c r' e e' => (c4 c r' e e').1)
        have hVp : 0 < decVal 0 r := by
          by_cases hz : decVal 0 r = 0
          · exfalso
            rw [hz, decDigits_one (by omega)] at hdd
            have := (c4 (UInt8.ofNat (48 + 0)) [] hdd.symm (by decide)).2
            cases this
          · omega
        simp only [numEnd, if_true]
        refine num_of _ _ _ (fun hle => ?_) (fun hle m m0 m1 e => ?_)
        · have hle' : ((decVal 0 r : Nat) : Int) ≤ 9223372036854775808 := by simpa using hle
          have e1 : wrap64 (IntKind.u64.wrap (-((decVal 0 r : Nat) : Int))) = -((decVal 0 r : Nat) : Int) := by
            rw [hw]
            unfold wrap64
            omega
          rw [e1]
          refine ⟨?_, by omega, by omega⟩
          unfold itoa
          rw [if_pos (by omega), show (-((decVal 0 r : Nat) : Int)).natAbs = decVal 0 r by omega, hdd]
        · have hgt : ¬ ((decVal 0 r : Nat) : Int) ≤ 9223372036854775808 := by simpa using hle
          unfold itoa at e
          by_cases hmn : m < 0
          · rw [if_pos hmn] at e
            injection e with _ e
            have := congrArg (decVal 0) e
            rw [decDigits_val] at this
            omega
          · rw [if_neg hmn] at e
            have := decDigits_dig m.toNat 45 (by rw [e]; simp)
            unfold dig at this
            exact absurd this.1 (by decide)
      · have hq := h3 hcn
        refine num_of _ _ _ (fun e => by rw [hq] at e; cases e) (fun _ m m0 m1 e => ?_)
        unfold itoa at e
        by_cases hmn : m < 0
        · rw [if_pos hmn] at e
          injection e with _ e
          exact hcn (e ▸ canon_itoa true m.natAbs (by omega) (fun _ => by omega))
        · rw [if_neg hmn] at e
          have := decDigits_dig m.toNat 45 (by rw [e]; simp)
          unfold dig at this
          exact absurd this.1 (by decide)
  · have hj : ∃ k q, causewayref01_Number.f k s = some q ∧ (canon false s.data.toList → q = numEnd false (decVal 0 s.data.toList)) ∧ (¬ canon false s.data.toList → q.2 = false) := by
      obtain ⟨k, q, h1, h2, h3⟩ := num_j1 false s
      refine ⟨k + 1, q, ?_, h2, h3⟩
      unfold causewayref01_Number.f
      by_cases hz : s.size = 0
      · rw [if_neg (by omega)]
        simp only [causewayref01_Number.j0]
        rw [if_neg (by decide)]
        exact h1
      · have hb := bt_get s 0 (by omega)
        have hb' : (bt s 0 == 45) = false := by
          rw [show bt s 0 = _ from hb]
          have : ¬ s.data.toList[0]'(by omega) = 45 := fun e => hm ⟨s.data.toList.tail, by
            cases hl : s.data.toList with
            | nil => simp [hl] at hts; omega
            | cons c r => simp [hl] at e; rw [e]; rfl⟩
          simp only [beq_eq_false_iff_ne]
          intro e
          refine this (UInt8.toNat_inj.1 ?_)
          have e2 : (45 : UInt8).toNat = 45 := rfl
          omega
        rw [if_pos (by omega), if_pos (by omega), hb']
        simp only [causewayref01_Number.j0]
        rw [if_neg (by decide)]
        exact h1
    obtain ⟨k, q, h1, h2, h3⟩ := hj
    refine ⟨k, q.1, q.2, h1, ?_⟩
    by_cases hcn : canon false s.data.toList
    · rw [h2 hcn]
      obtain ⟨c1, c2, c3, c4⟩ := hcn
      have hV := pow19 _ c2 c3
      have hdd := decDigits_of _ c3 c1 (fun c r' e e' => (c4 c r' e e').1)
      simp only [numEnd, Bool.false_eq_true, if_false]
      refine num_of _ _ _ (fun hle => ?_) (fun hle m m0 m1 e => ?_)
      · have hle' : ((decVal 0 s.data.toList : Nat) : Int) < 9223372036854775808 := by simpa using hle
        have e1 : wrap64 ((decVal 0 s.data.toList : Nat) : Int) = ((decVal 0 s.data.toList : Nat) : Int) := by
          unfold wrap64
          omega
        rw [e1]
        refine ⟨?_, by omega, by omega⟩
        unfold itoa
        rw [if_neg (by omega), Int.toNat_natCast, hdd]
      · have hgt : ¬ ((decVal 0 s.data.toList : Nat) : Int) < 9223372036854775808 := by simpa using hle
        unfold itoa at e
        by_cases hmn : m < 0
        · rw [if_pos hmn] at e
          exact hm ⟨_, e.symm⟩
        · rw [if_neg hmn] at e
          have := congrArg (decVal 0) e
          rw [decDigits_val] at this
          omega
    · have hq := h3 hcn
      refine num_of _ _ _ (fun e => by rw [hq] at e; cases e) (fun _ m m0 m1 e => ?_)
      unfold itoa at e
      by_cases hmn : m < 0
      · rw [if_pos hmn] at e
        exact hm ⟨_, e.symm⟩
      · rw [if_neg hmn] at e
        exact hcn (e ▸ canon_itoa false m.toNat (by omega) (fun h => by cases h))
end Go.Proofs.YtcociflljbaicaaDoor
