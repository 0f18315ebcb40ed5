/- The library's variables that are read, and contracts of Itoa, Atoi, Read, Text over them. -/
import Derived.Test.YtpclmpgemlcbpaaDoorM
import Derived.Test.YtpclmpgemlcbpaaDoorY
import Derived.Test.YtpclmpgemlcbpaaDoorA
import Derived.Lib.AppendIntMem
namespace Go.Proofs.YtpclmpgemlcbpaaDoor
open Go.RowKit Go.Lib

/-- The library's variables are as they were laid. -/
structure VarsW (w : World) : Prop where
  pow : Lib.TabIs Tryd.prog w "internal/strconv.uint64pow10" .u64 Lib.pow10Tab
  es : ∃ tp p, w.var? Tryd.prog "strconv.ErrSyntax" = some #[.iface tp p]
  er : ∃ tp p, w.var? Tryd.prog "strconv.ErrRange" = some #[.iface tp p]
theorem var_below {P : Program} {w w' : World} {n : String} {cs : Array Value} (h : w.var? P n = some cs) (b : Below w.heap.size w w') : w'.var? P n = some cs := by
  unfold World.var? at *
  cases hg : P.globalNamed n with
  | none => rw [hg] at h; cases h
  | some g =>
    rw [hg] at h
    simp only [Option.bind_some] at h ⊢
    cases ho : w.heap[g]? with
    | none => rw [ho] at h; cases h
    | some o =>
      rw [b.block g (Array.getElem?_eq_some_iff.1 ho).1, ho]
      rw [ho] at h
      exact h
theorem VarsW.below {w w' : World} (h : VarsW w) (b : Below w.heap.size w w') : VarsW w' := by
  obtain ⟨h1, ⟨t2, p2, h2⟩, ⟨t3, p3, h3⟩⟩ := h
  exact ⟨var_below h1 b, ⟨t2, p2, var_below h2 b⟩, ⟨t3, p3, var_below h3 b⟩⟩

theorem Itoa_any (n : Int) (h0 : -9223372036854775808 ≤ n) (h1 : n ≤ 9223372036854775807) (w : World) (hv : VarsW w) :
    Calls Tryd.prog 11 #[.int .i64 n] w fun e w' => e = .returned (.string ⟨(itoa n).toArray⟩) ∧ Below w.heap.size w w' := by
  refine (Tryd.strconv_Itoa n h0 h1 w hv.pow).mono ?_
  rintro e w' ⟨he, k, os, rfl⟩
  exact ⟨he, below_grow _ w (Nat.le_refl _) k os⟩
theorem Atoi_ok (s : ByteArray) (hs : s.size ≤ 140737488351232) (v : Int) (h : atoiAll s.data.toList = .ok v) (w : World) :
    Calls Tryd.prog 10 #[.string s] w fun e w' => e = .returned (.tuple #[.int .i64 v, .nilIface]) ∧ Below w.heap.size w w' := by
  refine (Tryd.strconv_Atoi_ok s (by omega) v h w).mono ?_
  rintro e w' ⟨he, rfl | ⟨t, rfl⟩⟩
  · exact ⟨he, Below.refl _ _⟩
  · exact ⟨he, bytesWorld_below _ _ _⟩
/-- A failing answer. -/
def BadAtoi (w : World) (e : Ending) (w' : World) : Prop := ∃ (n : Int) (N : Nat), e = .returned (.tuple #[.int .i64 n, .iface 46 (.pointer (some ⟨N, 0, none⟩))]) ∧ Below w.heap.size w w'
theorem Atoi_bad (s : ByteArray) (hs : s.size ≤ 140737488351232) (h : ∀ v, atoiAll s.data.toList ≠ .ok v) (w : World) (hv : VarsW w) : Calls Tryd.prog 10 #[.string s] w (BadAtoi w) := by
  obtain ⟨_, ⟨t2, p2, h2⟩, ⟨t3, p3, h3⟩⟩ := hv
  have hl : s.size ≤ 281474976710656 := by omega
  have key : ∀ e, atoiAll s.data.toList = e → Calls Tryd.prog 10 #[.string s] w (BadAtoi w) := by
    intro e he
    cases e with
    | ok v => exact absurd he (h v)
    | range =>
      refine (Any.strconv_Atoi_range_var Tryd.laysC172 s hl he t3 p3 w h3).mono ?_
      rintro e w' ⟨N, he, _, _, hb⟩
      exact ⟨_, N, he, hb⟩
    | _ =>
      refine (Any.strconv_Atoi_syntax_var Tryd.laysC172 s hl he t2 p2 w h2).mono ?_
      rintro e w' ⟨N, he, _, _, hb⟩
      exact ⟨_, N, he, hb⟩
  exact key _ rfl

/-! ### Read -/
def infL : List UInt8 := [105, 110, 102]
/-- What a text writes, as a distance, and the error. -/
def RD (l : List UInt8) (n e : Int) : Prop :=
  (l = infL ∧ n = 1073741824 ∧ e = 0) ∨ (l ≠ infL ∧ 0 ≤ n ∧ n < 1073741824 ∧ itoa n = l ∧ e = 0) ∨ (l ≠ infL ∧ (∀ m : Int, 0 ≤ m → m < 1073741824 → itoa m ≠ l) ∧ n = 0 ∧ e = 11)
theorem RD.unique {l : List UInt8} {n e m f : Int} (h : RD l n e) (k : RD l m f) : n = m ∧ e = f := by
  rcases h with ⟨h1, h2, h3⟩ | ⟨h1, h2, h3, h4, h5⟩ | ⟨h1, h2, h3, h4⟩ <;> rcases k with ⟨k1, k2, k3⟩ | ⟨k1, k2, k3, k4, k5⟩ | ⟨k1, k2, k3, k4⟩
  · exact ⟨by omega, by omega⟩
  · exact absurd h1 k1
  · exact absurd h1 k1
  · exact absurd k1 h1
  · exact ⟨itoa_inj (h4.trans k4.symm), by omega⟩
  · exact absurd h4 (k2 n h2 h3)
  · exact absurd k1 h1
  · exact absurd k4 (h2 m k2 k3)
  · exact ⟨by omega, by omega⟩
theorem RD.total (l : List UInt8) : ∃ n e, RD l n e := by
  by_cases h1 : l = infL
  · exact ⟨_, _, .inl ⟨h1, rfl, rfl⟩⟩
  · by_cases h2 : ∃ m : Int, 0 ≤ m ∧ m < 1073741824 ∧ itoa m = l
    · obtain ⟨m, a, b, c⟩ := h2
      exact ⟨m, 0, .inr (.inl ⟨h1, a, b, c, rfl⟩)⟩
    · exact ⟨0, 11, .inr (.inr ⟨h1, fun m a b c => h2 ⟨m, a, b, c⟩, rfl, rfl⟩)⟩

open Go.Proofs.YtpclmpgemlcbpaaDoor.PDistTexts in
theorem refRead_plain (s : ByteArray) (n e : Int) (h : RD s.data.toList n e) : ∃ k, causewayref01_Read.f k s = some (n, e) := by
  obtain ⟨k, m, b, hk, hN⟩ := num_any s
  refine ⟨k, ?_⟩
  unfold causewayref01_Read.f
  rcases h with ⟨h1, h2, h3⟩ | ⟨h1, h2, h3, h4, h5⟩ | ⟨h1, h2, h3, h4⟩
  · rw [if_pos (by rw [ByteArray.toList_eq]; exact h1), h2, h3]
  · rw [if_neg (by rw [ByteArray.toList_eq]; exact h1), hk]
    obtain ⟨hb, hm⟩ := hN.2 n (by omega) (by omega) h4
    simp only [Option.bind_some]
    rw [if_pos hb, if_neg (by omega), if_neg (by omega), hm, h5]
  · rw [if_neg (by rw [ByteArray.toList_eq]; exact h1), hk]
    simp only [Option.bind_some]
    rw [h3, h4]
    cases b with
    | false => rw [if_neg (by decide)]
    | true =>
      rw [if_pos rfl]
      obtain ⟨e1, e2, e3⟩ := hN.1 rfl
      by_cases hn : m < 0
      · rw [if_pos hn]
      · rw [if_neg hn]
        by_cases hg : m ≥ 1073741824
        · rw [if_pos hg]
        · exact absurd e1 (h2 m (by omega) (by omega))
theorem refRead_any (s : ByteArray) (n e : Int) (h : RD s.data.toList n e) (w : World) : Calls Tryd.prog 5 #[.string s] w fun e' w' => e' = .returned (.tuple #[.int .i64 n, .int .i64 e]) ∧ ∃ j, w' = w.drewN j := by
  obtain ⟨k, hk⟩ := refRead_plain s n e h
  refine (PDistTexts.causewayref01_Read.calls k s n e w hk).mono ?_
  rintro e' w' ⟨he, hd⟩
  exact ⟨he, hd.out⟩

theorem inf_yes {s : ByteArray} (h : s.data.toList = infL) : (s.toList == [105, 110, 102]) = true := by
  rw [ByteArray.toList_eq, h]
  rfl
theorem inf_no {s : ByteArray} (h : s.data.toList ≠ infL) : (s.toList == [105, 110, 102]) = false := by
  rw [ByteArray.toList_eq, beq_eq_false_iff_ne]
  exact h

set_option maxHeartbeats 2000000 in
theorem Read_any (s : ByteArray) (hs : s.size ≤ 140737488351232) (n e : Int) (h : RD s.data.toList n e) (w : World) (hv : VarsW w) :
    Calls Tryd.prog 4 #[.string s] w fun e' w' => e' = .returned (.tuple #[.int .i64 n, .int .i64 e]) ∧ Below w.heap.size w w' := by
  rcases h with ⟨h1, rfl, rfl⟩ | ⟨h1, h2, h3, h4, rfl⟩ | ⟨h1, h2, rfl, rfl⟩
  · have hE := inf_yes h1
    clear h1
    go_enter Tryd.func4, Tryd.ntmps4
    go_wp2
    go_ret2
    exact ⟨rfl, Below.refl _ _⟩
  · have hE := inf_no h1
    have hA := atoi_itoa n h2 (by omega)
    rw [h4] at hA
    have hss : (⟨(itoa n).toArray⟩ : ByteArray) = s := ba_ext (by simpa using h4)
    have H4 := Lib.hid hss
    have HA := Lib.hid hA
    have t1 : decide (n < 0) = false := by simp; omega
    have t2 : decide (1073741824 ≤ n) = false := by simp; omega
    clear h1 h4 hA hss
    go_enter Tryd.func4, Tryd.ntmps4
    go_wp2_with fail
    refine (Atoi_ok s hs n HA.out _).mono ?_
    rintro e w1 ⟨rfl, hb1⟩
    have hv1 := hv.below hb1
    go_wp2_with fail
    refine (Itoa_any n (by omega) (by omega) _ hv1).mono ?_
    rintro e w2 ⟨rfl, hb2⟩
    rw [H4.out]
    go_wp2
    go_ret2
    exact ⟨rfl, hb1.trans (hb2.mono hb1.size)⟩
  · have hE := inf_no h1
    by_cases hA : ∃ v, atoiAll s.data.toList = .ok v
    · obtain ⟨v, hA⟩ := hA
      have hbd := atoiAll_bounds hA
      have HA := Lib.hid hA
      have H2 := Lib.hid h2
      clear h1 h2 hA
      by_cases hv0 : v < 0
      · have t1 : decide (v < 0) = true := by simpa using hv0
        go_enter Tryd.func4, Tryd.ntmps4
        go_wp2_with fail
        refine (Atoi_ok s hs v HA.out _).mono ?_
        rintro e w1 ⟨rfl, hb1⟩
        go_wp2
        go_ret2
        exact ⟨rfl, hb1⟩
      · have t1 : decide (v < 0) = false := by simpa using hv0
        by_cases hv1 : 1073741824 ≤ v
        · have t2 : decide (1073741824 ≤ v) = true := by simpa using hv1
          go_enter Tryd.func4, Tryd.ntmps4
          go_wp2_with fail
          refine (Atoi_ok s hs v HA.out _).mono ?_
          rintro e w1 ⟨rfl, hb1⟩
          go_wp2
          go_ret2
          exact ⟨rfl, hb1⟩
        · have t2 : decide (1073741824 ≤ v) = false := by simpa using hv1
          obtain ⟨t, ht⟩ : ∃ t : ByteArray, Hid (t = ⟨(itoa v).toArray⟩) := ⟨_, Lib.hid rfl⟩
          have hne : (t.toList == s.toList) = false := by
            rw [ByteArray.toList_eq, ByteArray.toList_eq, beq_eq_false_iff_ne, ht.out]
            intro e
            exact H2.out v (by omega) (by omega) (by simpa using e)
          clear H2
          go_enter Tryd.func4, Tryd.ntmps4
          go_wp2_with fail
          refine (Atoi_ok s hs v HA.out _).mono ?_
          rintro e w1 ⟨rfl, hb1⟩
          have hv1 := hv.below hb1
          go_wp2_with fail
          refine (Itoa_any v (by omega) (by omega) _ hv1).mono ?_
          rintro e w2 ⟨rfl, hb2⟩
          rw [← ht.out]
          go_wp2
          go_ret2
          exact ⟨rfl, hb1.trans (hb2.mono hb1.size)⟩
    · have hA' : ∀ v, atoiAll s.data.toList ≠ .ok v := fun v e => hA ⟨v, e⟩
      have HA := Lib.hid hA'
      clear h1 h2 hA hA'
      go_enter Tryd.func4, Tryd.ntmps4
      go_wp2_with fail
      refine (Atoi_bad s hs HA.out _ hv).mono ?_
      rintro e w1 ⟨m, N, rfl, hb1⟩
      go_wp2
      go_ret2
      exact ⟨rfl, hb1⟩

/-! ### Text -/
def textL (d : Int) : List UInt8 := if 1073741824 ≤ clampI d then infL else itoa (clampI d)
theorem textL_RD (d : Int) : RD (textL d) (clampI d) 0 := by
  have hb := clampI_bd d
  unfold textL
  by_cases h : 1073741824 ≤ clampI d
  · rw [if_pos h]
    exact .inl ⟨rfl, by omega, rfl⟩
  · rw [if_neg h]
    refine .inr (.inl ⟨fun e => ?_, hb.1, by omega, rfl, rfl⟩)
    unfold itoa at e
    rw [if_neg (by omega)] at e
    have := decDigits_dig (clampI d).toNat 105 (by rw [e]; decide)
    unfold dig at this
    exact absurd this.2 (by decide)
theorem textL_size (d : Int) : (textL d).length ≤ 20 := by
  have hb := clampI_bd d
  unfold textL
  split
  · decide
  · unfold itoa
    rw [if_neg (by omega), decDigits_length]
    exact nd20 _ (by omega)
theorem Text_any (d : Int) (w : World) (hv : VarsW w) : Calls Tryd.prog 6 #[.int .i64 d] w fun e w' => e = .returned (.string ⟨(textL d).toArray⟩) ∧ Below w.heap.size w w' := by
  have hb := clampI_bd d
  by_cases h : 1073741824 ≤ d
  · have ht : textL d = infL := by
      unfold textL
      rw [if_pos]
      unfold clampI
      (repeat' split) <;> omega
    rw [ht]
    have t1 : decide (1073741824 ≤ d) = true := by simpa using h
    go_enter Tryd.func6, Tryd.ntmps6
    go_wp2
    go_ret
    exact ⟨rfl, Below.refl _ _⟩
  · have ht : textL d = itoa (clampI d) := by
      unfold textL
      rw [if_neg]
      unfold clampI
      (repeat' split) <;> omega
    rw [ht]
    have t1 : decide (1073741824 ≤ d) = false := by simpa using h
    clear ht
    go_enter Tryd.func6, Tryd.ntmps6
    go_wp2_with fail
    refine (clamp_any d _).mono ?_
    rintro e w1 ⟨rfl, rfl⟩
    go_wp2_with fail
    refine (Itoa_any _ (by omega) (by omega) _ hv).mono ?_
    rintro e w2 ⟨rfl, hb2⟩
    go_wp2
    go_ret
    exact ⟨rfl, hb2⟩
open Go.Proofs.YtpclmpgemlcbpaaDoor.PDistTexts in
theorem refText_any (d : Int) (w : World) : Calls Tryd.prog 8 #[.int .i64 d] w fun e w' => e = .returned (.string ⟨(textL d).toArray⟩) ∧ Below w.heap.size w w' := by
  have hb := clampI_bd d
  have hc : causewayref01_Clamp.f d = some (clampI d) := by
    unfold causewayref01_Clamp.f clampI
    by_cases h0 : d < 0
    · rw [if_pos h0, if_pos h0]
    · rw [if_neg h0, if_neg h0]
      by_cases h1 : d > 1073741824
      · rw [if_pos h1, if_pos h1]
      · rw [if_neg h1, if_neg h1]
  obtain ⟨k, hk⟩ := digits_any (clampI d) (by omega) (by omega)
  have : causewayref01_Text.f k d = some ⟨(textL d).toArray⟩ := by
    unfold causewayref01_Text.f
    rw [hc]
    simp only [Option.bind_some]
    unfold textL
    by_cases h : clampI d = 1073741824
    · rw [if_pos h, if_pos (by omega)]
      rfl
    · rw [if_neg h, if_neg (by omega), hk]
      rfl
  exact causewayref01_Text.calls k d _ w this

theorem str_same (t : ByteArray) : (t.toList == t.toList) = true := by simp
set_option maxHeartbeats 4000000 in
theorem DistTexts_walk (d : Int) (s : ByteArray) (hs : s.size ≤ 140737488351232) (w : World) (hv : VarsW w) :
    Calls Tryd.prog 3 #[.int .i64 d, .string s] w fun e w' => e = .returned (.bool true) ∧ Below w.heap.size w w' := by
  obtain ⟨n, e, hR⟩ := RD.total s.data.toList
  have hT := textL_RD d
  have hts := textL_size d
  obtain ⟨t, ht⟩ : ∃ t : ByteArray, Hid (t = ⟨(textL d).toArray⟩) := ⟨_, Lib.hid rfl⟩
  have hT' : RD t.data.toList (clampI d) 0 := by rw [ht.out]; simpa using hT
  have hts' : t.size ≤ 140737488351232 := by
    rw [ht.out]
    show (textL d).toArray.size ≤ _
    rw [List.size_toArray]
    omega
  have HR := Lib.hid hR
  have HT := Lib.hid hT'
  clear hR hT hT' hts
  have tt := str_same t
  go_enter Tryd.func3, Tryd.ntmps3
  go_wp2_with fail
  refine (Read_any s hs n e HR.out _ hv).mono ?_
  rintro e' w1 ⟨rfl, hb1⟩
  go_wp2_with fail
  refine (refRead_any s n e HR.out _).mono ?_
  rintro e' w2 ⟨rfl, j, rfl⟩
  have hb2 : Below w.heap.size w (w1.drewN j) := below_drewN hb1 j
  have hv2 := hv.below hb2
  go_wp2_with fail
  refine (Text_any d _ hv2).mono ?_
  rintro e' w3 ⟨rfl, hb3⟩
  rw [← ht.out]
  have hb4 := hb2.trans (hb3.mono hb2.size)
  have hv4 := hv.below hb4
  go_wp2_with fail
  refine (Read_any t hts' (clampI d) 0 HT.out _ hv4).mono ?_
  rintro e' w4 ⟨rfl, hb5⟩
  have hb6 := hb4.trans (hb5.mono hb4.size)
  go_wp2_with fail
  refine (awake_true _).mono ?_
  rintro e' w5 ⟨rfl, rfl⟩
  go_wp2_with fail
  refine (refText_any d _).mono ?_
  rintro e' w6 ⟨rfl, hb7⟩
  rw [← ht.out]
  have hb8 := hb6.trans (hb7.mono hb6.size)
  go_wp2_with (go_at_call 9; refine (Clamp_any d _).mono ?_; rintro e' w' ⟨rfl, rfl⟩)
  go_ret
  exact ⟨rfl, hb8⟩
end Go.Proofs.YtpclmpgemlcbpaaDoor
