/- Read, the reference, and the law BitsTexts: the walks. -/
import Derived.Test.YthhinchifegofaaDoorTB
import Derived.Test.YthhinchifegofaaDoorF
import Derived.Laws.ResultCell
import Derived.Test.YthhinchifegofaaDoorC
namespace Go.Proofs.YthhinchifegofaaDoor
open Go.RowKit Go.Lib

theorem inner_data (l : ByteArray) : l.extract 1 (l.size - 1) = bs (innerL l.data.toList) := by
  apply ba_ext
  have hl := ts l
  rw [ByteArray.data_extract, Array.toList_extract, List.extract_eq_take_drop]
  show _ = innerL l.data.toList
  unfold innerL
  rw [hl]
  congr 1
theorem inner_len (l : List UInt8) : (innerL l).length ≤ l.length := by
  unfold innerL
  simp
  omega
theorem str_self (t : ByteArray) : (t.toList == t.toList) = true := by simp
theorem at_alloc (W : World) (ws : List ByteArray) (t : TypeId) (j : Nat) (h : j < ws.length) : (W.alloc (.cells (ws.map Value.string).toArray t)).cell? ⟨W.heap.size, j, none⟩ = some (.string ws[j]) := by
  simp only [World.cell?, World.alloc, Array.getElem?_push_size]
  simp [h]
theorem res19 (w : World) (tmps : Array Value) (R : Nat) (s : Bt) (e : Value) (hp : tmps.getD 2 undef = .pointer (some ⟨R, 0, none⟩)) (he : tmps.getD 3 undef = e) (h0 : w.cell? ⟨R, 0, none⟩ = some (.int .u64 (u s.1))) (h1 : w.cell? ⟨R, 1, none⟩ = some (.int .u64 (u s.2))) :
    (results Tryd.f19 tmps).run Tryd.prog w = .ok (.tuple #[bv s, e]) w := by
  rw [results_cell_tmp (p := 2) (u := 3) (ty := 24) rfl, hp, he]
  unfold bv
  go_simp
theorem fold_next (ws : List (List UInt8)) (k : Nat) (h : k < ws.length) : (ws.take (k + 1)).foldl addW (0, 0) = addW ((ws.take k).foldl addW (0, 0)) ws[k] := by
  rw [List.take_succ_eq_append_getElem h, List.foldl_append]
  rfl
structure RW (w : World) (R Nb : Nat) (ws : List ByteArray) (t : Bt) : Prop where
  r : Arr w R (0, 0)
  s : Arr w (R + 1) t
  at_ : ∀ (j : Nat) (h : j < ws.length), w.cell? ⟨Nb, j, none⟩ = some (.string ws[j])
  pn : R + 1 < Nb
theorem RW.below {w w' : World} {R Nb : Nat} {ws : List ByteArray} {t : Bt} (h : RW w R Nb ws t) (b : Below w.heap.size w w') : RW w' R Nb ws t :=
  ⟨h.r.below b, h.s.below b, fun j hj => (b.cell (World.block_lt_of_cell? _ _ (h.at_ j hj))).trans (h.at_ j hj), h.pn⟩
theorem RW.drew {w : World} {R Nb : Nat} {ws : List ByteArray} {t : Bt} (h : RW w R Nb ws t) : RW w.drew R Nb ws t := ⟨h.r, h.s, h.at_, h.pn⟩
theorem RW.set0 {w : World} {R Nb : Nat} {ws : List ByteArray} {t : Bt} (h : RW w R Nb ws t) (x : UInt64) : RW (w.setCell ⟨R + 1, 0, none⟩ (.int .u64 (u x))) R Nb ws (x, t.2) :=
  ⟨h.r.far _ _ (by simp), h.s.set0 x, fun j hj => (World.cell?_setCell_far w _ _ _ (by have := h.pn; simp; omega)).trans (h.at_ j hj), h.pn⟩
theorem RW.set1 {w : World} {R Nb : Nat} {ws : List ByteArray} {t : Bt} (h : RW w R Nb ws t) (x : UInt64) : RW (w.setCell ⟨R + 1, 1, none⟩ (.int .u64 (u x))) R Nb ws (t.1, x) :=
  ⟨h.r.far _ _ (by simp), h.s.set1 x, fun j hj => (World.cell?_setCell_far w _ _ _ (by have := h.pn; simp; omega)).trans (h.at_ j hj), h.pn⟩
def kO : Value → Int
  | .int _ n => n
  | _ => 0
theorem ba_eq {a b : ByteArray} (h : (a.toList == b.toList) = true) : a = b := by
  apply ba_ext
  have := eq_of_beq h
  rwa [Lib.toList_data, Lib.toList_data] at this
set_option maxRecDepth 100000 in
set_option maxHeartbeats 8000000 in
theorem Read_any (l : ByteArray) (hl : l.size ≤ 1048576) (s : Bt) (e : Int) (hR : BR l.data.toList s e) (w : World) (hT : TabW w) (hV : VarsW w) :
    Calls Tryd.prog 19 #[.string l] w fun e' w' => e' = .returned (.tuple #[bv s, .int .i64 e]) ∧ Below w.heap.size w w' := by
  obtain ⟨m, hm⟩ := hV.ml
  have hts := ts l
  go_enter Tryd.func19, Tryd.ntmps19
  by_cases h2 : l.size < 2
  · have h2' : (l.size : Int) < 2 := by omega
    have hbad : BR l.data.toList (0, 0) 11 := .inr ⟨rfl, rfl, fun t ht => by have := text_len t; rw [← ht] at this; omega⟩
    obtain ⟨rfl, rfl⟩ := BR.unique hR hbad
    go_wp2
    refine bodyPost_ret (res19 _ _ w.heap.size (0, 0) _ rfl rfl (by go_simp; rfl) (by go_simp; rfl)) rfl ⟨rfl, ((Below.refl _ w).alloc (Nat.le_refl _) _).alloc (by simp) _⟩
  have h2' : ¬ ((l.size : Int) < 2) := by omega
  go_wp2_with fail
  rw [inner_data l]
  obtain ⟨W0, hW0⟩ : ∃ W0, W0 = (w.alloc (.cells #[.int .u64 0, .int .u64 0] 24)).alloc (.cells #[.int .u64 0, .int .u64 0] 24) := ⟨_, rfl⟩
  rw [← hW0]
  have hz0 : W0.heap.size = w.heap.size + 2 := by rw [hW0]; simp
  have hb0 : Below w.heap.size w W0 := by rw [hW0]; exact ((Below.refl _ w).alloc (Nat.le_refl _) _).alloc (by simp) _
  have r0 : Arr W0 w.heap.size (0, 0) := by rw [hW0]; exact (Arr.new w (0,0)).alloc (by simp) _
  have r1 : Arr W0 (w.heap.size + 1) (0, 0) := by
    rw [hW0]
    have := Arr.new (w.alloc (.cells #[.int .u64 0, .int .u64 0] 24)) (0,0)
    rwa [World.size_alloc] at this
  clear hW0
  have hV0 := hV.below hb0
  obtain ⟨m0, hm0⟩ := hV0.ml
  have hil := inner_len l.data.toList
  have c44 : 1 ≤ (bs [44]).size := by rw [bs_size]; decide
  have hlen := splitB_all (bs [44]) c44 0 _ (bs (innerL l.data.toList)) rfl
  have hle := countB_le (bs [44]) c44 _ (bs (innerL l.data.toList)) (Nat.le_refl _)
  have hsp := Tryd.strings_Split (bs (innerL l.data.toList)) (bs [44]) m0 W0 (by rw [bs_size]; omega) hm0 c44
  rw [bs_size] at hle
  have hws := split_cutA (bs (innerL l.data.toList))
  obtain ⟨K, hK⟩ : ∃ K, countB (bs (innerL l.data.toList)) (bs [44]) = K := ⟨_, rfl⟩
  rw [hK] at hlen hle hsp hws
  rw [hws] at hlen hsp
  obtain ⟨ps, hps⟩ : ∃ ps, ps = cutA 44 [] (innerL l.data.toList) := ⟨_, rfl⟩
  have hpl : ∀ x ∈ ps, x.length ≤ 1048576 := by
    intro x hx
    rw [hps] at hx
    have := cutA_len 44 _ [] x hx
    simp at this
    omega
  have hgood : e = 0 → readL ps = s ∧ l = bs (textL s) := by
    intro he
    rcases hR with ⟨_, h⟩ | ⟨_, h, _⟩
    · exact ⟨by rw [hps, h]; exact read_text s, by rw [← h, bs_self]⟩
    · omega
  have hback : (∃ t, l = bs (textL t)) → e = 0 := by
    rintro ⟨t, rfl⟩
    rcases hR with ⟨h, _⟩ | ⟨_, _, h⟩
    · exact h
    · exact absurd rfl (h t)
  have hbad : e ≠ 0 → s = (0, 0) ∧ e = 11 := by
    intro he
    rcases hR with ⟨h, _⟩ | ⟨h, h', _⟩
    · exact absurd h he
    · exact ⟨h, h'⟩
  rw [show (bs (innerL l.data.toList)).data.toList = innerL l.data.toList from rfl, ← hps] at hlen hsp
  clear hws hR hps
  rw [List.length_map] at hlen
  refine hsp.mono ?_
  rintro e' w2 ⟨rfl, rfl⟩
  clear hsp
  have RW2 : RW (W0.alloc (.cells ((ps.map bs).map Value.string).toArray 9)) w.heap.size W0.heap.size (ps.map bs) (0, 0) :=
    ⟨r0.alloc (by omega) _, r1.alloc (by omega) _, fun j hj => at_alloc W0 (ps.map bs) 9 j hj, by omega⟩
  have hb2 : Below w.heap.size w (W0.alloc (.cells ((ps.map bs).map Value.string).toArray 9)) := hb0.alloc (by omega) _
  obtain ⟨Nb, hNb⟩ : ∃ Nb, Nb = W0.heap.size := ⟨_, rfl⟩
  rw [← hNb] at RW2 ⊢
  obtain ⟨W2, hW2⟩ : ∃ W2, W2 = W0.alloc (.cells ((ps.map bs).map Value.string).toArray 9) := ⟨_, rfl⟩
  rw [← hW2] at RW2 hb2 ⊢
  clear hW2 hNb r0 r1 hb0 hV0 hm0 hz0
  go_wp2_with fail
  go_loopw [20] (fun i wr => ∃ (k : Nat) (t : Bt), i = .int .i64 k ∧ k ≤ K + 1 ∧ t = (ps.take k).foldl addW (0, 0) ∧ Below w.heap.size w wr ∧ RW wr w.heap.size Nb (ps.map bs) t) (fun i _ => (K + 1 - kO i).toNat)
  case atStart => exact ⟨0, (0, 0), rfl, Nat.zero_le _, by simp, hb2, RW2⟩
  case round =>
    clear hb2 RW2
    obtain ⟨k, t, rfl, hk, ht, hb, hr⟩ := hrel
    by_cases hlt : k < K + 1
    · have hkw : k < ps.length := by omega
      have hkw2 : k < (ps.map bs).length := by rw [List.length_map]; exact hkw
      have hw0 := hr.at_ k hkw2
      rw [List.getElem_map] at hw0
      have hwz : (bs ps[k]).size ≤ 140737488351232 := by have := hpl _ (List.getElem_mem hkw); rw [bs_size]; omega
      have hnx := fold_next ps k hkw
      rw [← ht] at hnx
      clear ht
      generalize ps[k] = p at hw0 hwz hnx
      have hv1 := hV.below hb
      by_cases hok : ∃ v, atoiAll p = .ok v
      · obtain ⟨n, hn⟩ := hok
        have hnx2 : addW t p = if inN n then addB t n.toNat else t := by unfold addW; rw [hn]
        go_wp2_with fail
        refine (Atoi_ok (bs p) hwz n hn wr).mono ?_
        rintro e' w3 ⟨rfl, hb3⟩
        have hr3 := hr.below hb3
        have hb4 := hb.trans (hb3.mono hb.size)
        clear hr hw0
        by_cases hin : inN n = true
        · have h0 : 0 ≤ n := by simp [inN] at hin; omega
          have h127 : n ≤ 127 := by simp [inN] at hin; omega
          rw [hin, if_pos rfl] at hnx2
          rw [hnx2] at hnx
          obtain ⟨a0, a1, f0, f1⟩ := id hr3.s
          by_cases h64 : n < 64
          · have hq : n.tdiv 64 = 0 := by rw [Int.tdiv_eq_ediv_of_nonneg h0]; omega
            have hrm : n.tmod 64 = n := by rw [Int.tmod_eq_emod_of_nonneg h0]; omega
            have e1 := shl_bit n (by omega)
            have e2 := u_or t.1 (bit n.toNat)
            have ea : addB t n.toNat = (t.1 ||| bit n.toNat, t.2) := by unfold addB; rw [if_pos (by omega)]
            rw [ea] at hnx
            go_wp2_with (go_at_call 31; refine (in_any _ _).mono ?_; rintro e w' ⟨rfl, rfl⟩)
            go_region
            go_wp2
            go_roundw
            case rel => exact ⟨k + 1, _, rfl, by omega, hnx.symm, (hb4.setCell (p := ⟨w.heap.size + 1, 0, none⟩) (Nat.le_add_right _ _) _).drew, (hr3.set0 _).drew⟩
            case measure => simp only [kO]; omega
          · have hq : n.tdiv 64 = 1 := by rw [Int.tdiv_eq_ediv_of_nonneg h0]; omega
            have hrm : n.tmod 64 = n - 64 := by rw [Int.tmod_eq_emod_of_nonneg h0]; omega
            obtain ⟨m, hm⟩ : ∃ m, n - 64 = m := ⟨_, rfl⟩
            rw [hm] at hrm
            have hm0 : 0 ≤ m := by omega
            have hm1 : m ≤ 63 := by omega
            have e1 := shl_bit m (by omega)
            have e2 := u_or t.2 (bit m.toNat)
            have ea : addB t n.toNat = (t.1, t.2 ||| bit m.toNat) := by
              unfold addB; rw [if_neg (by omega)]
              have : n.toNat - 64 = m.toNat := by omega
              rw [this]
            rw [ea] at hnx
            go_wp2_with (go_at_call 31; refine (in_any _ _).mono ?_; rintro e w' ⟨rfl, rfl⟩)
            go_region
            go_wp2
            go_roundw
            case rel => exact ⟨k + 1, _, rfl, by omega, hnx.symm, (hb4.setCell (p := ⟨w.heap.size + 1, 1, none⟩) (Nat.le_add_right _ _) _).drew, (hr3.set1 _).drew⟩
            case measure => simp only [kO]; omega
        · have hin' : inN n = false := by simpa using hin
          rw [hin'] at hnx2
          rw [show addW t p = t from hnx2] at hnx
          go_wp2_with (go_at_call 31; refine (in_any _ _).mono ?_; rintro e w' ⟨rfl, rfl⟩)
          go_roundw
          case rel => exact ⟨k + 1, _, rfl, by omega, hnx.symm, hb4, hr3⟩
          case measure => simp only [kO]; omega
      · have hnx2 : addW t p = t := by
          unfold addW
          split
          · rename_i v hv
            exact absurd ⟨v, hv⟩ hok
          · rfl
        rw [hnx2] at hnx
        go_wp2_with fail
        refine (Atoi_bad (bs p) hwz (fun v hv => hok ⟨v, hv⟩) wr hv1).mono ?_
        rintro e' w3 ⟨n, N, rfl, hb3⟩
        have hr3 := hr.below hb3
        have hb4 := hb.trans (hb3.mono hb.size)
        clear hr hw0
        go_wp2_with fail
        go_roundw
        case rel => exact ⟨k + 1, _, rfl, by omega, hnx.symm, hb4, hr3⟩
        case measure => simp only [kO]; omega
    · obtain rfl : k = K + 1 := by omega
      have hpt : ps.take (K + 1) = ps := List.take_of_length_le (by omega)
      rw [hpt] at ht
      have htH := Lib.hid (show readL ps = t from ht.symm)
      clear ht
      obtain ⟨a0, a1, f0, f1⟩ := id hr.s
      obtain ⟨b0, b1, g0, g1⟩ := id hr.r
      have hT3 := hT.below hb
      have hV3 := hV.below hb
      have htx := Text_any t wr hT3 hV3
      unfold bv at htx
      go_wp2_with fail
      refine htx.mono ?_
      rintro e' w3 ⟨rfl, hb3⟩
      have hr3 := hr.below hb3
      have hb4 := hb.trans (hb3.mono hb.size)
      clear htx a0 a1 f0 f1 b0 b1 g0 g1
      obtain ⟨a0, a1, f0, f1⟩ := id hr3.s
      obtain ⟨b0, b1, g0, g1⟩ := id hr3.r
      obtain ⟨x, hx⟩ : ∃ x, Hid (bs (textL t) = x) := ⟨_, Lib.hid rfl⟩
      rw [hx.out]
      by_cases heq : x = l
      · have he0 : e = 0 := hback ⟨t, by rw [← heq, hx.out]⟩
        have hst : (x.toList == l.toList) = true := by rw [heq]; simp
        go_wp2_with fail
        have hts2 : t = s := by rw [← htH.out, (hgood he0).1]
        rw [hts2, he0]
        have hr5 := (hr3.r.set0 s.1).set1 s.2
        exact bodyPost_ret (res19 _ _ w.heap.size s _ rfl rfl hr5.1 hr5.2.1) rfl ⟨rfl, (hb4.setCell (Nat.le_refl _) _).setCell (Nat.le_refl _) _⟩
      · have hst : (x.toList == l.toList) = false := by
          rw [← Bool.not_eq_true]
          intro h
          exact heq (ba_eq h)
        have hen : e ≠ 0 := fun he => heq (by rw [← hx.out, (hgood he).2, ← (hgood he).1, htH.out])
        obtain ⟨rfl, rfl⟩ := hbad hen
        go_wp2_with fail
        have hr5 := (hr3.r.set0 0).set1 0
        exact bodyPost_ret (res19 _ _ w.heap.size (0, 0) _ rfl rfl hr5.1 hr5.2.1) rfl ⟨rfl, (hb4.setCell (Nat.le_refl _) _).setCell (Nat.le_refl _) _⟩
end Go.Proofs.YthhinchifegofaaDoor
namespace Go.Proofs.YthhinchifegofaaDoor
open Go.RowKit Go.Lib Go.Proofs.YthhinchifegofaaDoor.PBitsTexts

theorem joinTail_append (r q : List (List UInt8)) : joinTail [44] (r ++ q) = joinTail [44] r ++ joinTail [44] q := by simp [joinTail]
theorem join_snoc (ws : List (List UInt8)) (x : List UInt8) (h : ws ≠ []) : join (ws ++ [x]) [44] = join ws [44] ++ (44 :: x) := by
  cases ws with
  | nil => exact absurd rfl h
  | cons y r =>
    rw [List.cons_append, join_cons, join_cons, joinTail_append, joinTail_cons]
    simp [joinTail]
/-- The text of the first k words. -/
def upL (s : Bt) (k : Nat) : List UInt8 := 123 :: join ((wordsL s).take k) [44]
theorem up_zero (s : Bt) : upL s 0 = [123] := rfl
theorem wordsL_at (s : Bt) (k : Nat) (h : k < (eachL s).length) : (wordsL s).take (k + 1) = (wordsL s).take k ++ [itoa (eachL s)[k]] := by
  have hw : k < (wordsL s).length := by unfold wordsL; rw [List.length_map]; exact h
  rw [List.take_succ_eq_append_getElem hw]
  simp [wordsL]
theorem up_first (s : Bt) (h : 0 < (eachL s).length) : upL s 1 = 123 :: itoa (eachL s)[0] := by
  unfold upL
  rw [wordsL_at s 0 h]
  simp [join_one]
theorem up_next (s : Bt) (k : Nat) (h : k < (eachL s).length) (h0 : 0 < k) : upL s (k + 1) = upL s k ++ (44 :: itoa (eachL s)[k]) := by
  unfold upL
  rw [wordsL_at s k h, join_snoc]
  · rfl
  · intro e
    have h1 : ((wordsL s).take k).length = 0 := by rw [e]; rfl
    rw [List.length_take] at h1
    have h2 : (wordsL s).length = (eachL s).length := by simp [wordsL]
    omega
theorem up_all (s : Bt) : upL s (eachL s).length ++ [125] = textL s := by
  unfold upL textL
  rw [List.take_of_length_le (by simp [wordsL])]
  rfl
theorem bs_append (a b : List UInt8) : bs a ++ bs b = bs (a ++ b) := by
  apply ba_ext
  simp [bs]
theorem bs_three (a b : List UInt8) : (Value.string (bs a ++ ⟨#[44]⟩ ++ bs b)) = .string (bs (a ++ 44 :: b)) := by
  congr 1
  apply ba_ext
  simp [bs]
theorem Digits_any (n : Int) (h0 : -9223372036854775808 ≤ n) (h1 : n < 9223372036854775808) (w : World) :
    Calls Tryd.prog 36 #[.int .i64 n] w fun e w' => e = .returned (.string (bs (itoa n))) ∧ Below w.heap.size w w' := by
  obtain ⟨k, hk⟩ := digits_any n h0 h1
  exact causewayref01_Digits.calls k n _ w hk
theorem up_len (s : Bt) (k : Nat) : (upL s k).length ≤ 4096 := by
  have h := wordsL_len3 s
  unfold upL
  have hl : ((wordsL s).take k).length ≤ 128 := by
    have := eachL_len s
    simp [wordsL]
    omega
  cases hw : (wordsL s).take k with
  | nil => rw [join_nil]; simp
  | cons x r =>
    rw [hw] at hl
    have hm : ∀ y ∈ x :: r, y.length ≤ 3 := fun y hy => h y (List.mem_of_mem_take (hw ▸ hy))
    have h1 := hm x List.mem_cons_self
    have h2 := joinTail_len [44] r fun y hy => hm y (List.mem_cons_of_mem _ hy)
    rw [join_cons]
    simp at h2 hl ⊢
    omega
set_option maxRecDepth 100000 in
set_option maxHeartbeats 4000000 in
theorem refText_any (s : Bt) (w : World) :
    Calls Tryd.prog 22 #[bv s] w fun e w' => e = .returned (.string (bs (textL s))) ∧ Below w.heap.size w w' := by
  have hlist := fun w => refList_any s w
  rw [placesL_all] at hlist
  have hl128 := eachL_len s
  unfold bv at hlist ⊢
  go_enter Tryd.func22, Tryd.ntmps22
  go_wp2_with fail
  refine (hlist _).mono ?_
  rintro e w1 ⟨v, rfl, hrow, hb1⟩
  obtain ⟨la, lc, rfl, hsl⟩ := hrow.form
  have hc1 : Below w.heap.size w w1 := ((Below.refl _ w).alloc (Nat.le_refl _) _).trans (hb1.mono (by simp))
  clear hrow hb1 hlist
  go_wp2_with fail
  go_loopw [4, 5] (fun t i wr => ∃ (k : Nat) (x : List UInt8), i = .int .i64 k ∧ k ≤ (eachL s).length ∧ Hid (x = upL s k) ∧ t = .string (bs x) ∧ Below w.heap.size w wr ∧ SlR wr 1 (.slice la (eachL s).length lc) (eachL s).length (ints (eachL s))) (fun _ i _ => ((eachL s).length - kO i).toNat)
  case atStart => exact ⟨0, [123], rfl, Nat.zero_le _, Lib.hid rfl, rfl, hc1, hsl⟩
  case round =>
    clear hsl hc1
    obtain ⟨k, x, rfl, hk, hx, rfl, hb, hsl⟩ := hrel
    have hxl : (bs x).size ≤ 4096 := by rw [bs_size, hx.out]; exact up_len s k
    by_cases hlt : k < (eachL s).length
    · obtain ⟨b, off, rfl, hcell⟩ := hsl.int_at k hlt
      have hbd := eachL_bd s _ (List.getElem_mem hlt)
      have hnx : k = 0 → upL s 1 = 123 :: itoa (eachL s)[k] := by
        intro h0
        subst h0
        exact up_first s hlt
      have hnx2 := up_next s k hlt
      have hil : (bs (itoa (eachL s)[k])).size ≤ 3 := by rw [bs_size]; exact itoa_len3 _ hbd.1 hbd.2
      generalize (eachL s)[k] = n at hcell hbd hnx hnx2 hil
      by_cases h0 : k = 0
      · subst h0
        rw [Nat.add_zero] at hcell
        go_wp2_with fail
        refine (Digits_any n (by omega) (by omega) _).mono ?_
        rintro e w2 ⟨rfl, hb2⟩
        go_wp2_with fail
        go_roundw
        case rel => exact ⟨1, 123 :: itoa n, rfl, by omega, Lib.hid (hnx (by trivial)).symm, by rw [hx.out, up_zero, bs_append]; rfl, hb.trans (hb2.mono hb.size), hsl.below hb2⟩
        case measure => simp only [kO]; omega
      · have hk0 : (k : Int) > 0 := by omega
        go_wp2_with fail
        refine (Digits_any n (by omega) (by omega) _).mono ?_
        rintro e w2 ⟨rfl, hb2⟩
        go_wp2_with fail
        go_roundw
        case rel => exact ⟨k + 1, upL s (k + 1), rfl, by omega, Lib.hid rfl, by rw [hnx2 (by omega), hx.out, bs_three], hb.trans (hb2.mono hb.size), hsl.below hb2⟩
        case measure => simp only [kO]; omega
    · obtain rfl : k = (eachL s).length := by omega
      go_wp2_with fail
      go_ret
      refine ⟨?_, hb⟩
      rw [← up_all, ← bs_append, ← hx.out]
      rfl
end Go.Proofs.YthhinchifegofaaDoor
namespace Go.Proofs.YthhinchifegofaaDoor
open Go.RowKit Go.Lib Go.Proofs.YthhinchifegofaaDoor.PBitsTexts

theorem Number_any (p : List UInt8) (w : World) :
    Calls Tryd.prog 32 #[.string (bs p)] w fun e w' => ∃ n b, e = .returned (.tuple #[.int .i64 n, .bool b]) ∧ NumR p n b ∧ Below w.heap.size w w' := by
  obtain ⟨k, n, b, h1, h2⟩ := num_any (bs p)
  refine (causewayref01_Number.calls k (bs p) _ _ w h1).mono ?_
  rintro e w' ⟨rfl, hd⟩
  exact ⟨n, b, rfl, h2, by first | exact hd.below | exact hd⟩
theorem text_first (s : Bt) : (textL s)[0]'(by have := text_len s; omega) = 123 := rfl
theorem text_last (s : Bt) : (textL s)[(textL s).length - 1]'(by have := text_len s; omega) = 125 := by
  have h : ∀ (a : List UInt8) (hh : (a ++ [125]).length - 1 < (a ++ [125]).length), (a ++ [125])[(a ++ [125]).length - 1] = 125 := by
    intro a hh
    simp
  exact h (123 :: join (wordsL s) [44]) (by simp)
theorem bad_of (l : ByteArray) (s : Bt) (e : Int) (hR : BR l.data.toList s e) (h : ∀ t, l ≠ bs (textL t)) : s = (0, 0) ∧ e = 11 :=
  BR.unique hR (.inr ⟨rfl, rfl, fun t ht => h t (by rw [← ht, bs_self])⟩)
theorem bs_at (x : List UInt8) (i : Nat) (h : i < (bs x).size) : (bs x)[i] = x[i]'(by rwa [bs_size] at h) := rfl
theorem res20 (w : World) (tmps : Array Value) (R : Nat) (s : Bt) (e : Value) (hp : tmps.getD 2 undef = .pointer (some ⟨R, 0, none⟩)) (he : tmps.getD 3 undef = e) (h0 : w.cell? ⟨R, 0, none⟩ = some (.int .u64 (u s.1))) (h1 : w.cell? ⟨R, 1, none⟩ = some (.int .u64 (u s.2))) :
    (results Tryd.f20 tmps).run Tryd.prog w = .ok (.tuple #[bv s, e]) w := by
  rw [results_cell_tmp (p := 2) (u := 3) (ty := 24) rfl, hp, he]
  unfold bv
  go_simp
/-- Where the loop stands: before i, from f on; L: the nodes that the pieces behind us name. -/
def Pos (l : List UInt8) (f i : Nat) (L : List Int) : Prop :=
  ∃ ds : List (List UInt8), ds.length + 1 ≤ i ∧ L = ds.filterMap nodeOf ∧ ((i < l.length ∧ cutA 44 [] (innerL l) = ds ++ cutA 44 ((l.take i).drop f) ((l.take (l.length - 1)).drop i)) ∨ (i = l.length ∧ cutA 44 [] (innerL l) = ds))
theorem inner_eq (l : List UInt8) : innerL l = (l.take (l.length - 1)).drop 1 := by
  unfold innerL
  rw [List.drop_take]
  congr 1
theorem Pos.start (l : List UInt8) (h : 2 ≤ l.length) : Pos l 1 1 [] := by
  refine ⟨[], by simp, rfl, .inl ⟨by omega, ?_⟩⟩
  have e : (l.take 1).drop 1 = [] := List.drop_eq_nil_of_le (by simp; omega)
  rw [e, inner_eq]
  rfl
theorem Pos.len {l : List UInt8} {f i : Nat} {L : List Int} (h : Pos l f i L) : L.length + 1 ≤ i := by
  obtain ⟨ds, h1, rfl, _⟩ := h
  have := List.length_filterMap_le nodeOf ds
  omega
theorem Pos.done {l : List UInt8} {f : Nat} {L : List Int} (h : Pos l f l.length L) : L = (cutA 44 [] (innerL l)).filterMap nodeOf := by
  obtain ⟨ds, _, rfl, h | h⟩ := h
  · omega
  · rw [h.2]
theorem rest_cons (l : List UInt8) (i : Nat) (h : i < l.length - 1) : (l.take (l.length - 1)).drop i = (l[i]'(by omega)) :: (l.take (l.length - 1)).drop (i + 1) := by
  rw [List.drop_eq_getElem_cons (by simp; omega), List.getElem_take]
theorem Pos.skip {l : List UInt8} {f i : Nat} {L : List Int} (h : Pos l f i L) (hf : f ≤ i) (hi : i < l.length - 1) (hc : l[i]'(by omega) ≠ 44) : Pos l f (i + 1) L := by
  obtain ⟨ds, h1, h2, h | h⟩ := h
  rotate_left
  · omega
  refine ⟨ds, by omega, h2, .inl ⟨by omega, ?_⟩⟩
  rw [h.2, rest_cons l i hi, cutA, if_neg hc]
  congr 2
  rw [List.take_succ_eq_append_getElem (by omega), List.drop_append_of_le_length (by simp; omega)]
/-- The piece that ends here. -/
def pieceL (l : List UInt8) (f i : Nat) : List UInt8 := (l.take i).drop f
theorem Pos.take {l : List UInt8} {f i : Nat} {L : List Int} (h : Pos l f i L) (hi : i < l.length) (hc : i < l.length - 1 → l[i] = 44) :
    Pos l (i + 1) (i + 1) (match nodeOf (pieceL l f i) with | some n => L ++ [n] | none => L) := by
  obtain ⟨ds, h1, h2, h | h⟩ := h
  rotate_left
  · omega
  refine ⟨ds ++ [pieceL l f i], by simp; omega, ?_, ?_⟩
  · rw [h2, List.filterMap_append]
    cases hn : nodeOf (pieceL l f i) <;> simp [hn]
  · by_cases hl : i < l.length - 1
    · refine .inl ⟨by omega, ?_⟩
      have e : (l.take (i + 1)).drop (i + 1) = [] := List.drop_eq_nil_of_le (by simp; omega)
      rw [h.2, rest_cons l i hl, cutA, if_pos (hc hl), e]
      simp [pieceL]
    · refine .inr ⟨by omega, ?_⟩
      have e : (l.take (l.length - 1)).drop i = [] := List.drop_eq_nil_of_le (by simp; omega)
      rw [h.2, e, cutA]
      rfl
theorem node_yes {p : List UInt8} {n : Int} {b : Bool} (h : NumR p n b) (hb : b = true) (h0 : 0 ≤ n) (h1 : n ≤ 127) : nodeOf p = some n := nodeOf_some.2 ⟨h0, by omega, (h.1 hb).1⟩
theorem node_no {p : List UInt8} {n : Int} {b : Bool} (h : NumR p n b) (hn : ¬ (b = true ∧ 0 ≤ n ∧ n ≤ 127)) : nodeOf p = none := by
  cases hq : nodeOf p with
  | none => rfl
  | some m =>
    obtain ⟨m0, m1, m2⟩ := nodeOf_some.1 hq
    obtain ⟨rfl, rfl⟩ := h.2 m (by omega) (by omega) m2
    exact absurd ⟨rfl, m0, by omega⟩ hn
theorem piece_data (l : ByteArray) (f i : Nat) : l.extract f i = bs (pieceL l.data.toList f i) := by
  apply ba_ext
  rw [ByteArray.data_extract, Array.toList_extract, List.extract_eq_take_drop]
  simp [bs, pieceL, List.drop_take]
set_option maxRecDepth 100000 in
set_option maxHeartbeats 8000000 in
theorem refRead_any (l : ByteArray) (s : Bt) (e : Int) (hR : BR l.data.toList s e) (w : World) :
    Calls Tryd.prog 20 #[.string l] w fun e' w' => e' = .returned (.tuple #[bv s, .int .i64 e]) ∧ Below w.heap.size w w' := by
  have hts := ts l
  go_enter Tryd.func20, Tryd.ntmps20
  by_cases h2 : l.size < 2
  · have h2' : (l.size : Int) < 2 := by omega
    obtain ⟨rfl, rfl⟩ := bad_of l s e hR fun t ht => by have := text_len t; rw [ht, bs_size] at h2; omega
    go_wp2
    exact bodyPost_ret (res20 _ _ w.heap.size (0, 0) _ rfl rfl (by go_simp; rfl) (by go_simp; rfl)) rfl ⟨rfl, (Below.refl _ w).alloc (Nat.le_refl _) _⟩
  have h2' : ¬ ((l.size : Int) < 2) := by omega
  by_cases h2000 : 2000 < l.size
  · have h3' : (l.size : Int) > 2000 := by omega
    obtain ⟨rfl, rfl⟩ := bad_of l s e hR fun t ht => by have := text_len t; rw [ht, bs_size] at h2000; omega
    go_wp2
    exact bodyPost_ret (res20 _ _ w.heap.size (0, 0) _ rfl rfl (by go_simp; rfl) (by go_simp; rfl)) rfl ⟨rfl, (Below.refl _ w).alloc (Nat.le_refl _) _⟩
  have h3' : ¬ ((l.size : Int) > 2000) := by omega
  by_cases h123 : l[0].toNat = 123
  rotate_left
  · have hx : ((l[0].toNat : Int) != 123) = true := by simp; omega
    obtain ⟨rfl, rfl⟩ := bad_of l s e hR fun t ht => by
      subst ht
      exact h123 (congrArg UInt8.toNat (text_first t))
    go_wp2
    exact bodyPost_ret (res20 _ _ w.heap.size (0, 0) _ rfl rfl (by go_simp; rfl) (by go_simp; rfl)) rfl ⟨rfl, (Below.refl _ w).alloc (Nat.le_refl _) _⟩
  have hx0 : ((l[0].toNat : Int) != 123) = false := by rw [h123]; rfl
  by_cases h125 : l[l.size - 1].toNat = 125
  rotate_left
  · have hx : ((l[l.size - 1].toNat : Int) != 125) = true := by simp; omega
    obtain ⟨rfl, rfl⟩ := bad_of l s e hR fun t ht => by
      subst ht
      refine h125 ?_
      have h := congrArg UInt8.toNat (text_last t)
      have hz := bs_size (textL t)
      simp only [hz]
      exact h
    go_wp2
    exact bodyPost_ret (res20 _ _ w.heap.size (0, 0) _ rfl rfl (by go_simp; rfl) (by go_simp; rfl)) rfl ⟨rfl, (Below.refl _ w).alloc (Nat.le_refl _) _⟩
  have hx1 : ((l[l.size - 1].toNat : Int) != 125) = false := by rw [h125]; rfl
  go_wp2_with fail
  have hst := Pos.start l.data.toList (by omega)
  have hR0 : Arr (w.alloc (.cells #[.int .u64 0, .int .u64 0] 24)) w.heap.size (0, 0) := Arr.new w (0, 0)
  go_loopw [4, 5, 6] (fun v fv i wr => ∃ (k f : Nat) (L : List Int), i = .int .i64 k ∧ fv = .int .i64 f ∧ 1 ≤ f ∧ f ≤ k ∧ k ≤ l.size ∧ Pos l.data.toList f k L ∧ Row wr (w.heap.size + 1) v L ∧ Below w.heap.size w wr ∧ Arr wr w.heap.size (0, 0)) (fun _ _ i _ => (l.size - kO i).toNat)
  case atStart => exact ⟨1, 1, [], rfl, rfl, Nat.le_refl _, Nat.le_refl _, by omega, hst, by have := World.ownsRow_made (base := w.heap.size + 1) (e := 3) (size := 1) (w.alloc (.cells #[.int .u64 0, .int .u64 0] 24)) #[] 0 (by simp) (by simp [maxLen]) rfl; simpa [Row, ints] using this, ((Below.refl _ w).alloc (Nat.le_refl _) _).alloc (by simp) _, hR0.alloc (by simp) _⟩
  case round =>
    clear hst hR0
    obtain ⟨k, f, L, rfl, rfl, hf1, hfk, hk, hP, hrow, hb, hA⟩ := hrel
    by_cases hlt : k < l.size
    · have hPl := hP.len
      by_cases hskip : l[k] ≠ 44 ∧ k < l.size - 1
      · have hx : ((l[k].toNat : Int) != 44) = true := by
          have : l[k].toNat ≠ 44 := fun h => hskip.1 (UInt8.toNat_inj.1 h)
          simp
          omega
        have hk1 : (k : Int) < (l.size : Int) - 1 := by omega
        go_wp2_with fail
        go_roundw
        case rel => exact ⟨k + 1, f, L, rfl, rfl, hf1, by omega, by omega, hP.skip hfk (by omega) hskip.1, hrow, hb, hA⟩
        case measure => simp only [kO]; omega
      · have hP2 := hP.take (by omega) (fun h => by
          refine Classical.byContradiction fun hn => hskip ⟨hn, by omega⟩)
        by_cases h44 : l[k].toNat = 44
        · have hx : ((l[k].toNat : Int) != 44) = false := by rw [h44]; rfl
          go_wp2_with fail
          rw [piece_data l f k]
          refine (Number_any (pieceL l.data.toList f k) wr).mono ?_
          rintro e' w2 ⟨n, b, rfl, hN, hb2⟩
          have hrow2 := hrow.below hb2
          have hB2 := hb.trans (hb2.mono hb.size)
          have hA2 := hA.below hb2
          have hs2 : w.heap.size < w2.heap.size := by have := hB2.size; have := World.block_lt_of_cell? _ _ hA2.1; exact this
          by_cases hg : b = true ∧ 0 ≤ n ∧ n ≤ 127
          · obtain ⟨rfl, h0, h1⟩ := hg
            rw [node_yes hN rfl h0 h1] at hP2
            have hrow3 : Row (w2.alloc (.cells #[.int .i64 n] 3)) (w.heap.size + 1) u4 L := hrow2.below ((Below.refl _ _).alloc (Nat.le_refl _) _)
            have hsl : SlR (w2.alloc (.cells #[.int .i64 n] 3)) 1 (.slice (some ⟨w2.heap.size, 0, none⟩) 1 1) 1 (ints [n]) :=
              SlR.of_owns (World.ownsRow_lit (base := 0) (e := 3) (size := 1) w2 #[.int .i64 n] 1 (Nat.zero_le _) (by simp [maxLen]) rfl)
            go_wp2_with (at_builtin; refine wpList_append_sl rfl _ _ 29 3 rfl (w.heap.size + 1) (.int .i64 0) 1 8 Tryd.underlying29 info3 rfl (by decide) (by decide) u4 _ _ rfl hrow3 _ 1 (ints [n]) rfl hsl (ints_one _) (by omega) (by simp; omega) ?_; intro v1 w3 hown3 hgr hat)
            go_roundw
            case rel => exact ⟨k + 1, k + 1, L ++ [n], rfl, rfl, by omega, by omega, by omega, hP2, Row.of_append hown3, row_below hrow3 (hB2.alloc (by omega) _) hgr (by omega) (by simp; omega), row_arr hrow3 (hA2.alloc hs2 _) hgr (by omega)⟩
            case measure => simp only [kO]; omega
          · rw [node_no hN hg] at hP2
            cases b with
            | false =>
              go_wp2_with fail
              go_roundw
              case rel => exact ⟨k + 1, k + 1, L, rfl, rfl, by omega, by omega, by omega, hP2, hrow2, hB2, hA2⟩
              case measure => simp only [kO]; omega
            | true =>
              by_cases h0 : 0 ≤ n
              · have h1 : ¬ (n ≤ 127) := fun h1 => hg ⟨rfl, h0, h1⟩
                go_wp2_with fail
                go_roundw
                case rel => exact ⟨k + 1, k + 1, L, rfl, rfl, by omega, by omega, by omega, hP2, hrow2, hB2, hA2⟩
                case measure => simp only [kO]; omega
              · go_wp2_with fail
                go_roundw
                case rel => exact ⟨k + 1, k + 1, L, rfl, rfl, by omega, by omega, by omega, hP2, hrow2, hB2, hA2⟩
                case measure => simp only [kO]; omega
        · have hx : ((l[k].toNat : Int) != 44) = true := by simp; omega
          have hk1 : ¬ ((k : Int) < (l.size : Int) - 1) := by
            intro h
            exact hskip ⟨fun he => h44 (by rw [he]; rfl), by omega⟩
          go_wp2_with fail
          rw [piece_data l f k]
          refine (Number_any (pieceL l.data.toList f k) wr).mono ?_
          rintro e' w2 ⟨n, b, rfl, hN, hb2⟩
          have hrow2 := hrow.below hb2
          have hB2 := hb.trans (hb2.mono hb.size)
          have hA2 := hA.below hb2
          have hs2 : w.heap.size < w2.heap.size := by have := hB2.size; have := World.block_lt_of_cell? _ _ hA2.1; exact this
          by_cases hg : b = true ∧ 0 ≤ n ∧ n ≤ 127
          · obtain ⟨rfl, h0, h1⟩ := hg
            rw [node_yes hN rfl h0 h1] at hP2
            have hrow3 : Row (w2.alloc (.cells #[.int .i64 n] 3)) (w.heap.size + 1) u4 L := hrow2.below ((Below.refl _ _).alloc (Nat.le_refl _) _)
            have hsl : SlR (w2.alloc (.cells #[.int .i64 n] 3)) 1 (.slice (some ⟨w2.heap.size, 0, none⟩) 1 1) 1 (ints [n]) :=
              SlR.of_owns (World.ownsRow_lit (base := 0) (e := 3) (size := 1) w2 #[.int .i64 n] 1 (Nat.zero_le _) (by simp [maxLen]) rfl)
            go_wp2_with (at_builtin; refine wpList_append_sl rfl _ _ 29 3 rfl (w.heap.size + 1) (.int .i64 0) 1 8 Tryd.underlying29 info3 rfl (by decide) (by decide) u4 _ _ rfl hrow3 _ 1 (ints [n]) rfl hsl (ints_one _) (by omega) (by simp; omega) ?_; intro v1 w3 hown3 hgr hat)
            go_roundw
            case rel => exact ⟨k + 1, k + 1, L ++ [n], rfl, rfl, by omega, by omega, by omega, hP2, Row.of_append hown3, row_below hrow3 (hB2.alloc (by omega) _) hgr (by omega) (by simp; omega), row_arr hrow3 (hA2.alloc hs2 _) hgr (by omega)⟩
            case measure => simp only [kO]; omega
          · rw [node_no hN hg] at hP2
            cases b with
            | false =>
              go_wp2_with fail
              go_roundw
              case rel => exact ⟨k + 1, k + 1, L, rfl, rfl, by omega, by omega, by omega, hP2, hrow2, hB2, hA2⟩
              case measure => simp only [kO]; omega
            | true =>
              by_cases h0 : 0 ≤ n
              · have h1 : ¬ (n ≤ 127) := fun h1 => hg ⟨rfl, h0, h1⟩
                go_wp2_with fail
                go_roundw
                case rel => exact ⟨k + 1, k + 1, L, rfl, rfl, by omega, by omega, by omega, hP2, hrow2, hB2, hA2⟩
                case measure => simp only [kO]; omega
              · go_wp2_with fail
                go_roundw
                case rel => exact ⟨k + 1, k + 1, L, rfl, rfl, by omega, by omega, by omega, hP2, hrow2, hB2, hA2⟩
                case measure => simp only [kO]; omega
    · obtain rfl : k = l.size := by omega
      have hLeq : L = (cutA 44 [] (innerL l.data.toList)).filterMap nodeOf := by
        refine Pos.done (f := f) ?_
        rw [hts]
        exact hP
      have hgood : e = 0 → L = eachL s ∧ l = bs (textL s) := by
        intro he
        rcases hR with ⟨_, h⟩ | ⟨_, h, _⟩
        · exact ⟨by rw [hLeq, h]; exact nodes_text s, by rw [← h, bs_self]⟩
        · omega
      have hback : (∃ t, l = bs (textL t)) → e = 0 := by
        rintro ⟨t, rfl⟩
        rcases hR with ⟨h, _⟩ | ⟨_, _, h⟩
        · exact h
        · exact absurd rfl (h t)
      have hbad : e ≠ 0 → s = (0, 0) ∧ e = 11 := by
        intro he
        rcases hR with ⟨h, _⟩ | ⟨h, h', _⟩
        · exact absurd h he
        · exact ⟨h, h'⟩
      clear hR hP hLeq
      obtain ⟨la, lc, rfl, hsl⟩ := hrow.form
      have hof := refOf_any la lc L wr hsl
      obtain ⟨t, ht⟩ : ∃ t, Hid ((ofR L (0, 0)).1 = t) := ⟨_, Lib.hid rfl⟩
      obtain ⟨q, hq⟩ : ∃ q, (ofR L (0, 0)).2 = q := ⟨_, rfl⟩
      rw [ht.out, hq] at hof
      clear hq hrow
      have htx := fun W => refText_any t W
      unfold bv at hof htx
      go_wp2_with fail
      refine hof.mono ?_
      rintro e' w2 ⟨rfl, hb2⟩
      have hB2 := hb.trans (hb2.mono hb.size)
      have hA2 := hA.below hb2
      clear hof hA hb
      go_wp2_with fail
      refine (htx _).mono ?_
      rintro e' w3 ⟨rfl, hb3⟩
      have hA3 := (hA2.alloc (World.block_lt_of_cell? _ _ hA2.1) (.cells #[.int .u64 (u t.1), .int .u64 (u t.2)] 24)).below hb3
      have hT3 : Arr w3 w2.heap.size t := (Arr.new w2 t).below hb3
      have hB3 : Below w.heap.size w w3 := (hB2.alloc hB2.size _).trans (hb3.mono (by have := hB2.size; simp; omega))
      clear htx hA2
      obtain ⟨a0, a1, f0, f1⟩ := id hT3
      obtain ⟨b0, b1, g0, g1⟩ := id hA3
      obtain ⟨x, hx⟩ : ∃ x, Hid (bs (textL t) = x) := ⟨_, Lib.hid rfl⟩
      rw [hx.out]
      by_cases heq : x = l
      · have he0 : e = 0 := hback ⟨t, by rw [← heq, hx.out]⟩
        have hst : (x.toList == l.toList) = true := by rw [heq]; simp
        go_wp2_with fail
        have hts2 : t = s := by
          have := of_eachL s
          rw [← (hgood he0).1] at this
          rw [← ht.out]
          unfold ofR
          rw [this]
        rw [hts2, he0]
        have hr5 := (hA3.set0 s.1).set1 s.2
        exact bodyPost_ret (res20 _ _ w.heap.size s _ rfl rfl hr5.1 hr5.2.1) rfl ⟨rfl, (hB3.setCell (Nat.le_refl _) _).setCell (Nat.le_refl _) _⟩
      · have hst : (x.toList == l.toList) = false := by
          rw [← Bool.not_eq_true]
          intro h
          exact heq (ba_eq h)
        have hen : e ≠ 0 := fun he => heq (by
          have := of_eachL s
          rw [← (hgood he).1] at this
          have h2 : (ofR L (0, 0)).1 = s := by unfold ofR; rw [this]
          rw [← hx.out, (hgood he).2, ← ht.out, h2])
        obtain ⟨rfl, rfl⟩ := hbad hen
        go_wp2_with fail
        have hr5 := (hA3.set0 0).set1 0
        exact bodyPost_ret (res20 _ _ w.heap.size (0, 0) _ rfl rfl hr5.1 hr5.2.1) rfl ⟨rfl, (hB3.setCell (Nat.le_refl _) _).setCell (Nat.le_refl _) _⟩
end Go.Proofs.YthhinchifegofaaDoor
namespace Go.Proofs.YthhinchifegofaaDoor
open Go.RowKit Go.Lib

theorem eq_self (x1 x2 : UInt64) (w : World) : (Op.equalIn 10000 24 (.agg #[.int .u64 (u x1), .int .u64 (u x2)]) (.agg #[.int .u64 (u x1), .int .u64 (u x2)])).run Tryd.prog w = .ok true w := by
  rw [eq_bt4]
  simp
/-- A set in a block, for reading. -/
def Two (w : World) (B : Nat) (s : Bt) : Prop := w.cell? ⟨B, 0, none⟩ = some (.int .u64 (u s.1)) ∧ w.cell? ⟨B, 1, none⟩ = some (.int .u64 (u s.2))
theorem Two.below {w w' : World} {B : Nat} {s : Bt} (h : Two w B s) (b : Below w.heap.size w w') : Two w' B s :=
  ⟨(b.cell (World.block_lt_of_cell? _ _ h.1)).trans h.1, (b.cell (World.block_lt_of_cell? _ _ h.2)).trans h.2⟩
theorem Two.alloc {w : World} {B : Nat} {s : Bt} (h : Two w B s) (o : Obj) : Two (w.alloc o) B s := h.below ((Below.refl _ _).alloc (Nat.le_refl _) _)
theorem Two.new (w : World) (s : Bt) : Two (w.alloc (.cells #[.int .u64 (u s.1), .int .u64 (u s.2)] 24)) w.heap.size s := ⟨(Arr.new w s).1, (Arr.new w s).2.1⟩
set_option maxRecDepth 100000 in
set_option maxHeartbeats 8000000 in
theorem BitsTexts_walk (s : Bt) (l : ByteArray) (hl : l.size ≤ 1048576) (w : World) (hT : TabW w) (hV : VarsW w) :
    Calls Tryd.prog 5 #[bv s, .string l] w fun e' w' => e' = .returned (.bool true) ∧ Below w.heap.size w w' := by
  obtain ⟨x, e, hR⟩ := BR.total l.data.toList
  have HR := Lib.hid hR
  clear hR
  have hR2 : BR (bs (textL s)).data.toList s 0 := .inl ⟨rfl, rfl⟩
  have hz2 : (bs (textL s)).size ≤ 1048576 := by rw [bs_size]; have := text_len s; omega
  obtain ⟨T, hTx⟩ : ∃ T, Hid (bs (textL s) = T) := ⟨_, Lib.hid rfl⟩
  rw [hTx.out] at hR2 hz2
  have HR2 := Lib.hid hR2
  clear hR2
  have htt := str_self T
  have f19a := fun W hT hV => Read_any l hl x e HR.out W hT hV
  have f19b := fun W hT hV => Read_any T hz2 s 0 HR2.out W hT hV
  have f20 := fun W => refRead_any l x e HR.out W
  have f21 := fun W hT hV => Text_any s W hT hV
  have f22 := fun W => refText_any s W
  rw [hTx.out] at f21 f22
  unfold bv at f19a f19b f20 f21 f22 ⊢
  have qx := eq_self x.1 x.2
  have qs := eq_self s.1 s.2
  go_enter Tryd.func5, Tryd.ntmps5
  go_wp2_with fail
  obtain ⟨W0, hW0⟩ : ∃ W0, W0 = w.alloc (.cells #[.int .u64 (u s.1), .int .u64 (u s.2)] 24) := ⟨_, rfl⟩
  have hb0 : Below w.heap.size w W0 := by rw [hW0]; exact (Below.refl _ w).alloc (Nat.le_refl _) _
  have c0 : Two W0 w.heap.size s := by rw [hW0]; exact Two.new w s
  rw [← hW0]
  clear hW0
  refine (f19a W0 (hT.below hb0) (hV.below hb0)).mono ?_
  rintro e' w1 ⟨rfl, hb1⟩
  replace c0 := c0.below hb1
  replace hb0 := hb0.trans (hb1.mono hb0.size)
  clear hb1
  obtain ⟨c00, c01⟩ := id c0
  go_wp2_with fail
  clear c00 c01
  obtain ⟨X, hX⟩ : ∃ X, X = w1.heap.size := ⟨_, rfl⟩
  have cx := Two.new w1 x
  rw [← hX] at cx ⊢
  have ha : Below w1.heap.size w1 (w1.alloc (.cells #[.int .u64 (u x.1), .int .u64 (u x.2)] 24)) := (Below.refl _ _).alloc (Nat.le_refl _) _
  replace c0 := c0.below ha
  replace hb0 := hb0.trans (ha.mono hb0.size)
  clear ha hX
  generalize w1.alloc (.cells #[.int .u64 (u x.1), .int .u64 (u x.2)] 24) = W1 at cx c0 hb0 ⊢
  refine (f20 W1).mono ?_
  rintro e' w2 ⟨rfl, hb1⟩
  replace c0 := c0.below hb1
  replace cx := cx.below hb1
  replace hb0 := hb0.trans (hb1.mono hb0.size)
  clear hb1
  obtain ⟨c00, c01⟩ := id c0
  obtain ⟨cx0, cx1⟩ := id cx
  obtain ⟨c0a, c0b⟩ := id (c0.alloc (.cells #[.int .u64 (u x.1), .int .u64 (u x.2)] 24))
  obtain ⟨cxa, cxb⟩ := id (cx.alloc (.cells #[.int .u64 (u x.1), .int .u64 (u x.2)] 24))
  go_wp2_with fail
  clear c00 c01 cx0 cx1 c0a c0b cxa cxb
  obtain ⟨Y, hY⟩ : ∃ Y, Y = w2.heap.size := ⟨_, rfl⟩
  have cy := Two.new w2 x
  rw [← hY] at cy ⊢
  have ha : Below w2.heap.size w2 (w2.alloc (.cells #[.int .u64 (u x.1), .int .u64 (u x.2)] 24)) := (Below.refl _ _).alloc (Nat.le_refl _) _
  replace c0 := c0.below ha
  replace cx := cx.below ha
  replace hb0 := hb0.trans (ha.mono hb0.size)
  clear ha hY
  generalize w2.alloc (.cells #[.int .u64 (u x.1), .int .u64 (u x.2)] 24) = W2 at cy c0 cx hb0 ⊢
  refine (f21 W2 (hT.below hb0) (hV.below hb0)).mono ?_
  rintro e' w3 ⟨rfl, hb1⟩
  replace c0 := c0.below hb1
  replace cx := cx.below hb1
  replace cy := cy.below hb1
  replace hb0 := hb0.trans (hb1.mono hb0.size)
  clear hb1
  obtain ⟨c00, c01⟩ := id c0
  obtain ⟨cx0, cx1⟩ := id cx
  obtain ⟨cy0, cy1⟩ := id cy
  go_wp2_with fail
  clear c00 c01 cx0 cx1 cy0 cy1
  refine (f19b w3 (hT.below hb0) (hV.below hb0)).mono ?_
  rintro e' w4 ⟨rfl, hb1⟩
  replace c0 := c0.below hb1
  replace cx := cx.below hb1
  replace cy := cy.below hb1
  replace hb0 := hb0.trans (hb1.mono hb0.size)
  clear hb1
  obtain ⟨c00, c01⟩ := id c0
  obtain ⟨cx0, cx1⟩ := id cx
  obtain ⟨cy0, cy1⟩ := id cy
  obtain ⟨c0a, c0b⟩ := id (c0.alloc (.cells #[.int .u64 (u s.1), .int .u64 (u s.2)] 24))
  obtain ⟨cxa, cxb⟩ := id (cx.alloc (.cells #[.int .u64 (u s.1), .int .u64 (u s.2)] 24))
  obtain ⟨cya, cyb⟩ := id (cy.alloc (.cells #[.int .u64 (u s.1), .int .u64 (u s.2)] 24))
  go_wp2_with fail
  clear c00 c01 cx0 cx1 cy0 cy1 c0a c0b cxa cxb cya cyb
  obtain ⟨Z, hZ⟩ : ∃ Z, Z = w4.heap.size := ⟨_, rfl⟩
  have cz := Two.new w4 s
  rw [← hZ] at cz ⊢
  have ha : Below w4.heap.size w4 (w4.alloc (.cells #[.int .u64 (u s.1), .int .u64 (u s.2)] 24)) := (Below.refl _ _).alloc (Nat.le_refl _) _
  replace c0 := c0.below ha
  replace cx := cx.below ha
  replace cy := cy.below ha
  replace hb0 := hb0.trans (ha.mono hb0.size)
  clear ha hZ
  generalize w4.alloc (.cells #[.int .u64 (u s.1), .int .u64 (u s.2)] 24) = W4 at cz c0 cx cy hb0 ⊢
  refine (awake_true W4).mono ?_
  rintro e' w5 ⟨rfl, hb1⟩
  replace c0 := c0.below hb1
  replace cx := cx.below hb1
  replace cy := cy.below hb1
  replace cz := cz.below hb1
  replace hb0 := hb0.trans (hb1.mono hb0.size)
  clear hb1
  obtain ⟨c00, c01⟩ := id c0
  obtain ⟨cx0, cx1⟩ := id cx
  obtain ⟨cy0, cy1⟩ := id cy
  obtain ⟨cz0, cz1⟩ := id cz
  go_wp2_with fail
  clear c00 c01 cx0 cx1 cy0 cy1 cz0 cz1
  refine (f22 w5).mono ?_
  rintro e' w6 ⟨rfl, hb1⟩
  replace c0 := c0.below hb1
  replace cx := cx.below hb1
  replace cy := cy.below hb1
  replace cz := cz.below hb1
  replace hb0 := hb0.trans (hb1.mono hb0.size)
  clear hb1
  obtain ⟨c00, c01⟩ := id c0
  obtain ⟨cx0, cx1⟩ := id cx
  obtain ⟨cy0, cy1⟩ := id cy
  obtain ⟨cz0, cz1⟩ := id cz
  go_wp2_with fail
  go_ret
  exact ⟨rfl, hb0⟩
end Go.Proofs.YthhinchifegofaaDoor
