/- The law HeapDrops. -/
import Derived.Test.YtpapknmkiampgaaN
namespace Go.Proofs.Ytpapknmkiampgaa
open Go.RowKit

def enc8 (m : Nat) : List Value := [.int .u8 m]
theorem enc8_at (ds : List Nat) (j : Nat) (h : j < ds.length) : (ds.flatMap enc8)[j]? = some (.int .u8 (ds[j] : Nat)) := by
  have : ds.flatMap enc8 = ds.map fun m => Value.int .u8 (m : Nat) := by
    clear h
    induction ds with
    | nil => rfl
    | cons d ds ih => rw [List.flatMap_cons, ih]; rfl
  rw [this]
  simp [h]
theorem SlR.cellAt {w : World} {sz : Nat} {a : Option Addr} {n cap : Nat} {cs : List Value} (h : SlR w sz (.slice a n cap) n cs) {j : Nat} {u : Value} (hj : cs[j]? = some u) : ∃ b off, a = some ⟨b, off, none⟩ ∧ w.cell? ⟨b, off + j, none⟩ = some u := by
  obtain ⟨_, _, a', cap', he, _, hc⟩ := h
  injection he with h1 h2 h3
  subst h1
  rcases hc with hc | ⟨b, off, rfl, hc⟩
  · rw [hc] at hj; simp at hj
  · exact ⟨b, off, rfl, hc _ _ hj⟩

/-- What is in the heap: the entries that are not gone. -/
def Gone (xs : List Int) (N : Nat) (f : Nat → Bool) (L : List En) : Prop := (∀ e, e ∈ L ↔ (e ∈ ents xs N ∧ f e.2 = false)) ∧ ∀ k, f k = true → k < N

/-- The state of HeapDrops. -/
def DropS (w : World) (H D : Nat) (f : Nat → Bool) (L : List En) (wr : World) : Prop :=
  ∃ v, HB wr H v L ∧ Seen wr D f ∧ Below w.heap.size w wr ∧ (∀ g, v.ownBlock = some g → w.heap.size ≤ g) ∧ Far H v D none
theorem DropS.step {w wr w2 : World} {H D : Nat} {f : Nat → Bool} {v : Value} {L : List En} (hS : HStep H v L wr w2) (hb : Below w.heap.size w wr) (hH : w.heap.size ≤ H)
    (hg : ∀ g, v.ownBlock = some g → w.heap.size ≤ g) (hF : Far H v D none) (hSe : Seen wr D f) : DropS w H D f L w2 := by
  obtain ⟨v', h1, h2, h3, h4, h5, _⟩ := sort_step hS hb hH hg hF hSe ((World.ownsRow_nil wr w.heap.size 3 1))
  exact ⟨v', h1, h5, h2, h3, h4⟩
theorem DropS.set {w wr : World} {H D : Nat} {f : Nat → Bool} {L : List En} (h : DropS w H D f L wr) (hD : w.heap.size ≤ D) (n : Nat) :
    DropS w H D (fun j => decide (j = n) || f j) L (wr.setCell ⟨D, n, none⟩ (.bool true)) := by
  obtain ⟨v, h1, h2, h3, h4, h5⟩ := h
  have hK : Keep (fun k => k = D) wr (wr.setCell ⟨D, n, none⟩ (.bool true)) := (Keep.refl (fun k => k = D) wr).setCell ⟨D, n, none⟩ _ (.inl rfl)
  exact ⟨v, h1.keep hK h5.1 (fun g a b => (h5.2.2 g a).1 b), h2.set n, h3.setCell (show w.heap.size ≤ (⟨D, n, none⟩ : Addr).block from hD) _, h4, h5⟩

theorem Drop_len (H : Nat) (v : Value) (L : List En) (n : Nat) (x : Int) (w : World) (hx : x = n) (h : HB w H v L) (hn : n < 128) (hL : ∃ a ∈ L, a.2 = n) :
    Calls Try.prog 10 #[.pointer (some ⟨H, 0, none⟩), .int .i64 x] w fun e w' => e = .returned (.int .i64 0) ∧ HStep H v (L.filter fun x => x.2 != n) w w' ∧ (L.filter fun x => x.2 != n).length + 1 = L.length := by
  subst hx
  obtain ⟨s, h1, h2⟩ := h
  obtain ⟨i, a, hi, ha, e, haL⟩ := h2.place ((h2.there n).2 hL)
  have hpos := List.length_pos_of_mem haL
  obtain ⟨b, hb⟩ := h2.last (by omega)
  refine (drop_some H v s n i a b w h1 hn hi ha hb).mono ?_
  rintro e' w' ⟨he, v', h3, h4, h5⟩
  have h6 := h2.drop ha hb
  rw [e] at h6
  refine ⟨he, ⟨v', ⟨_, h3, h6⟩, h5, .inl h4⟩, ?_⟩
  have h7 := h6.length
  rw [take_len, h2.length] at h7
  omega

theorem Gone.drop {xs : List Int} {N : Nat} {f : Nat → Bool} {L : List En} (h : Gone xs N f L) {k : Nat} (hk : k < N) : Gone xs N (fun j => decide (j = k) || f j) (L.filter fun x => x.2 != k) := by
  obtain ⟨h1, h2⟩ := h
  constructor
  · intro e
    rw [List.mem_filter, h1 e]
    by_cases he : e.2 = k
    · simp [he]
    · simp [he]
  · intro j hj
    by_cases he : j = k
    · omega
    · simp only [he, decide_false, Bool.false_or] at hj
      exact h2 j hj
theorem Gone.pop {xs : List Int} {N : Nat} {f : Nat → Bool} {a : En} {L : List En} (h : Gone xs N f (a :: L)) (hs : Srt (a :: L)) (hinj : ∀ x ∈ a :: L, x.2 = a.2 → x = a) : Gone xs N (fun j => decide (j = a.2) || f j) L := by
  obtain ⟨h1, h2⟩ := h
  have ha := (h1 a).1 (by simp)
  have hnot : a ∉ L := fun hm => by
    have := (List.pairwise_cons.1 hs).1 a hm
    rw [be_irrefl] at this
    cases this
  constructor
  · intro e
    by_cases he : e.2 = a.2
    · simp only [he, decide_true, Bool.true_or]
      constructor
      · intro hm
        have := hinj e (List.mem_cons_of_mem _ hm) he
        subst this
        exact absurd hm hnot
      · rintro ⟨_, h⟩; cases h
    · simp only [he, decide_false, Bool.false_or]
      rw [← h1 e]
      constructor
      · exact fun hm => List.mem_cons_of_mem _ hm
      · intro hm
        rcases List.mem_cons.1 hm with rfl | hm
        · exact absurd rfl he
        · exact hm
  · intro j hj
    by_cases he : j = a.2
    · have := (ents_mem.1 ha.1).1
      omega
    · simp only [he, decide_false, Bool.false_or] at hj
      exact h2 j hj
theorem DropS.srt {w wr : World} {H D : Nat} {f : Nat → Bool} {L : List En} (h : DropS w H D f L wr) : Srt L := by
  obtain ⟨v, h1, _⟩ := h
  exact h1.srt

def Drop1 (xs : List Int) (w : World) (H D : Nat) (x : Value) (wr : World) : Prop := ∃ (n : Nat) (L : List En), x = .int .i64 n ∧ n ≤ min xs.length 128 ∧ L.Perm (ents xs n) ∧ DropS w H D (fun _ => false) L wr
def Drop2 (xs : List Int) (ds : List Nat) (w : World) (H D N : Nat) (x8 x9 : Value) (wr : World) : Prop :=
  ∃ (j : Nat) (f : Nat → Bool) (L : List En), x9 = .int .i64 j ∧ j ≤ ds.length ∧ x8 = .int .i64 L.length ∧ L.length ≤ 128 ∧ Gone xs N f L ∧ DropS w H D f L wr
def Drop3 (xs : List Int) (w : World) (H D N M : Nat) (x12 x13 : Value) (wr : World) : Prop :=
  ∃ (i : Nat) (f : Nat → Bool) (L : List En), x13 = .int .i64 i ∧ i + L.length = M ∧ Gone xs N f L ∧ DropS w H D f L wr ∧ ((i = 0 ∧ x12 = .int .i64 0) ∨ ∃ p : En, 0 < i ∧ x12 = .int .i64 p.1 ∧ ∀ e ∈ L, be p e = true)

set_option maxHeartbeats 8000000 in
set_option maxRecDepth 100000 in
theorem HeapDrops_walk (vs vd : Value) (xs : List Int) (ds : List Nat) (w : World) (h : SlR w 1 vs xs.length (ints xs)) (hd : SlR w 1 vd ds.length (ds.flatMap enc8)) (h8 : ∀ d ∈ ds, d ≤ 255) :
    Calls Try.prog 3 #[vs, vd] w fun e w' => e = .returned (.bool true) ∧ Below w.heap.size w w' := by
  obtain ⟨a, cap, rfl, hm, hc⟩ := h.form
  obtain ⟨a', cap', rfl, hm', hc'⟩ := hd.form
  have H8 : Veil (∀ d ∈ ds, d ≤ 255) := ⟨h8⟩
  clear h8 h hd
  go_enter Try.func3, Try.ntmps3
  go_wp2_with fail
  refine (awake_true w).mono ?_
  rintro e w1 ⟨rfl, hb1⟩
  go_wp2_with fail
  refine (New_any w1).mono ?_
  rintro e w2 ⟨rfl, hB, hb⟩
  have hst : Drop1 xs w w1.heap.size w2.heap.size (.int .i64 (0 : Nat)) (w2.alloc (.cells falses 4)) := by
    have hl := hB.lt
    refine ⟨0, [], rfl, Nat.zero_le _, List.Perm.refl _, _, hB.below ((Below.refl _ _).alloc (Nat.le_refl _) _), Seen.new w2, (hb1.trans (hb.mono hb1.size)).alloc (by have := hb1.size; have := hb.size; omega) _, (fun g h => by cases h), by omega, (fun b h => by cases h), (fun g h => by cases h)⟩
  have hH : w.heap.size ≤ w1.heap.size := hb1.size
  have hD : w.heap.size ≤ w2.heap.size := by have := hb.size; omega
  have hmk := make128 w2
  clear hb1 hB hb
  go_wp2_with fail
  generalize w2.alloc (.cells falses 4) = W3 at hst ⊢
  generalize w1.heap.size = H at hst hH ⊢
  generalize w2.heap.size = D at hst hD ⊢
  clear hmk
  go_loopw [7] (fun x wr => Drop1 xs w H D x wr) (fun x _ => 128 - (intOf x).toNat)
  case atStart => exact hst
  case round =>
    clear hst
    obtain ⟨n, L, rfl, hn, hP, v, hB, hSe, hb, hg, hF⟩ := hrel
    by_cases hlt : n < min xs.length 128
    · have h1 : n < xs.length := by omega
      have h2 : n < 128 := by omega
      obtain ⟨b, off, rfl, hcell⟩ := (hc.below hb).int_at n h1
      have hx : xs.getD n 0 = xs[n] := by simp [h1]
      go_wp2_with fail
      refine (Push_new H v L n _ xs[n] _ rfl hB h2 ?_).mono ?_
      · intro e he
        have := (ents_mem.1 (hP.subset he)).1
        omega
      rintro e w3 ⟨rfl, hS⟩
      have hD3 := DropS.step hS hb hH hg hF hSe
      clear hS hB hSe hb hg hF
      go_wp2
      go_roundw
      case rel => exact ⟨n + 1, _, by go_num, by omega, (ins_perm _ _).trans (by rw [ents_succ, hx]; exact (List.Perm.cons _ hP).trans (List.perm_append_singleton _ _).symm), hD3⟩
      case measure => simp [intOf]; omega
    · have hN : n = min xs.length 128 := by omega
      have hN1 : n ≤ xs.length := by omega
      have hN2 : n ≤ 128 := by omega
      have hlN : L.length = n := by rw [hP.length_eq, ents_len]
      have hst : Drop2 xs ds w H D n (.int .i64 n) (.int .i64 (0 : Nat)) wr :=
        ⟨0, fun _ => false, L, rfl, Nat.zero_le _, by rw [hlN], by omega, ⟨fun e => ⟨fun h => ⟨hP.subset h, rfl⟩, fun h => hP.symm.subset h.1⟩, fun k h => by cases h⟩, v, hB, hSe, hb, hg, hF⟩
      clear hN hlN hP hB hSe hb hg hF
      go_wp2_with fail
      all_goals
        go_loopw [8, 9] (fun x8 x9 wr => Drop2 xs ds w H D n x8 x9 wr) (fun _ x9 _ => ds.length - (intOf x9).toNat)
        case atStart => exact hst
        case round =>
          clear hst
          obtain ⟨j, f, L, rfl, hj, rfl, hL, hGo, v, hB, hSe, hb, hg, hF⟩ := hrel
          by_cases hjl : j < ds.length
          · obtain ⟨b, off, rfl, hcell⟩ := (hc'.below hb).cellAt (enc8_at ds j hjl)
            have hk := H8.out ds[j] (List.getElem_mem hjl)
            generalize ds[j] = k at hcell hk
            by_cases h127 : 127 < k
            · go_wp2_with fail
              refine (drop_out _ _ _ (.inr ⟨H, rfl⟩) (.inr (.inr (by omega)))).mono ?_
              rintro e w' ⟨rfl, rfl⟩
              go_wp2
              go_roundw
              case rel => exact ⟨j + 1, f, L, by go_num, by omega, rfl, hL, hGo, v, hB, hSe, hb, hg, hF⟩
              case measure => simp [intOf]; omega
            · have hk1 : k < 128 := by omega
              have hcs := (hSe k hk1).1
              have hfs := (hSe k hk1).2
              by_cases hin : k < n ∧ f k = false
              · obtain ⟨hkn, hfk⟩ := hin
                rw [hfk] at hcs
                have hex : ∃ a ∈ L, a.2 = k := ⟨(xs.getD k 0, k), (hGo.1 _).2 ⟨ents_mem.2 ⟨hkn, rfl⟩, hfk⟩, rfl⟩
                have hpos : 0 < L.length := by obtain ⟨a, ha, _⟩ := hex; exact List.length_pos_of_mem ha
                have HX := Lib.hid hex
                clear hex
                go_wp2_with fail
                refine (Drop_len H v L k _ _ (by omega) hB hk1 HX.out).mono ?_
                rintro e w4 ⟨rfl, hS, hl4⟩
                have hD4 := DropS.step hS hb hH hg hF hSe
                obtain ⟨v4, hB4, hSe4, _⟩ := id hD4
                have hcs4 := (hSe4 k hk1).1
                have hfs4 := (hSe4 k hk1).2
                rw [hfk] at hcs4
                have hD5 := hD4.set hD k
                have hG5 := hGo.drop hkn
                have hl5 : ((L.length : Int) - 1) = ((L.filter fun x => x.2 != k).length : Int) := by omega
                have HL5 := Lib.hid hl5
                have hl6 : (L.filter fun x => x.2 != k).length ≤ 128 := by omega
                clear hS hB hSe hb hg hF hB4 hSe4 hcs hfs hD4 hGo hfk hl5 hl4
                generalize (L.filter fun x => x.2 != k) = L5 at HL5 hD5 hG5 hl6
                go_wp2
                go_roundw
                case rel => exact ⟨j + 1, _, L5, by go_num, by omega, by rw [HL5.out], hl6, hG5, hD5⟩
                case measure => simp [intOf]; omega
              · have hno : ∀ a ∈ L, a.2 ≠ k := by
                  intro a ha e
                  obtain ⟨h1, h2⟩ := (hGo.1 a).1 ha
                  rw [e] at h2
                  have := (ents_mem.1 h1).1
                  exact hin ⟨by omega, h2⟩
                have HX := Lib.hid hno
                clear hno
                by_cases hkn : k < n
                · have hfk : f k = true := by
                    cases hfk : f k with
                    | true => rfl
                    | false => exact absurd ⟨hkn, hfk⟩ hin
                  rw [hfk] at hcs
                  clear hfk hin
                  go_wp2_with fail
                  refine (Drop_none H v L k _ _ (by omega) hB hk1 HX.out).mono ?_
                  rintro e w' ⟨rfl, rfl⟩
                  go_wp2
                  go_roundw
                  case rel => exact ⟨j + 1, f, L, by go_num, by omega, rfl, hL, hGo, v, hB, hSe, hb, hg, hF⟩
                  case measure => simp [intOf]; omega
                · clear hin
                  go_wp2_with fail
                  refine (Drop_none H v L k _ _ (by omega) hB hk1 HX.out).mono ?_
                  rintro e w' ⟨rfl, rfl⟩
                  go_wp2
                  all_goals
                    go_roundw
                    case rel => exact ⟨j + 1, f, L, by go_num, by omega, rfl, hL, hGo, v, hB, hSe, hb, hg, hF⟩
                    case measure => simp [intOf]; omega
          · go_wp2_with (go_at_call 11; refine (Len_any H v _ _ hB).mono ?_; rintro e w' ⟨rfl, rfl⟩)
            have hst : Drop3 xs w H D n L.length (.int .i64 0) (.int .i64 (0 : Nat)) wr := ⟨0, f, L, rfl, by omega, hGo, ⟨v, hB, hSe, hb, hg, hF⟩, .inl ⟨rfl, rfl⟩⟩
            generalize L.length = M at hst hL ⊢
            clear hGo hB hSe hb hg hF
            go_loopw [12, 13] (fun x12 x13 wr => Drop3 xs w H D n M x12 x13 wr) (fun _ x13 _ => M - (intOf x13).toNat)
            case atStart => exact hst
            case round =>
              clear hst
              obtain ⟨i, f, L, rfl, hi, hGo, ⟨v, hB, hSe, hb, hg, hF⟩, hpr⟩ := hrel
              by_cases hil : i < M
              · obtain ⟨a1, L1, rfl⟩ : ∃ a1 L1, L = a1 :: L1 := by
                  cases L with
                  | nil => simp at hi; omega
                  | cons a l => exact ⟨a, l, rfl⟩
                simp only [List.length_cons] at hi
                have haE := (hGo.1 a1).1 (by simp)
                obtain ⟨hn1, hk1⟩ := ents_mem.1 haE.1
                have hfa := haE.2
                have hkl : a1.2 < xs.length := by omega
                have hk2 : a1.1 = xs[a1.2] := by rw [hk1]; simp [hkl]
                have h128 : a1.2 < 128 := by omega
                obtain ⟨b, off, rfl, hcell⟩ := hc.int_at a1.2 hkl
                rw [← hk2] at hcell
                have hSrt := hB.srt
                have hG2 := hGo.pop hSrt (fun x hx e => hB.inj hx (by simp) e)
                have HF := Lib.hid hfa
                have HG := Lib.hid hG2
                clear hk1 hk2 haE hGo hfa hG2
                go_wp2_with fail
                refine (Pop_some H v a1 L1 _ hB).mono ?_
                rintro e w5 ⟨rfl, hS⟩
                have hD5 := DropS.step hS hb hH hg hF hSe
                obtain ⟨v5, hB5, hSe5, hb5, _⟩ := id hD5
                have cS := (hSe5 a1.2 h128).1
                have fS := (hSe5 a1.2 h128).2
                rw [HF.out] at cS
                have cK := (hb5.cell (World.block_lt_of_cell? _ _ hcell)).trans hcell
                have hD6 := hD5.set hD a1.2
                have hrel : ∀ x12 : Value, x12 = .int .i64 a1.1 → Drop3 xs w H D n M x12 (.int .i64 (i + 1 : Nat)) (w5.setCell ⟨D, a1.2, none⟩ (.bool true)) :=
                  fun x12 h12 => ⟨i + 1, _, L1, rfl, by omega, HG.out, hD6, .inr ⟨a1, by omega, h12, (List.pairwise_cons.1 hSrt).1⟩⟩
                have HR := Lib.hid hrel
                clear hS hB hSe hb hg hF hD5 hB5 hSe5 hb5 hD6 hrel HG HF
                rcases hpr with ⟨h0, rfl⟩ | ⟨q, h0, rfl, hq⟩
                · subst h0
                  go_wp2_with fail
                  exact ⟨HR.out _ rfl, by simp [intOf]; omega⟩
                · have hqa : be q a1 = true := hq a1 (by simp)
                  have hle : q.1 ≤ a1.1 := by rw [be_iff] at hqa; omega
                  have h0' : (0 : Int) < (i : Int) := by omega
                  have t1 : decide (a1.1 < q.1) = false := by simp; omega
                  clear hq hqa
                  go_wp2_with fail
                  exact ⟨HR.out _ rfl, by simp [intOf]; omega⟩
              · have hL0 : L = [] := List.eq_nil_of_length_eq_zero (by omega)
                subst hL0
                go_wp2_with (go_at_call 11; refine (Len_any H v _ _ hB).mono ?_; rintro e w' ⟨rfl, rfl⟩)
                go_ret
                exact ⟨rfl, hb⟩
end Go.Proofs.Ytpapknmkiampgaa
