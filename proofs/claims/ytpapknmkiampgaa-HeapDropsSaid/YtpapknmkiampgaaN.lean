/- The law HeapSorts. -/
import Derived.Test.YtpapknmkiampgaaK
import Derived.Deep.Onto
namespace Go.Proofs.Ytpapknmkiampgaa
open Go.RowKit

/-- The first n keys, each with its node. -/
def ents (xs : List Int) (n : Nat) : List En := (List.range n).map fun i => (xs.getD i 0, i)
theorem ents_succ (xs : List Int) (n : Nat) : ents xs (n + 1) = ents xs n ++ [(xs.getD n 0, n)] := by simp [ents, List.range_succ]
theorem ents_len (xs : List Int) (n : Nat) : (ents xs n).length = n := by simp [ents]
theorem ents_mem {xs : List Int} {n : Nat} {a : En} : a ∈ ents xs n ↔ a.2 < n ∧ a.1 = xs.getD a.2 0 := by
  simp only [ents, List.mem_map, List.mem_range]
  constructor
  · rintro ⟨i, hi, rfl⟩; exact ⟨hi, rfl⟩
  · rintro ⟨h1, h2⟩; exact ⟨a.2, h1, by rw [← h2]⟩

/-- The heap in which the first n keys were pushed. -/
def PushL (xs : List Int) (w : World) (H : Nat) (x : Value) (wr : World) : Prop :=
  ∃ (n : Nat) (v : Value) (L : List En), x = .int .i64 n ∧ n ≤ min xs.length 128 ∧ HB wr H v L ∧ L.Perm (ents xs n) ∧ Below w.heap.size w wr ∧ ∀ g, v.ownBlock = some g → w.heap.size ≤ g

/-- A row of bools. -/
def Seen (w : World) (D : Nat) (f : Nat → Bool) : Prop := ∀ j, j < 128 → w.cell? ⟨D, j, none⟩ = some (.bool (f j)) ∧ w.frozen? ⟨D, j, none⟩ = false

def falses : Array Value := Array.replicate 128 (.bool false)
theorem make128 (w : World) : (Instr.makeSlice 27 (.int .i64 128) (.int .i64 128)).run Try.prog w = .ok (.slice (some ⟨w.heap.size, 0, none⟩) 128 128) (w.alloc (.cells falses 4)) := by kernel_rfl
theorem Seen.new (w : World) : Seen (w.alloc (.cells falses 4)) w.heap.size (fun _ => false) :=
  fun j hj => ⟨new_cell w _ rfl _ _ j _ (by simp [falses, hj]), new_free w _ _ _⟩
theorem Seen.keep {w w' : World} {D : Nat} {f : Nat → Bool} {S : Nat → Prop} (h : Seen w D f) (k : Keep S w w') (hD : ¬ S D) : Seen w' D f :=
  fun j hj => ⟨k.cell (h j hj).1 hD, k.unfrozen (World.block_lt_of_cell? _ _ (h j hj).1) (h j hj).2 hD⟩
theorem Seen.set {w : World} {D : Nat} {f : Nat → Bool} (h : Seen w D f) (n : Nat) : Seen (w.setCell ⟨D, n, none⟩ (.bool true)) D (fun j => decide (j = n) || f j) := by
  intro j hj
  refine ⟨?_, by rw [World.frozen?_setCell]; exact (h j hj).2⟩
  by_cases e : j = n
  · subst e
    simp only [decide_true, Bool.true_or]
    exact World.cell?_setCell_same w _ _ (h j hj).1
  · have e' : decide (j = n) = false := by simpa using e
    simp only [e', Bool.false_or]
    rw [World.cell?_setCell_other _ _ _ _ (by intro e2; injection e2 with _ e3; exact e e3.symm)]
    exact (h j hj).1

/-- No block of the heap is D or that of the row oa. -/
def Far (H : Nat) (v : Value) (D : Nat) (oa : Option Addr) : Prop := H ≠ D ∧ (∀ b, oa = some b → b.block ≠ H ∧ b.block ≠ D) ∧ ∀ g, v.ownBlock = some g → g ≠ D ∧ ∀ b, oa = some b → b.block ≠ g

/-- The second loop of HeapSorts: i entries are out. -/
def SortL (w : World) (H D : Nat) (oa : Option Addr) (oc : Nat) (L : List En) (x7 x8 x9 : Value) (wr : World) : Prop :=
  ∃ (i : Nat) (v : Value), x9 = .int .i64 i ∧ i ≤ L.length ∧ HB wr H v (L.drop i) ∧ Seen wr D (fun j => (L.take i).any fun e => decide (e.2 = j)) ∧ wr.ownsRow w.heap.size 3 1 (.slice oa L.length oc) L.length (natL (L.map (·.2))) ∧
    Below w.heap.size w wr ∧ (∀ g, v.ownBlock = some g → w.heap.size ≤ g) ∧ Far H v D oa ∧ ((i = 0 ∧ x7 = .int .i64 0 ∧ x8 = .int .i64 (-1)) ∨ ∃ p, 0 < i ∧ L[i - 1]? = some p ∧ x7 = .int .i64 p.1 ∧ x8 = .int .i64 p.2)

theorem sort_step {w wr w2 : World} {H D : Nat} {v : Value} {oa : Option Addr} {oc n : Nat} {L : List En} {f : Nat → Bool} {cs : List Value} (hS : HStep H v L wr w2) (hb : Below w.heap.size w wr) (hH : w.heap.size ≤ H)
    (hg : ∀ g, v.ownBlock = some g → w.heap.size ≤ g) (hF : Far H v D oa) (hSe : Seen wr D f) (ho : wr.ownsRow w.heap.size 3 1 (.slice oa n oc) n cs) :
    ∃ v', HB w2 H v' L ∧ Below w.heap.size w w2 ∧ (∀ g, v'.ownBlock = some g → w.heap.size ≤ g) ∧ Far H v' D oa ∧ Seen w2 D f ∧ w2.ownsRow w.heap.size 3 1 (.slice oa n oc) n cs := by
  obtain ⟨v', h1, h2, h3⟩ := hS
  obtain ⟨hF1, hF2, hF3⟩ := hF
  have hDl : D < wr.heap.size := World.block_lt_of_cell? _ _ (hSe 0 (by omega)).1
  have nD : ¬ (D = H ∨ v.ownBlock = some D) := by
    rintro (e | e)
    · exact hF1 e.symm
    · exact (hF3 D e).1 rfl
  have nO : ∀ k, (Value.slice oa n oc).ownBlock = some k → ¬ (k = H ∨ v.ownBlock = some k) := by
    intro k hk hn
    cases oa with
    | none => cases hk
    | some b =>
      injection hk with hk
      subst hk
      rcases hn with e | e
      · exact (hF2 b rfl).1 e
      · exact (hF3 b.block e).2 b rfl rfl
  refine ⟨v', h1, Go.Proofs.Ytpapknmkiampgaa.Below.keep hb hb.size h2 (by rintro i (e | e); omega; exact hg i e), fun g hg' => ?_, ⟨hF1, hF2, fun g hg' => ?_⟩, hSe.keep h2 nD, h2.owns ho nO⟩
  · rcases h3 with e | ⟨g', e, h4⟩
    · rw [e] at hg'; exact hg g hg'
    · rw [e] at hg'
      injection hg' with hg'
      have := hb.size
      omega
  · rcases h3 with e | ⟨g', e, h4⟩
    · rw [e] at hg'; exact hF3 g hg'
    · rw [e] at hg'
      injection hg' with hg'
      subst hg'
      refine ⟨by omega, fun b hb' => ?_⟩
      have := (ho.lt b.block (by rw [hb']; rfl)).2
      omega
theorem sort_end {w : World} {D i : Nat} {L : List En} {a : En} (ha : L[i]? = some a) (h : Seen w D (fun j => decide (j = a.2) || (L.take i).any fun e => decide (e.2 = j))) : Seen w D (fun j => (L.take (i + 1)).any fun e => decide (e.2 = j)) := by
  have : (fun j => (L.take (i + 1)).any fun e => decide (e.2 = j)) = (fun j => decide (j = a.2) || (L.take i).any fun e => decide (e.2 = j)) := by
    funext j
    rw [List.take_add_one, ha]
    simp only [Option.toList_some, List.any_append, List.any_cons, List.any_nil, Bool.or_false]
    rw [Bool.or_comm]
    congr 1
    exact decide_eq_decide.2 ⟨Eq.symm, Eq.symm⟩
  rw [this]
  exact h
theorem srt_next {L : List En} {i : Nat} {q a : En} (hs : Srt L) (h0 : 0 < i) (hq : L[i - 1]? = some q) (ha : L[i]? = some a) : be q a = true := by
  have hjl := (List.getElem?_eq_some_iff.1 hq).1
  have hil := (List.getElem?_eq_some_iff.1 ha).1
  have := List.pairwise_iff_getElem.1 hs (i - 1) i hjl hil (by omega)
  rw [(List.getElem?_eq_some_iff.1 hq).2, (List.getElem?_eq_some_iff.1 ha).2] at this
  exact this
theorem natL_at (L : List En) (i : Nat) (a : En) (h : L[i]? = some a) : (natL (L.map (·.2)))[i]? = some (.int .i64 a.2) := by
  simp [natL, ints, h]
theorem seen_no {L : List En} {i : Nat} {a : En} (hs : Srt L) (hi : ∀ x ∈ L, x.2 = a.2 → x = a) (ha : L[i]? = some a) : ((L.take i).any fun e => decide (e.2 = a.2)) = false := by
  rw [← Bool.not_eq_true]
  intro h
  simp only [List.any_eq_true, decide_eq_true_eq] at h
  obtain ⟨e, he, e2⟩ := h
  have he2 := hi e (List.mem_of_mem_take he) e2
  subst he2
  obtain ⟨j, hj⟩ := List.getElem?_of_mem he
  rw [List.getElem?_take] at hj
  split at hj
  · rename_i hji
    have hjl := (List.getElem?_eq_some_iff.1 hj).1
    have hil := (List.getElem?_eq_some_iff.1 ha).1
    have := List.pairwise_iff_getElem.1 hs j i hjl hil hji
    rw [(List.getElem?_eq_some_iff.1 hj).2, (List.getElem?_eq_some_iff.1 ha).2, be_irrefl] at this
    cases this
  · cases hj
set_option maxHeartbeats 4000000 in
set_option maxRecDepth 100000 in
theorem HeapSorts_walk (vs : Value) (xs : List Int) (w : World) (h : SlR w 1 vs xs.length (ints xs)) :
    Calls Try.prog 4 #[vs] w fun e w' => e = .returned (.bool true) ∧ Below w.heap.size w w' := by
  obtain ⟨a, cap, rfl, hm, hc⟩ := h.form
  go_enter Try.func4, Try.ntmps4
  go_wp2_with fail
  refine (awake_true w).mono ?_
  rintro e w1 ⟨rfl, hb1⟩
  go_wp2_with fail
  refine (New_any w1).mono ?_
  rintro e w2 ⟨rfl, hB, hb⟩
  have hst : PushL xs w w1.heap.size (.int .i64 (0 : Nat)) w2 := ⟨0, _, [], rfl, Nat.zero_le _, hB, List.Perm.refl _, hb1.trans (hb.mono hb1.size), fun g h => by cases h⟩
  have hH : w.heap.size ≤ w1.heap.size := hb1.size
  generalize w1.heap.size = H at hst hH ⊢
  clear hb1 hB hb h
  go_wp2_with fail
  go_loopw [4] (fun x wr => PushL xs w H x wr) (fun x _ => 128 - (intOf x).toNat)
  case atStart => exact hst
  case round =>
    clear hst
    obtain ⟨n, v, L, rfl, hn, hB, hP, hb, hg⟩ := hrel
    by_cases hlt : n < min xs.length 128
    · have h1 : n < xs.length := by omega
      have h2 : n < 128 := by omega
      obtain ⟨b, off, rfl, hcell⟩ := (hc.below hb).int_at n h1
      have hx : xs.getD n 0 = xs[n] := by simp [h1]
      go_wp2_with fail
      refine (Push_new H v L n _ xs[n] _ rfl hB h2 ?_).mono ?_
      · intro e he
        have := (ents_mem.1 (hP.subset he)).1
        omega
      rintro e w3 ⟨rfl, hS⟩
      obtain ⟨v3, hB3, hb3, hg3⟩ := hS.below hb hH hg
      go_wp2
      go_roundw
      case rel => exact ⟨n + 1, v3, _, by go_num, by omega, hB3, (ins_perm _ _).trans (by rw [ents_succ, hx]; exact (List.Perm.cons _ hP).trans (List.perm_append_singleton _ _).symm), hb3, hg3⟩
      case measure => simp [intOf]; omega
    · have hN : n = min xs.length 128 := by omega
      have HN := Lib.hid hN
      clear hN
      go_wp2_with fail
      all_goals
        refine (Nodes_any H v L _ hB).mono ?_
        rintro e w3 ⟨out, rfl, ho, hb3⟩
        obtain ⟨oa, oc, rfl⟩ := own_shape ho
        have hB3 := hB.below hb3
        have hb4 := hb.trans (hb3.mono hb.size)
        have hmk := make128 w3
        go_wp2_with (go_at_call 11; refine (Len_any H v _ _ hB3).mono ?_; rintro e w' ⟨rfl, rfl⟩)
        have hlN : L.length = n := by rw [hP.length_eq, ents_len]
        have hDw : w.heap.size ≤ w3.heap.size := hb4.size
        have hD : H ≠ w3.heap.size := by have := hB3.lt; omega
        have hst : SortL w H w3.heap.size oa oc L (.int .i64 0) (.int .i64 (-1)) (.int .i64 (0 : Nat)) (w3.alloc (.cells falses 4)) := by
          refine ⟨0, v, rfl, Nat.zero_le _, hB3.below ((Below.refl _ _).alloc (Nat.le_refl _) _), Seen.new w3, ?_, hb4.alloc hb4.size _, hg, ⟨hD, ?_, ?_⟩, .inl ⟨rfl, rfl, rfl⟩⟩
          · exact (ho.mono hb.size).alloc _
          · intro b hb'
            have := ho.lt b.block (by rw [hb']; rfl)
            have := hB.lt
            constructor <;> omega
          · intro g hgv
            have := hB.own_lt g hgv
            have := hb3.size
            refine ⟨by omega, fun b hb' => ?_⟩
            have := ho.lt b.block (by rw [hb']; rfl)
            omega
        have HL := Lib.hid hlN
        have hSrt := hB.srt
        have hInj := fun {a b : En} (ha : a ∈ L) (hb : b ∈ L) (e : a.2 = b.2) => hB.inj ha hb e
        clear ho hB3 hB hb3 hb4 hg hb hlN hmk
        have hPm : Veil (∀ e ∈ L, e.2 < n ∧ e.1 = xs.getD e.2 0) := ⟨fun e he => ents_mem.1 (hP.subset he)⟩
        have hNb : n ≤ xs.length ∧ n ≤ 128 := by have := HN.out; omega
        obtain ⟨hN1, hN2⟩ := hNb
        have hLn : L.length ≤ 128 := by have := HL.out; omega
        generalize w3.alloc (.cells falses 4) = W4 at hst ⊢
        generalize w3.heap.size = D at hst hD hDw ⊢
        clear hP HL HN hn
        go_loopw [7, 8, 9] (fun x7 x8 x9 wr => SortL w H D oa oc L x7 x8 x9 wr) (fun _ _ x9 _ => 128 - (intOf x9).toNat)
        case atStart => exact hst
        case round =>
          clear hst
          obtain ⟨i, v, rfl, hi, hB, hSe, ho, hb, hg, hF, hpr⟩ := hrel
          by_cases hil : i < L.length
          · obtain ⟨a1, ha⟩ : ∃ a1, Veil (L[i]? = some a1) := ⟨L[i], ⟨List.getElem?_eq_getElem hil⟩⟩
            have haL : a1 ∈ L := List.mem_of_getElem? ha.out
            have haI := ha
            have hdr : L.drop i = a1 :: L.drop (i + 1) := by
              rw [List.drop_eq_getElem_cons hil]
              congr 1
              exact (List.getElem?_eq_some_iff.1 ha.out).2
            rw [hdr] at hB
            obtain ⟨hn1, hk1⟩ := hPm.out a1 haL
            have hkl : a1.2 < xs.length := by omega
            have hk2 : a1.1 = xs[a1.2] := by rw [hk1]; simp [hkl]
            obtain ⟨b, off, rfl, hcell⟩ := hc.int_at a1.2 hkl
            obtain ⟨g1, oc1, hv1⟩ := own_form (by omega) ho
            injection hv1 with hv1 _ hv2
            subst hv1 hv2
            have hlg := (ho.lt g1 rfl).2
            have h128 : a1.2 < 128 := by omega
            go_wp2_with fail
            refine (Pop_some H v a1 (L.drop (i + 1)) _ hB).mono ?_
            rintro e w5 ⟨rfl, hS⟩
            obtain ⟨v5, hB5, hb5, hg5⟩ := id (hS.below hb hH hg)
            obtain ⟨v6, hB6, hb6, hg6, hF6, hSe6, ho6⟩ := sort_step hS hb hH hg hF hSe ho
            clear hS hB hb hg hF hSe ho hB5 hb5 hg5
            have cO := ho6.cellAt i (by omega)
            rw [natL_at L i a1 ha.out] at cO
            have cS := (hSe6 a1.2 h128).1
            have fS := (hSe6 a1.2 h128).2
            have hf0 : ((L.take i).any fun e => decide (e.2 = a1.2)) = false := seen_no hSrt (fun x hx e => hInj hx haL e) ha.out
            rw [show (fun j => (L.take i).any fun e => decide (e.2 = j)) a1.2 = false from hf0] at cS
            have cK := (hb6.cell (World.block_lt_of_cell? _ _ hcell)).trans hcell
            rw [← hk2] at cK
            have hSt := hSe6.set a1.2
            have hE := sort_end (L := L) (i := i) (a := a1) ha.out hSt
            have hK5 : Keep (fun k => k = D) w5 (w5.setCell ⟨D, a1.2, none⟩ (.bool true)) := (Keep.refl (fun k => k = D) w5).setCell ⟨D, a1.2, none⟩ _ (.inl rfl)
            have hB7 := hB6.keep hK5 hF6.1 (fun g h1 h2 => (hF6.2.2 g h1).1 h2)
            have ho7 := hK5.owns ho6 (fun k h1 h2 => (hF6.2.1 ⟨g1, 0, none⟩ rfl).2 (by injection h1 with h1; exact h1.trans h2))
            have hlD : w.heap.size ≤ D := hDw
            have hb7 := hb6.setCell (show w.heap.size ≤ (⟨D, a1.2, none⟩ : Addr).block from hlD) (.bool true)
            clear hSe6 hf0 hSt hB6 ho6 hb6 hk1 hk2 hdr hK5
            have hn0 : ((a1.2 : Int) < 0) = False := by simp
            have hrel : ∀ x7 x8 : Value, x7 = .int .i64 a1.1 → x8 = .int .i64 a1.2 → SortL w H D (some ⟨g1, 0, none⟩) oc L x7 x8 (.int .i64 (i + 1 : Nat)) (w5.setCell ⟨D, a1.2, none⟩ (.bool true)) :=
              fun x7 x8 h7 h8 => ⟨i + 1, v6, rfl, by omega, hB7, hE, ho7, hb7, hg6, hF6, .inr ⟨a1, by omega, by simpa using ha.out, h7, h8⟩⟩
            have HR := Lib.hid hrel
            clear hrel hE hB7 ho7 hb7
            clear ha
            rcases hpr with ⟨h0, rfl, rfl⟩ | ⟨q, h0, hq, rfl, rfl⟩
            · subst h0
              go_wp2_with fail
              exact ⟨HR.out _ _ rfl rfl, by simp [intOf]⟩
            · have hqa : be q a1 = true := srt_next hSrt h0 hq haI.out
              have HQ := Lib.hid hq
              clear hq
              have h0' : (0 : Int) < (i : Int) := by omega
              rcases (be_iff q a1).1 hqa with hlt1 | ⟨he1, hlt2⟩
              · have t1 : decide (a1.1 < q.1) = false := by simp; omega
                have t2 : (a1.1 == q.1) = false := by simp; omega
                go_wp2_with fail
                exact ⟨HR.out _ _ rfl rfl, by simp [intOf]; omega⟩
              · have t1 : decide (a1.1 < q.1) = false := by simp; omega
                have t2 : (a1.1 == q.1) = true := by simp; omega
                have t3 : decide ((a1.2 : Int) < (q.2 : Int)) = false := by simp; omega
                clear he1
                go_wp2_with fail
                exact ⟨HR.out _ _ rfl rfl, by simp [intOf]; omega⟩
          · have hiL : L.drop i = [] := List.drop_of_length_le (by omega)
            rw [hiL] at hB
            go_wp2_with fail
            refine (Pop_none H v _ hB).mono ?_
            rintro e w5 ⟨rfl, hb5⟩
            have hB5 := hB.below hb5
            have hb6 := hb.trans (hb5.mono hb.size)
            go_wp2_with (go_at_call 11; refine (Len_any H v _ _ hB5).mono ?_; rintro e w' ⟨rfl, rfl⟩)
            go_ret
            exact ⟨rfl, hb6⟩
end Go.Proofs.Ytpapknmkiampgaa
