/- The law HeapPlays: its state. -/
import Derived.Test.YtpapknmkiampgaaRF
import Derived.Test.YtpapknmkiampgaaMM
namespace Go.Proofs.Ytpapknmkiampgaa
open Go.RowKit
open Go.Proofs.Ytpapknmkiampgaa.PHeapPlays Go.Proofs.YtpapknmkiampgaaW.PrintWords Go.Proofs.YtpapknmkiampgaaW.PrintMore Go.Proofs.YtpapknmkiampgaaW.PrintLast

/-- The reference's list in a row of its own. -/
def RR (wr : World) (base : Nat) (r : Value) (L : List En) : Prop := Kd.R k79 79 wr base (fun k => r.ownBlock = some k) r (LS L)
theorem RR.of {wr : World} {base : Nat} {ok : Nat → Prop} {r : Value} {L : List En} (h : Kd.R k79 79 wr base ok r (LS L)) : RR wr base r L :=
  Kd.R_flat (fun {_ _ _ _} h => h) h (fun _ hk _ => hk)
/-- The blocks of a heap. -/
def Fp (H : Nat) (v : Value) (k : Nat) : Prop := k = H ∨ v.ownBlock = some k
def Dis (A B : Nat → Prop) : Prop := ∀ k, A k → ¬ B k
def Ow (r : Value) (k : Nat) : Prop := r.ownBlock = some k
/-- The blocks Xs lie as they lay. -/
def Same (Xs : List Nat) (a b : World) : Prop := ∀ X ∈ Xs, b.heap[X]? = a.heap[X]?
theorem Same.cell {Xs : List Nat} {a b : World} (h : Same Xs a b) {X i : Nat} {v : Value} (hX : X ∈ Xs) (hc : a.cell? ⟨X, i, none⟩ = some v) : b.cell? ⟨X, i, none⟩ = some v := by
  have := h X hX
  simpa [World.cell?, this] using hc
theorem Same.frozen {Xs : List Nat} {a b : World} (h : Same Xs a b) {X i : Nat} {v : Bool} (hX : X ∈ Xs) (hc : a.frozen? ⟨X, i, none⟩ = v) : b.frozen? ⟨X, i, none⟩ = v := by
  have := h X hX
  simpa [World.frozen?, this] using hc
theorem Same.trans {Xs : List Nat} {a b c : World} (h : Same Xs a b) (k : Same Xs b c) : Same Xs a c := fun X hX => (k X hX).trans (h X hX)
structure PS (w wr : World) (H : Nat) (v : Value) (G : Nat) (u r : Value) (Lh Lg Lr : List En) (Xs : List Nat) : Prop where
  ih : HB wr H v Lh
  ig : S.HB wr G u Lg
  ir : RR wr w.heap.size r Lr
  ib : Below w.heap.size w wr
  bh : ∀ k, Fp H v k → w.heap.size ≤ k
  bg : ∀ k, Fp G u k → w.heap.size ≤ k
  hg : Dis (Fp H v) (Fp G u)
  hr : Dis (Fp H v) (Ow r)
  gr : Dis (Fp G u) (Ow r)
  xs : ∀ X ∈ Xs, X < wr.heap.size ∧ w.heap.size ≤ X ∧ ¬ Fp H v X ∧ ¬ Fp G u X ∧ ¬ Ow r X
theorem PS.hlt {w wr : World} {H : Nat} {v : Value} {G : Nat} {u r : Value} {Lh Lg Lr : List En} {Xs : List Nat} (h : PS w wr H v G u r Lh Lg Lr Xs) : ∀ k, Fp H v k → k < wr.heap.size := by
  rintro k (rfl | e)
  · exact h.ih.lt
  · exact h.ih.own_lt k e
theorem PS.glt {w wr : World} {H : Nat} {v : Value} {G : Nat} {u r : Value} {Lh Lg Lr : List En} {Xs : List Nat} (h : PS w wr H v G u r Lh Lg Lr Xs) : ∀ k, Fp G u k → k < wr.heap.size := by
  rintro k (rfl | e)
  · exact h.ig.lt
  · exact h.ig.own_lt k e
theorem PS.rlt {w wr : World} {H : Nat} {v : Value} {G : Nat} {u r : Value} {Lh Lg Lr : List En} {Xs : List Nat} (h : PS w wr H v G u r Lh Lg Lr Xs) : ∀ k, Ow r k → k < wr.heap.size := Kd.R_lt h.ir
theorem keep_kept {S : Nat → Prop} {a b : World} (h : Keep S a b) : Kept a b S := ⟨h.size, h.block⟩
theorem keep_same {S : Nat → Prop} {Xs : List Nat} {a b : World} (h : Keep S a b) (hx : ∀ X ∈ Xs, X < a.heap.size ∧ ¬ S X) : Same Xs a b := fun X hX => h.block X (hx X hX).1 (hx X hX).2
theorem PS.below {w wr w2 : World} {H : Nat} {v : Value} {G : Nat} {u r : Value} {Lh Lg Lr : List En} {Xs : List Nat} (h : PS w wr H v G u r Lh Lg Lr Xs) (b : Below wr.heap.size wr w2) : PS w w2 H v G u r Lh Lg Lr Xs ∧ Same Xs wr w2 :=
  ⟨⟨h.ih.below b, h.ig.below b, Kd.R_below h.ir b, h.ib.trans (b.mono h.ib.size), h.bh, h.bg, h.hg, h.hr, h.gr, fun X hX => ⟨Nat.lt_of_lt_of_le (h.xs X hX).1 b.size, (h.xs X hX).2⟩⟩, fun X hX => b.block X (h.xs X hX).1⟩
theorem PS.alloc {w wr : World} {H : Nat} {v : Value} {G : Nat} {u r : Value} {Lh Lg Lr : List En} {Xs : List Nat} (h : PS w wr H v G u r Lh Lg Lr Xs) (o : Obj) : PS w (wr.alloc o) H v G u r Lh Lg Lr (wr.heap.size :: Xs) := by
  have h1 := (h.below ((Below.refl _ _).alloc (Nat.le_refl _) o)).1
  refine { h1 with xs := fun X hX => ?_ }
  rcases List.mem_cons.1 hX with rfl | hX
  · exact ⟨by simp, h.ib.size, fun e => by have := h.hlt _ e; omega, fun e => by have := h.glt _ e; omega, fun e => by have := h.rlt _ e; omega⟩
  · exact h1.xs X hX
theorem PS.stepH {w wr w2 : World} {H : Nat} {v : Value} {G : Nat} {u r : Value} {Lh Lg Lr L' : List En} {Xs : List Nat} (h : PS w wr H v G u r Lh Lg Lr Xs) (hs : HStep H v L' wr w2) :
    ∃ v', PS w w2 H v' G u r L' Lg Lr Xs ∧ Same Xs wr w2 := by
  obtain ⟨v', h1, hK, h3⟩ := hs
  have hF : ∀ k, Fp H v' k → Fp H v k ∨ wr.heap.size ≤ k := by
    rintro k (rfl | e)
    · exact .inl (.inl rfl)
    · rcases h3 with h3 | ⟨g, h3, hg⟩
      · exact .inl (.inr (h3 ▸ e))
      · rw [h3] at e; injection e with e; exact .inr (by omega)
  refine ⟨v', ⟨h1, h.ig.keep hK (fun e => h.hg _ e (.inl rfl)) (fun k hk e => h.hg _ e (.inr hk)), Kd.R_kept h.ir (keep_kept hK) (fun k hk e => h.hr _ e hk), Go.Proofs.Ytpapknmkiampgaa.Below.keep h.ib h.ib.size hK (fun k hk => h.bh k hk), ?_, h.bg, ?_, ?_, h.gr, ?_⟩, keep_same hK fun X hX => ⟨(h.xs X hX).1, (h.xs X hX).2.2.1⟩⟩
  · intro k hk
    rcases hF k hk with e | e
    · exact h.bh k e
    · exact Nat.le_trans h.ib.size e
  · intro k hk hk2
    rcases hF k hk with e | e
    · exact h.hg k e hk2
    · have := h.glt k hk2; omega
  · intro k hk hk2
    rcases hF k hk with e | e
    · exact h.hr k e hk2
    · have := h.rlt k hk2; omega
  · intro X hX
    obtain ⟨a1, a2, a3, a4, a5⟩ := h.xs X hX
    refine ⟨Nat.lt_of_lt_of_le a1 hK.size, a2, fun hk => ?_, a4, a5⟩
    rcases hF X hk with e | e
    · exact a3 e
    · omega
theorem PS.stepG {w wr w2 : World} {H : Nat} {v : Value} {G : Nat} {u r : Value} {Lh Lg Lr L' : List En} {Xs : List Nat} (h : PS w wr H v G u r Lh Lg Lr Xs) (hs : S.HStep G u L' wr w2) :
    ∃ u', PS w w2 H v G u' r Lh L' Lr Xs ∧ Same Xs wr w2 := by
  obtain ⟨u', h1, hK, h3⟩ := hs
  have hF : ∀ k, Fp G u' k → Fp G u k ∨ wr.heap.size ≤ k := by
    rintro k (rfl | e)
    · exact .inl (.inl rfl)
    · rcases h3 with h3 | ⟨g, h3, hg⟩
      · exact .inl (.inr (h3 ▸ e))
      · rw [h3] at e; injection e with e; exact .inr (by omega)
  refine ⟨u', ⟨h.ih.keep hK (fun e => h.hg _ (.inl rfl) e) (fun k hk e => h.hg _ (.inr hk) e), h1, Kd.R_kept h.ir (keep_kept hK) (fun k hk e => h.gr _ e hk), Go.Proofs.Ytpapknmkiampgaa.Below.keep h.ib h.ib.size hK (fun k hk => h.bg k hk), h.bh, ?_, ?_, h.hr, ?_, ?_⟩, keep_same hK fun X hX => ⟨(h.xs X hX).1, (h.xs X hX).2.2.2.1⟩⟩
  · intro k hk
    rcases hF k hk with e | e
    · exact h.bg k e
    · exact Nat.le_trans h.ib.size e
  · intro k hk hk2
    rcases hF k hk2 with e | e
    · exact h.hg k hk e
    · have := h.hlt k hk; omega
  · intro k hk hk2
    rcases hF k hk with e | e
    · exact h.gr k e hk2
    · have := h.rlt k hk2; omega
  · intro X hX
    obtain ⟨a1, a2, a3, a4, a5⟩ := h.xs X hX
    refine ⟨Nat.lt_of_lt_of_le a1 hK.size, a2, a3, fun hk => ?_, a5⟩
    rcases hF X hk with e | e
    · exact a4 e
    · omega
theorem PS.stepR {w wr w2 : World} {H : Nat} {v : Value} {G : Nat} {u r r' : Value} {Lh Lg Lr L' : List En} {Xs : List Nat} (h : PS w wr H v G u r Lh Lg Lr Xs)
    (hR : Kd.R k79 79 w2 w.heap.size (fun k => (Ow r k ∨ wr.heap.size ≤ k)) r' (LS L')) (hB : Below w.heap.size w w2) (hK : Kept wr w2 (Ow r)) :
    PS w w2 H v G u r' Lh Lg L' Xs ∧ Same Xs wr w2 := by
  have hKe : Keep (Ow r) wr w2 := ⟨hB.os.trans h.ib.os.symm, hB.tape.trans h.ib.tape.symm, hB.output.trans h.ib.output.symm, hK.1, hK.2⟩
  have hF : ∀ k, Ow r' k → Ow r k ∨ wr.heap.size ≤ k := hR.1
  refine ⟨⟨h.ih.keep hKe (fun e => h.hr _ (.inl rfl) e) (fun k hk e => h.hr _ (.inr hk) e), h.ig.keep hKe (fun e => h.gr _ (.inl rfl) e) (fun k hk e => h.gr _ (.inr hk) e), RR.of hR, hB, h.bh, h.bg, h.hg, ?_, ?_, ?_⟩, keep_same hKe fun X hX => ⟨(h.xs X hX).1, (h.xs X hX).2.2.2.2⟩⟩
  · intro k hk hk2
    rcases hF k hk2 with e | e
    · exact h.hr k hk e
    · have := h.hlt k hk; omega
  · intro k hk hk2
    rcases hF k hk2 with e | e
    · exact h.gr k hk e
    · have := h.glt k hk; omega
  · intro X hX
    obtain ⟨a1, a2, a3, a4, a5⟩ := h.xs X hX
    refine ⟨Nat.lt_of_lt_of_le a1 hK.1, a2, a3, a4, fun hk => ?_⟩
    rcases hF X hk with e | e
    · exact a5 e
    · omega
theorem PS.set {w wr : World} {H : Nat} {v : Value} {G : Nat} {u r : Value} {Lh Lg Lr : List En} {Xs : List Nat} (h : PS w wr H v G u r Lh Lg Lr Xs) {X : Nat} (hX : X ∈ Xs) (i : Nat) (x : Value) :
    PS w (wr.setCell ⟨X, i, none⟩ x) H v G u r Lh Lg Lr Xs := by
  obtain ⟨a1, a2, a3, a4, a5⟩ := h.xs X hX
  have hK : Keep (fun k => k = X) wr (wr.setCell ⟨X, i, none⟩ x) := (Keep.refl (fun k => k = X) wr).setCell ⟨X, i, none⟩ x (.inl rfl)
  exact ⟨h.ih.keep hK (fun e => a3 (.inl e.symm)) (fun k hk e => a3 (.inr (e ▸ hk))), h.ig.keep hK (fun e => a4 (.inl e.symm)) (fun k hk e => a4 (.inr (e ▸ hk))), Kd.R_kept h.ir (keep_kept hK) (fun k hk e => a5 (e ▸ hk)), h.ib.setCell (show w.heap.size ≤ (⟨X, i, none⟩ : Addr).block from a2) x, h.bh, h.bg, h.hg, h.hr, h.gr, fun Y hY => ⟨Nat.lt_of_lt_of_le (h.xs Y hY).1 hK.size, (h.xs Y hY).2⟩⟩
theorem PS.len {w wr : World} {H : Nat} {v : Value} {G : Nat} {u r : Value} {Lh Lg Lr : List En} {Xs : List Nat} (h : PS w wr H v G u r Lh Lg Lr Xs) : Lh.length ≤ 128 := h.ih.len
theorem PS.drop {w wr : World} {H : Nat} {v : Value} {G : Nat} {u r : Value} {Lh Lg Lr : List En} {X : Nat} {Xs : List Nat} (h : PS w wr H v G u r Lh Lg Lr (X :: Xs)) : PS w wr H v G u r Lh Lg Lr Xs :=
  { h with xs := fun Y hY => h.xs Y (List.mem_cons_of_mem _ hY) }
/-! ### The reference's calls -/
theorem refPush_any {w wr : World} {H : Nat} {v : Value} {G : Nat} {u r : Value} {Lh Lg Lr : List En} {Xs : List Nat} (h : PS w wr H v G u r Lh Lg Lr Xs) (hl : Lr.length ≤ 128) (n k : Int) :
    Calls Try.prog 18 #[.agg #[r], .int .i64 n, .int .i64 k] wr fun e w2 => ∃ r', e = .returned (.tuple #[.int .i64 (pushE Lr n), .agg #[r']]) ∧ PS w w2 H v G u r' Lh Lg (pushL Lr n k) Xs ∧ Same Xs wr w2 := by
  refine (causewayref05_Push.calls 200 (Ow r) r (LS Lr) n k _ _ w wr h.ib h.ir (push_f Lr hl n k 200 (Nat.le_refl _))).mono ?_
  rintro e w2 ⟨r', rfl, hR, hB, hK⟩
  exact ⟨r', rfl, h.stepR hR hB hK⟩
theorem refLower_any {w wr : World} {H : Nat} {v : Value} {G : Nat} {u r : Value} {Lh Lg Lr : List En} {Xs : List Nat} (h : PS w wr H v G u r Lh Lg Lr Xs) (hl : Lr.length ≤ 128) (n k : Int) :
    Calls Try.prog 21 #[.agg #[r], .int .i64 n, .int .i64 k] wr fun e w2 => ∃ r', e = .returned (.tuple #[.int .i64 (lowE Lr n k), .agg #[r']]) ∧ PS w w2 H v G u r' Lh Lg (lowL Lr n k) Xs ∧ Same Xs wr w2 := by
  refine (causewayref05_Lower.calls 200 (Ow r) r (LS Lr) n k _ _ w wr h.ib h.ir (lower_f Lr hl n k 200 (Nat.le_refl _))).mono ?_
  rintro e w2 ⟨r', rfl, hR, hB, hK⟩
  exact ⟨r', rfl, h.stepR hR hB hK⟩
theorem refDrop_any {w wr : World} {H : Nat} {v : Value} {G : Nat} {u r : Value} {Lh Lg Lr : List En} {Xs : List Nat} (h : PS w wr H v G u r Lh Lg Lr Xs) (hl : Lr.length ≤ 128) (n : Int) :
    Calls Try.prog 23 #[.agg #[r], .int .i64 n] wr fun e w2 => ∃ r', e = .returned (.tuple #[.int .i64 (dropE Lr n), .agg #[r']]) ∧ PS w w2 H v G u r' Lh Lg (dropL Lr n) Xs ∧ Same Xs wr w2 := by
  refine (causewayref05_Drop.calls 200 (Ow r) r (LS Lr) n _ _ w wr h.ib h.ir (drop_f Lr hl n 200 (Nat.le_refl _))).mono ?_
  rintro e w2 ⟨r', rfl, hR, hB, hK⟩
  exact ⟨r', rfl, h.stepR hR hB hK⟩
theorem RR.slice {wr : World} {base : Nat} {r : Value} {L : List En} (h : RR wr base r L) : ∃ A c, r = .slice A L.length c ∧ L.length ≤ c := by
  obtain ⟨A, c, e, hl, _⟩ := Kd.R_reads h
  rw [LS_len] at e hl
  exact ⟨A, c, e, hl⟩
theorem refKey_any {wr : World} {base : Nat} {r : Value} {L : List En} (h : RR wr base r L) (hl : L.length ≤ 128) (n : Int) :
    Calls Try.prog 26 #[.agg #[r], .int .i64 n] wr fun e w2 => e = .returned (.tuple #[.int .i64 (keyR L n).1, .int .i64 (keyR L n).2]) ∧ Below wr.heap.size wr w2 := by
  obtain ⟨A, c, rfl, hc, hC⟩ := Kd.R_reads h
  exact causewayref05_Key.calls 200 A c (LS L) n _ _ wr hC hc (key_f L hl n 200 (Nat.le_refl _))
theorem refTop_any {wr : World} {base : Nat} {r : Value} {L : List En} (h : RR wr base r L) :
    Calls Try.prog 27 #[.agg #[r]] wr fun e w2 => e = .returned (.tuple #[.int .i64 (topE L).1, .int .i64 (topE L).2.1, .int .i64 (topE L).2.2]) ∧ Below wr.heap.size wr w2 := by
  obtain ⟨A, c, rfl, hc, hC⟩ := Kd.R_reads h
  exact causewayref05_Top.calls A c (LS L) _ _ _ wr hC hc (top_f L)
/-- A list of numbers that is read. -/
def Lst (w : World) (v : Value) (l : List Int) : Prop := ∃ A c, v = .slice A l.length c ∧ l.length ≤ c ∧ Kd.C (Kd.int .i64) w A l.length l
theorem Lst.below {w w' : World} {v : Value} {l : List Int} (h : Lst w v l) (b : Below w.heap.size w w') : Lst w' v l := by
  obtain ⟨A, c, e, hc, hC⟩ := h
  exact ⟨A, c, e, hc, Kd.C_below hC b⟩
theorem Lst.of_own {w : World} {base : Nat} {v : Value} {L : List En} (h : w.ownsRow base 3 1 v L.length (natL (L.map (·.2)))) : Lst w v (nodesI L) := by
  have h2 : w.ownsRow base 3 1 v (nodesI L).length (encs (Value.int .i64) (nodesI L)) := by
    have e1 : (nodesI L).length = L.length := by simp [nodesI]
    have e2 : encs (Value.int .i64) (nodesI L) = natL (L.map (·.2)) := by
      simp [encs, nodesI, natL, ints]
    rw [e1, e2]
    exact h
  have hR : Kd.R (Kd.int .i64) 3 w base (fun k => v.ownBlock = some k) v (nodesI L) := Kd.R_of_own h2 (fun _ hk => hk)
  exact Kd.R_reads hR
theorem refNodes_any {wr : World} {base : Nat} {r : Value} {L : List En} (h : RR wr base r L) (hl : L.length ≤ 128) :
    Calls Try.prog 33 #[.agg #[r]] wr fun e w2 => ∃ out, e = .returned out ∧ Lst w2 out (nodesI L) ∧ Below wr.heap.size wr w2 := by
  obtain ⟨A, c, rfl, hc, hC⟩ := Kd.R_reads h
  refine (causewayref05_Nodes.calls 200 A c (LS L) _ wr hC hc (nodes_f L hl 200 (Nat.le_refl _))).mono ?_
  rintro e w2 ⟨out, rfl, hR, hb⟩
  exact ⟨out, rfl, Kd.R_reads hR, hb⟩
theorem nodesI_len (L : List En) : (nodesI L).length = L.length := by simp [nodesI]
theorem text_any (k : Int) (w : World) (hk : S.sm k) : Calls Try.prog 17 #[.int .i64 k] w fun e w2 => e = .returned (.string (S.tx k)) ∧ Below w.heap.size w w2 := by
  unfold S.sm at hk
  obtain ⟨j, hj⟩ := digits_any (k + 2000) (by omega) (by omega)
  refine causewaylaw05_text.calls j k _ w ?_
  unfold causewaylaw05_text.f
  have e : RowKit.wrap64 (Int.tmod k 1000 + 2000) = k + 2000 := by
    have : Int.tmod k 1000 = k := by
      by_cases h0 : 0 ≤ k
      · rw [Int.tmod_eq_emod_of_nonneg h0]; omega
      · have := Int.neg_tmod (-k) 1000
        rw [Int.neg_neg] at this
        rw [this, Int.tmod_eq_emod_of_nonneg (by omega)]
        omega
    rw [this]
    unfold RowKit.wrap64
    omega
  rw [e, hj]
  rfl
theorem sameInts_any (a b : Value) (l : List Int) (hl : l.length ≤ 128) (w : World) (ha : Lst w a l) (hb : Lst w b l) : Calls Try.prog 31 #[a, b] w fun e w2 => e = .returned (.bool true) ∧ Below w.heap.size w w2 := by
  obtain ⟨A, c, rfl, hc, hC⟩ := ha
  obtain ⟨A', c', rfl, hc', hC'⟩ := hb
  refine (causewaylaw05_sameInts.calls 200 A c l A' c' l true w hC hc hC' hc' (same_f l hl 200 (Nat.le_refl _))).mono ?_
  rintro e w2 ⟨he, hd⟩
  obtain ⟨n, rfl⟩ := hd.out
  exact ⟨he, below_drewN (Below.refl _ _) n⟩
theorem small_any (k : Int) (w : World) : Calls Try.prog 15 #[.int .i64 k] w fun e w2 => e = .returned (.int .i64 (Int.tmod k 1000)) ∧ Below w.heap.size w w2 := by
  refine (causewaylaw05_small.calls k _ w rfl).mono ?_
  rintro e w2 ⟨he, hd⟩
  obtain ⟨n, rfl⟩ := hd.out
  exact ⟨he, below_drewN (Below.refl _ _) n⟩
theorem small_sm (k : Int) : S.sm (Int.tmod k 1000) := by
  unfold S.sm
  by_cases h0 : 0 ≤ k
  · rw [Int.tmod_eq_emod_of_nonneg h0]; omega
  · have := Int.neg_tmod (-k) 1000
    rw [Int.neg_neg] at this
    rw [this, Int.tmod_eq_emod_of_nonneg (by omega)]
    omega
end Go.Proofs.Ytpapknmkiampgaa
