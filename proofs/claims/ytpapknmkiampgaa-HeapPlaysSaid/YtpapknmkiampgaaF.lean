/- The heap: Push, Drop, Pop. -/
import Derived.Test.YtpapknmkiampgaaE
namespace Go.Proofs.Ytpapknmkiampgaa
open Go.RowKit

theorem info69 : (Try.prog.info? 69).map (fun i => (i.zero, i.size, i.bytes)) = some (some (.agg #[.int .i64 0, .int .i64 0]), 2, 16) := by kernel_rfl

/-- The heap behind a call: its list may lie in a new block. -/
def Ok (H : Nat) (v : Value) (s : HS) (w w' : World) : Prop := ∃ v', HW w' H v' s.1 s.2 ∧ Keep (fun k => k = H ∨ v.ownBlock = some k) w w' ∧ (v'.ownBlock = v.ownBlock ∨ ∃ g, v'.ownBlock = some g ∧ w.heap.size ≤ g)

theorem push_out (p : Value) (n k : Int) (w : World) (hp : p = .pointer none ∨ ∃ H, p = .pointer (some ⟨H, 0, none⟩)) (hn : p = .pointer none ∨ n < 0 ∨ 127 < n) :
    Calls Try.prog 9 #[p, .int .i64 n, .int .i64 k] w fun e w' => e = .returned (.int .i64 2) ∧ w = w' := by
  rcases hp with rfl | ⟨H, rfl⟩
  · go_enter Try.func9, Try.ntmps9
    go_wp2
    go_ret
    exact ⟨rfl, rfl⟩
  · have hf : (decide (0 ≤ n) && decide (n ≤ 127)) = false := by
      rcases hn with hn | hn | hn
      · cases hn
      · simp; omega
      · simp; omega
    go_enter Try.func9, Try.ntmps9
    go_wp2_with (go_at_call 35; refine (in_any n _).mono ?_; rintro e w' ⟨rfl, rfl⟩)
    go_ret
    exact ⟨rfl, rfl⟩

theorem push_twice (H : Nat) (v : Value) (s : HS) (n : Nat) (k : Int) (w : World) (h : HW w H v s.1 s.2) (hn : n < 128) (ht : s.2 n ≠ 0) :
    Calls Try.prog 9 #[.pointer (some ⟨H, 0, none⟩), .int .i64 n, .int .i64 k] w fun e w' => e = .returned (.int .i64 5) ∧ w = w' := by
  have hf0 : decide (0 ≤ (n : Int)) = true := by simp
  have hf : decide ((n : Int) ≤ 127) = true := by simp; omega
  have ha := h.at_ n hn
  have ht' : ((s.2 n : Int) != 0) = true := by simpa using ht
  go_enter Try.func9, Try.ntmps9
  go_wp2_with (go_at_call 35; refine (in_any n _).mono ?_; rintro e w' ⟨rfl, rfl⟩)
  go_ret
  exact ⟨rfl, rfl⟩

theorem own_form {w : World} {base : Nat} {e : TypeId} {size : Nat} {v : Value} {n : Nat} {xs : List Value} (hn : 0 < n) (h : w.ownsRow base e size v n xs) : ∃ g cap, v = .slice (some ⟨g, 0, none⟩) n cap := by
  rcases h.2 with ⟨_, h0⟩ | ⟨g, cap, cur, e, _⟩
  · omega
  · exact ⟨g, cap, e⟩
theorem keep_grown {H : Nat} {v : Value} {s : HS} {w w1 : World} {o : Obj} (_ : HW w H v s.1 s.2) (hg : (w.alloc o).grownBy w1 v.ownBlock) : Keep (fun k => v.ownBlock = some k) w w1 :=
  ((Keep.refl (fun k => v.ownBlock = some k) w).alloc o).grown hg (fun _ hk => .inl hk)
theorem Keep.then {S S' : Nat → Prop} {w w1 w2 : World} (h : Keep S w w1) (k : Keep S' w1 w2) (hs : ∀ i, i < w.heap.size → S' i → S i) : Keep S w w2 :=
  ⟨k.os.trans h.os, k.tape.trans h.tape, k.output.trans h.output, Nat.le_trans h.size k.size, fun i hi hn => (k.block i (Nat.lt_of_lt_of_le hi h.size) (fun h' => hn (hs i hi h'))).trans (h.block i hi hn)⟩
theorem push_cells {H : Nat} {v : Value} {s : HS} {w w1 : World} {o : Obj} (h : HW w H v s.1 s.2) (hg : (w.alloc o).grownBy w1 v.ownBlock) {n : Nat} (hn : n < 128) :
    w1.cell? ⟨H, 0, none⟩ = some v ∧ w1.frozen? ⟨H, 0, none⟩ = false ∧ w1.cell? ⟨H, 1 + n, none⟩ = some (.int .i64 (s.2 n)) ∧ w1.frozen? ⟨H, 1 + n, none⟩ = false := by
  have K := keep_grown h hg
  exact ⟨K.cell h.c0 h.apart, K.unfrozen h.lt h.f0 h.apart, K.cell (h.at_ n hn) h.apart, K.unfrozen h.lt (h.fa n hn) h.apart⟩

theorem push_state {H : Nat} {v : Value} {s : HS} {w w1 : World} {o : Obj} {g1 cap1 n : Nat} {k : Int} (h : HW w H v s.1 s.2) (hg : (w.alloc o).grownBy w1 v.ownBlock)
    (hown : w1.ownsRow 0 69 2 (.slice (some ⟨g1, 0, none⟩) (s.1.length + 1) cap1) (s.1.length + 1) (s.1.flatMap ec ++ ec (k, n)))
    (hat : (Value.slice (some ⟨g1, 0, none⟩) (s.1.length + 1) cap1).ownBlock = v.ownBlock ∨ (Value.slice (some ⟨g1, 0, none⟩) (s.1.length + 1) cap1).ownBlock = some (w.alloc o).heap.size) (hn : n < 128) (hl : s.1.length < 128) :
    HW (w1.setCell ⟨H, 0, none⟩ (.slice (some ⟨g1, 0, none⟩) (s.1.length + 1) cap1)) H (.slice (some ⟨g1, 0, none⟩) (s.1.length + 1) cap1) (s.1 ++ [(k, n)]) s.2 := by
  have K := keep_grown h hg
  have hap : (Value.slice (some ⟨g1, 0, none⟩) (s.1.length + 1) cap1).ownBlock ≠ some H := by
    rcases hat with e | e
    · rw [e]; exact h.apart
    · rw [e]
      have := h.lt
      simp
      omega
  refine ⟨World.cell?_setCell_same w1 _ _ (K.cell h.c0 h.apart), ?_, fun m hm => ?_, fun m hm => ?_, ?_, hap, by simp; omega, h.small, ?_⟩
  · rw [World.frozen?_setCell]; exact K.unfrozen h.lt h.f0 h.apart
  · rw [World.cell?_setCell_other _ _ _ _ (by simp)]; exact K.cell (h.at_ m hm) h.apart
  · rw [World.frozen?_setCell]; exact K.unfrozen h.lt (h.fa m hm) h.apart
  · have K2 : Keep (fun k => k = H) w1 (w1.setCell ⟨H, 0, none⟩ (.slice (some ⟨g1, 0, none⟩) (s.1.length + 1) cap1)) := (Keep.refl (fun k => k = H) w1).setCell ⟨H, 0, none⟩ _ (.inl rfl)
    have := K2.owns hown (fun k hk e => by subst e; exact hap hk)
    simpa using this
  · intro e he
    rcases List.mem_append.1 he with he | he
    · exact h.node e he
    · simp at he
      subst he
      exact hn
theorem up_at (H : Nat) (v : Value) (s : HS) (i : Nat) (x : Int) (w : World) (hx : x = i) (h : HW w H v s.1 s.2) (hi : i < s.1.length) :
    Calls Try.prog 36 #[.pointer (some ⟨H, 0, none⟩), .int .i64 x] w fun e w' => e = .returned (.tuple #[]) ∧ HW w' H v (upS s i).1 (upS s i).2 ∧ Keep (fun k => k = H ∨ v.ownBlock = some k) w w' := by
  subst hx
  exact up_any H v s i w h hi

set_option maxHeartbeats 2000000 in
theorem push_new (H : Nat) (v : Value) (s : HS) (n : Nat) (k : Int) (w : World) (h : HW w H v s.1 s.2) (hn : n < 128) (ht : s.2 n = 0) (hl : s.1.length < 128) :
    Calls Try.prog 9 #[.pointer (some ⟨H, 0, none⟩), .int .i64 n, .int .i64 k] w fun e w' => e = .returned (.int .i64 0) ∧ Ok H v (upS (s.1 ++ [(k, n)], upd s.2 n (s.1.length + 1)) s.1.length) w w' := by
  have hf0 : decide (0 ≤ (n : Int)) = true := by simp
  have hf : decide ((n : Int) ≤ 127) = true := by simp; omega
  have ha := h.at_ n hn
  have fa := h.fa n hn
  rw [ht] at ha
  have c0 := h.c0
  have f0 := h.f0
  have hH := h.lt
  obtain ⟨ad, cap, hv⟩ : ∃ ad cap, v = .slice ad s.1.length cap := by
    rcases h.own.2 with ⟨e, h0⟩ | ⟨g, cap, cur, e, _⟩
    · exact ⟨none, 0, by rw [e, h0]⟩
    · exact ⟨_, _, e⟩
  subst hv
  have hown := h.own
  have hap := h.apart
  have hsl : SlR (w.alloc (.cells #[.int .i64 k, .int .i64 n] 69)) 2 (.slice (some ⟨w.heap.size, 0, none⟩) 1 1) 1 (ec (k, n)) :=
    ⟨rfl, by simp [maxLen], _, 1, rfl, by simp, .inr ⟨w.heap.size, 0, rfl, fun j u hu => by rw [Nat.zero_add]; exact new_cell w _ rfl _ _ j u (by simpa [ec] using hu)⟩⟩
  go_enter Try.func9, Try.ntmps9
  go_wp2_with (first | (go_at_call 35; refine (in_any n _).mono ?_; rintro e w' ⟨rfl, rfl⟩) | (at_builtin; refine wpList_append_sl rfl _ _ 63 69 rfl 0 (.agg #[.int .i64 0, .int .i64 0]) 2 16 Try.underlying63 info69 rfl (by decide) (by decide) (.slice ad s.1.length cap) _ _ rfl (hown.alloc _) _ 1 (ec (k, n)) rfl hsl (ec_one _) (by omega) (by simp) ?_; intro v1 w1 hown1 hg hat; obtain ⟨g1, cap1, rfl⟩ := own_form (by omega) hown1; obtain ⟨c01, f01, ha1, fa1⟩ := push_cells h hg hn))
  have hP := push_state h hg hown1 hat hn hl
  clear c01 f01 ha1 fa1 ha fa c0 f0
  have hap1 : g1 ≠ H := by simpa [Value.ownBlock] using hP.apart
  have c01 := hP.c0
  have ha1 := hP.at_ n hn
  have fa1 := hP.fa n hn
  obtain ⟨W1, hw1⟩ : ∃ W1, W1 = w1.setCell ⟨H, 0, none⟩ (.slice (some ⟨g1, 0, none⟩) (s.1.length + 1) cap1) := ⟨_, rfl⟩
  have hK1 : Keep (fun k => k = H ∨ (Value.slice ad s.1.length cap).ownBlock = some k) w W1 := by
    rw [hw1]
    exact ((keep_grown h hg).mono (fun k _ hk => .inr hk)).setCell ⟨H, 0, none⟩ _ (.inl (.inl rfl))
  have hat' : Veil ((Value.slice (some ⟨g1, 0, none⟩) (s.1.length + 1) cap1).ownBlock = (Value.slice ad s.1.length cap).ownBlock ∨ ∃ g, (Value.slice (some ⟨g1, 0, none⟩) (s.1.length + 1) cap1).ownBlock = some g ∧ w.heap.size ≤ g) := by
    refine ⟨?_⟩
    rcases hat with e | e
    · exact .inl e
    · exact .inr ⟨_, e, by simp⟩
  rw [← hw1] at hP c01 ha1 fa1 ⊢
  clear hw1 hat hg hown hown1 h hap hsl
  go_region
  obtain ⟨W2, hw2⟩ : ∃ W2, W2 = (W1.setCell ⟨H, 1 + n, none⟩ (.int .i64 (s.1.length + 1 : Nat))).drew := ⟨_, rfl⟩
  have hK2 : Keep (fun k => k = H ∨ (Value.slice ad s.1.length cap).ownBlock = some k) w W2 := by
    rw [hw2]
    exact (hK1.setCell ⟨H, 1 + n, none⟩ _ (.inl (.inl rfl))).drewN 1
  have hW2 : HW W2 H (.slice (some ⟨g1, 0, none⟩) (s.1.length + 1) cap1) (s.1 ++ [(k, (n : Nat))]) (upd s.2 n (s.1.length + 1)) := by
    rw [hw2]
    exact (hP.setP n (s.1.length + 1) (by omega)).drew
  have c02 := hW2.c0
  rw [show ((s.1.length : Int) + 1) = ((s.1.length + 1 : Nat) : Int) from rfl, ← hw2]
  clear hw2 hP c01 ha1 fa1 hK1
  go_wp2_with fail
  refine (up_at H _ (s.1 ++ [(k, (n : Nat))], upd s.2 n (s.1.length + 1)) s.1.length _ W2 (by omega) hW2 (by simp)).mono ?_
  rintro e W3 ⟨rfl, hW3, hK3⟩
  have hOk : Ok H (.slice ad s.1.length cap) (upS (s.1 ++ [(k, n)], upd s.2 n (s.1.length + 1)) s.1.length) w W3 := by
    refine ⟨_, hW3, hK2.then hK3 ?_, hat'.out⟩
    rintro j hj (e | e)
    · exact .inl e
    · rcases hat'.out with h1 | ⟨g, h1, h2⟩
      · rw [h1] at e; exact .inr e
      · rw [h1] at e
        injection e with e
        omega
  clear hW3 hK3 hK2 hW2 c02
  go_wp2
  go_ret
  exact ⟨rfl, hOk⟩

theorem drop_out (p : Value) (n : Int) (w : World) (hp : p = .pointer none ∨ ∃ H, p = .pointer (some ⟨H, 0, none⟩)) (hn : p = .pointer none ∨ n < 0 ∨ 127 < n) :
    Calls Try.prog 10 #[p, .int .i64 n] w fun e w' => e = .returned (.int .i64 2) ∧ w = w' := by
  rcases hp with rfl | ⟨H, rfl⟩
  · go_enter Try.func10, Try.ntmps10
    go_wp2
    go_ret
    exact ⟨rfl, rfl⟩
  · have hf : (decide (0 ≤ n) && decide (n ≤ 127)) = false := by
      rcases hn with hn | hn | hn
      · cases hn
      · simp; omega
      · simp; omega
    go_enter Try.func10, Try.ntmps10
    go_wp2_with (go_at_call 35; refine (in_any n _).mono ?_; rintro e w' ⟨rfl, rfl⟩)
    go_ret
    exact ⟨rfl, rfl⟩
theorem drop_none (H : Nat) (v : Value) (s : HS) (n : Nat) (w : World) (h : HW w H v s.1 s.2) (hn : n < 128) (ht : s.2 n = 0) :
    Calls Try.prog 10 #[.pointer (some ⟨H, 0, none⟩), .int .i64 n] w fun e w' => e = .returned (.int .i64 8) ∧ w = w' := by
  have hf0 : decide (0 ≤ (n : Int)) = true := by simp
  have hf : decide ((n : Int) ≤ 127) = true := by simp; omega
  have ha := h.at_ n hn
  rw [ht] at ha
  go_enter Try.func10, Try.ntmps10
  go_wp2_with (go_at_call 35; refine (in_any n _).mono ?_; rintro e w' ⟨rfl, rfl⟩)
  go_ret
  exact ⟨rfl, rfl⟩
theorem take_at (H : Nat) (v : Value) (s : HS) (i : Nat) (x : Int) (a b : En) (w : World) (hx : x = i) (h : HW w H v s.1 s.2) (hi : s.1[i]? = some a) (hb : s.1[s.1.length - 1]? = some b) :
    Calls Try.prog 37 #[.pointer (some ⟨H, 0, none⟩), .int .i64 x] w fun e w' => e = .returned (.agg #[.int .i64 a.1, .int .i64 a.2]) ∧ TakeOk H v (takeS s i a b) w w' := by
  subst hx
  exact take_any H v s i a b w h hi hb
theorem drop_some (H : Nat) (v : Value) (s : HS) (n i : Nat) (a b : En) (w : World) (h : HW w H v s.1 s.2) (hn : n < 128) (ht : s.2 n = i + 1) (hi : s.1[i]? = some a) (hb : s.1[s.1.length - 1]? = some b) :
    Calls Try.prog 10 #[.pointer (some ⟨H, 0, none⟩), .int .i64 n] w fun e w' => e = .returned (.int .i64 0) ∧ TakeOk H v (takeS s i a b) w w' := by
  have hf0 : decide (0 ≤ (n : Int)) = true := by simp
  have hf : decide ((n : Int) ≤ 127) = true := by simp; omega
  have ha := h.at_ n hn
  have hl := h.len
  have hil := (List.getElem?_eq_some_iff.1 hi).1
  rw [ht] at ha
  have hz : (((i + 1 : Nat) : Int) == 0) = false := by simp; omega
  have HI := Lib.hid hi
  have HB := Lib.hid hb
  clear hi hb ht
  go_enter Try.func10, Try.ntmps10
  go_wp2_with (go_at_call 35; refine (in_any n _).mono ?_; rintro e w' ⟨rfl, rfl⟩)
  refine (take_at H v s i _ a b _ (by omega) h HI.out HB.out).mono ?_
  rintro e w' ⟨rfl, hT⟩
  go_wp2
  go_ret
  exact ⟨rfl, hT⟩

theorem pop_none (H : Nat) (v : Value) (s : HS) (w : World) (h : HW w H v s.1 s.2) (hs : s.1 = []) :
    Calls Try.prog 12 #[.pointer (some ⟨H, 0, none⟩)] w fun e w' => e = .returned (.tuple #[.int .i64 0, .int .i64 0, .int .i64 8]) ∧ ∃ n, w' = w.drewN n := by
  have ht := top_any H v s w h
  rw [hs] at ht
  simp only [topR] at ht
  have HT := Lib.hid ht
  clear ht hs
  go_enter Try.func12, Try.ntmps12
  go_wp2_with (go_at_call 28; refine (HT.out).mono ?_; rintro e w' ⟨rfl, nn, rfl⟩)
  go_ret3
  exact ⟨rfl, _, rfl⟩
theorem pop_nil (w : World) : Calls Try.prog 12 #[.pointer none] w fun e w' => e = .returned (.tuple #[.int .i64 0, .int .i64 0, .int .i64 2]) ∧ w = w' := by
  go_enter Try.func12, Try.ntmps12
  go_wp2_with (go_at_call 28; refine (top_nil _).mono ?_; rintro e w' ⟨rfl, rfl⟩)
  go_ret3
  exact ⟨rfl, rfl⟩
theorem TakeOk.drewN {H : Nat} {v : Value} {s : HS} {w w' : World} {n : Nat} (h : TakeOk H v s (w.drewN n) w') : TakeOk H v s w w' := by
  obtain ⟨v', h1, h2, h3⟩ := h
  exact ⟨v', h1, h2, h3.os, h3.tape, h3.output, h3.size, h3.block⟩
theorem HW.drewN {w : World} {H : Nat} {v : Value} {es : List En} {po : Nat → Nat} (h : HW w H v es po) (n : Nat) : HW (w.drewN n) H v es po := ⟨h.c0, h.f0, h.at_, h.fa, h.own, h.apart, h.len, h.small, h.node⟩
theorem pop_some (H : Nat) (v : Value) (s : HS) (a b : En) (w : World) (h : HW w H v s.1 s.2) (hi : s.1[0]? = some a) (hb : s.1[s.1.length - 1]? = some b) :
    Calls Try.prog 12 #[.pointer (some ⟨H, 0, none⟩)] w fun e w' => e = .returned (.tuple #[.int .i64 a.2, .int .i64 a.1, .int .i64 0]) ∧ TakeOk H v (takeS s 0 a b) w w' := by
  have ht := top_any H v s w h
  have e1 : topR s.1 = .tuple #[.int .i64 a.2, .int .i64 a.1, .int .i64 0] := by
    cases hs : s.1 with
    | nil => rw [hs] at hi; simp at hi
    | cons x l => rw [hs] at hi; simp at hi; subst hi; rfl
  rw [e1] at ht
  have HT := Lib.hid ht
  have HI := Lib.hid hi
  have HB := Lib.hid hb
  clear ht e1 hi hb
  go_enter Try.func12, Try.ntmps12
  go_wp2_with (go_at_call 28; refine (HT.out).mono ?_; rintro e w' ⟨rfl, nn, rfl⟩)
  refine (take_at H v s 0 _ a b _ (by rfl) (h.drewN nn) HI.out HB.out).mono ?_
  rintro e w' ⟨rfl, hT⟩
  go_wp2
  go_ret3
  exact ⟨rfl, hT.drewN⟩
end Go.Proofs.Ytpapknmkiampgaa
