/- ReadPrefix of the program and of the reference -/
import Derived.Test.YtcociflljbaicaaDoorZA
import Derived.Laws.ResultCell
import Derived.Test.YtcociflljbaicaaDoorT6
namespace Go.Proofs.YtcociflljbaicaaDoor
open Go.RowKit Go.Lib

/-- What a text reads as. -/
def RP (l : List UInt8) (a : Nat) (n e : Int) : Prop :=
  (e = 0 ∧ snd a n = true ∧ a < 4294967296 ∧ l = pfxL a n) ∨ (a = 0 ∧ n = 0 ∧ e = 11 ∧ ∀ a' n', a' < 4294967296 → snd a' n' = true → l ≠ pfxL a' n')
theorem RP.total (l : List UInt8) : ∃ a n e, RP l a n e := by
  by_cases h : ∃ a' n', a' < 4294967296 ∧ snd a' n' = true ∧ l = pfxL a' n'
  · obtain ⟨a, n, h1, h2, h3⟩ := h
    exact ⟨a, n, 0, .inl ⟨rfl, h2, h1, h3⟩⟩
  · exact ⟨0, 0, 11, .inr ⟨rfl, rfl, rfl, fun a n h1 h2 h3 => h ⟨a, n, h1, h2, h3⟩⟩⟩
theorem snd_bd {a : Nat} {n : Int} (h : snd a n = true) : 0 ≤ n ∧ n ≤ 32 := by
  unfold snd at h
  simp only [Bool.and_eq_true, decide_eq_true_eq] at h
  exact h.1
structure RW (w : World) (R Pb Nb : Nat) (ws : List ByteArray) (A : Nat) (m : Int) : Prop where
  r0 : w.cell? ⟨R, 0, none⟩ = some (.int .u32 0)
  r1 : w.cell? ⟨R, 1, none⟩ = some (.int .i64 0)
  p0 : w.cell? ⟨Pb, 0, none⟩ = some (.int .u32 A)
  p1 : w.cell? ⟨Pb, 1, none⟩ = some (.int .i64 m)
  at_ : ∀ (j : Nat) (h : j < ws.length), w.cell? ⟨Nb, j, none⟩ = some (.string ws[j])
  f0 : w.frozen? ⟨R, 0, none⟩ = false
  f1 : w.frozen? ⟨R, 1, none⟩ = false
  g0 : w.frozen? ⟨Pb, 0, none⟩ = false
  g1 : w.frozen? ⟨Pb, 1, none⟩ = false
  rp : R < Pb
  pn : Pb < Nb
theorem RW.below {w w' : World} {R Pb Nb : Nat} {ws : List ByteArray} {A : Nat} {m : Int} (h : RW w R Pb Nb ws A m) (b : Below w.heap.size w w') : RW w' R Pb Nb ws A m := by
  have k : ∀ {p : Addr} {v : Value}, w.cell? p = some v → w'.cell? p = some v := fun h => (b.cell (World.block_lt_of_cell? _ _ h)).trans h
  have l0 := World.block_lt_of_cell? _ _ h.r0
  have l1 := World.block_lt_of_cell? _ _ h.p0
  exact ⟨k h.r0, k h.r1, k h.p0, k h.p1, fun j hj => k (h.at_ j hj), (b.frozen (p := ⟨R, 0, none⟩) l0).trans h.f0, (b.frozen (p := ⟨R, 1, none⟩) l0).trans h.f1, (b.frozen (p := ⟨Pb, 0, none⟩) l1).trans h.g0, (b.frozen (p := ⟨Pb, 1, none⟩) l1).trans h.g1, h.rp, h.pn⟩
theorem RW.set0 {w : World} {R Pb Nb : Nat} {ws : List ByteArray} {A : Nat} {m : Int} (h : RW w R Pb Nb ws A m) (B : Nat) : RW (w.setCell ⟨Pb, 0, none⟩ (.int .u32 B)) R Pb Nb ws B m := by
  have h1 := h.rp
  have h2 := h.pn
  have k : ∀ {p : Addr} {v : Value}, p ≠ ⟨Pb, 0, none⟩ → w.cell? p = some v → (w.setCell ⟨Pb, 0, none⟩ (.int .u32 B)).cell? p = some v := fun hn h => (World.cell?_setCell_other _ _ _ _ (Ne.symm hn)).trans h
  exact ⟨k (by intro e; injection e with e1; omega) h.r0, k (by intro e; injection e with e1; omega) h.r1, World.cell?_setCell_same _ _ _ h.p0, k (by simp) h.p1, fun j hj => k (by intro e; injection e with e1; omega) (h.at_ j hj), by rw [World.frozen?_setCell]; exact h.f0, by rw [World.frozen?_setCell]; exact h.f1, by rw [World.frozen?_setCell]; exact h.g0, by rw [World.frozen?_setCell]; exact h.g1, h1, h2⟩
theorem RW.set1 {w : World} {R Pb Nb : Nat} {ws : List ByteArray} {A : Nat} {m : Int} (h : RW w R Pb Nb ws A m) (B : Int) : RW (w.setCell ⟨Pb, 1, none⟩ (.int .i64 B)) R Pb Nb ws A B := by
  have h1 := h.rp
  have h2 := h.pn
  have k : ∀ {p : Addr} {v : Value}, p ≠ ⟨Pb, 1, none⟩ → w.cell? p = some v → (w.setCell ⟨Pb, 1, none⟩ (.int .i64 B)).cell? p = some v := fun hn h => (World.cell?_setCell_other _ _ _ _ (Ne.symm hn)).trans h
  exact ⟨k (by intro e; injection e with e1; omega) h.r0, k (by intro e; injection e with e1; omega) h.r1, k (by simp) h.p0, World.cell?_setCell_same _ _ _ h.p1, fun j hj => k (by intro e; injection e with e1; omega) (h.at_ j hj), by rw [World.frozen?_setCell]; exact h.f0, by rw [World.frozen?_setCell]; exact h.f1, by rw [World.frozen?_setCell]; exact h.g0, by rw [World.frozen?_setCell]; exact h.g1, h1, h2⟩

theorem cut_sizes (l sep : List UInt8) : (cut l sep).1.length ≤ l.length ∧ (cut l sep).2.1.length ≤ l.length := by
  unfold cut
  split
  · simp
    omega
  · simp
theorem splitB_sizes (sep : ByteArray) : ∀ (k : Nat) (s : ByteArray) (x : ByteArray), x ∈ splitB sep 0 k s → x.size ≤ s.size
  | 0, s, x, h => by
    simp only [splitB, List.mem_singleton] at h
    subst h
    exact Nat.le_refl _
  | k + 1, s, x, h => by
    unfold splitB at h
    split at h
    · simp only [List.mem_singleton] at h
      subst h
      exact Nat.le_refl _
    · rcases List.mem_cons.1 h with rfl | h
      · rw [ByteArray.size_extract]; omega
      · have := splitB_sizes sep k _ x h
        rw [ByteArray.size_extract] at this
        omega

theorem put8_mod (A : Nat) (n : Int) (h : A < 4294967296) : Go.bits .or .u32 ((A : Int) * 256 % 4294967296) (Go.bits .and .u32 (n % 4294967296) 255) = (put8 A n : Int) := by
  have := put8_val A n
  rw [IntKind.wrap_u32, IntKind.wrap_u32] at this
  exact this
theorem at_alloc (W : World) (ws : List ByteArray) (t : TypeId) (j : Nat) (h : j < ws.length) : (W.alloc (.cells (ws.map Value.string).toArray t)).cell? ⟨W.heap.size, j, none⟩ = some (.string ws[j]) := by
  simp only [World.cell?, World.alloc, Array.getElem?_push_size]
  simp [h]
theorem res7 (w : World) (tmps : Array Value) (R : Nat) (x y : Value) (e : Value) (hp : tmps.getD 2 undef = .pointer (some ⟨R, 0, none⟩)) (he : tmps.getD 3 undef = e) (h0 : w.cell? ⟨R, 0, none⟩ = some x) (h1 : w.cell? ⟨R, 1, none⟩ = some y) :
    (results Tryd.f7 tmps).run Tryd.prog w = .ok (.tuple #[.agg #[x, y], e]) w := by
  rw [results_cell_tmp (p := 2) (u := 3) (ty := 24) rfl, hp, he]
  go_simp
theorem two_set {w : World} {R : Nat} {x y : Value} (x' y' : Value) (h0 : w.cell? ⟨R, 0, none⟩ = some x) (h1 : w.cell? ⟨R, 1, none⟩ = some y) :
    ((w.setCell ⟨R, 0, none⟩ x').setCell ⟨R, 1, none⟩ y').cell? ⟨R, 0, none⟩ = some x' ∧ ((w.setCell ⟨R, 0, none⟩ x').setCell ⟨R, 1, none⟩ y').cell? ⟨R, 1, none⟩ = some y' := by
  have k0 := World.cell?_setCell_same w ⟨R, 0, none⟩ x' h0
  have k1 : (w.setCell ⟨R, 0, none⟩ x').cell? ⟨R, 1, none⟩ = some y := (World.cell?_setCell_other _ _ _ _ (by simp)).trans h1
  exact ⟨(World.cell?_setCell_other _ _ _ _ (by simp)).trans k0, World.cell?_setCell_same _ _ _ k1⟩
set_option maxHeartbeats 8000000 in
theorem ReadPrefix_any (s : ByteArray) (hs : s.size ≤ 1048576) (a : Nat) (n e : Int) (hR : RP s.data.toList a n e) (w : World) (hv : VarsW w) :
    Calls Tryd.prog 7 #[.string s] w fun e' w' => e' = .returned (.tuple #[pv a n, .int .i64 e]) ∧ Below w.heap.size w w' := by
  obtain ⟨m, hm⟩ := hv.ml
  obtain ⟨x, y, b, hcut⟩ : ∃ x y b, Hid (cut s.data.toList [47] = (x, y, b)) := ⟨_, _, _, Lib.hid rfl⟩
  have hxs : x.length ≤ 1048576 := by
    have := (cut_sizes s.data.toList [47]).1
    rw [hcut.out] at this
    have e := Lib.size_eq s
    simp only at this
    omega
  have hys : y.length ≤ 1048576 := by
    have := (cut_sizes s.data.toList [47]).2
    rw [hcut.out] at this
    have e := Lib.size_eq s
    simp only at this
    omega
  have HR := Lib.hid hR
  clear hR
  go_enter Tryd.func7, Tryd.ntmps7
  go_wp2_with fail
  refine (Tryd.strings_Cut s _ m _ (by omega) (by rw [World.cell?_alloc_old _ _ _ (Nat.ne_of_lt (World.block_lt_of_cell? _ _ hm))]; exact hm)).mono ?_
  rintro e' w1 ⟨rfl, j1, rfl⟩
  simp only [hcut.out]
  go_wp2_with fail
  obtain ⟨W0, hW0⟩ : ∃ W0, W0 = ((w.alloc (.cells #[.int .u32 0, .int .i64 0] 24)).drewN j1).alloc (.cells #[.int .u32 0, .int .i64 0] 24) := ⟨_, rfl⟩
  rw [← hW0]
  have hz0 : W0.heap.size = w.heap.size + 2 := by rw [hW0]; simp
  have hb0 : Below w.heap.size w W0 := by
    rw [hW0]
    exact (below_drewN ((Below.refl _ w).alloc (Nat.le_refl _) _) j1).alloc (by simp) _
  have r0 : W0.cell? ⟨w.heap.size, 0, none⟩ = some (.int .u32 0) := by rw [hW0]; go_simp
  have r1 : W0.cell? ⟨w.heap.size, 1, none⟩ = some (.int .i64 0) := by rw [hW0]; go_simp
  have p0 : W0.cell? ⟨w.heap.size + 1, 0, none⟩ = some (.int .u32 0) := by rw [hW0]; go_simp
  have p1 : W0.cell? ⟨w.heap.size + 1, 1, none⟩ = some (.int .i64 0) := by rw [hW0]; go_simp
  have f0 : W0.frozen? ⟨w.heap.size, 0, none⟩ = false := by rw [hW0, frozen?_alloc_cells]; show World.frozen? (w.alloc _) _ = _; rw [frozen?_alloc_cells]; simp [World.frozen?]
  have f1 : W0.frozen? ⟨w.heap.size, 1, none⟩ = false := by rw [hW0, frozen?_alloc_cells]; show World.frozen? (w.alloc _) _ = _; rw [frozen?_alloc_cells]; simp [World.frozen?]
  have g0 : W0.frozen? ⟨w.heap.size + 1, 0, none⟩ = false := by rw [hW0, frozen?_alloc_cells]; show World.frozen? (w.alloc _) _ = _; rw [frozen?_alloc_cells]; simp [World.frozen?]
  have g1 : W0.frozen? ⟨w.heap.size + 1, 1, none⟩ = false := by rw [hW0, frozen?_alloc_cells]; show World.frozen? (w.alloc _) _ = _; rw [frozen?_alloc_cells]; simp [World.frozen?]
  clear hW0
  have hv0 := hv.below hb0
  obtain ⟨m0, hm0⟩ := hv0.ml
  have c46 : 1 ≤ (bs [46]).size := by rw [bs_size]; decide
  have hx : (bs x).size ≤ 1048576 := by rw [bs_size]; exact hxs
  have hlen := splitB_all (bs [46]) c46 0 _ (bs x) rfl
  have hsz := splitB_sizes (bs [46]) (countB (bs x) (bs [46])) (bs x)
  have hle := countB_le (bs [46]) c46 _ (bs x) (Nat.le_refl _)
  have hsp := Tryd.strings_Split (bs x) (bs [46]) m0 W0 (by omega) hm0 c46
  have hG : e = 0 → snd a n = true ∧ a < 4294967296 ∧ x = adrL a ∧ y = itoa n := by
    intro he
    rcases HR.out with ⟨_, h1, h2, h3⟩ | ⟨_, _, h1, _⟩
    · have := hcut.out
      rw [h3, cut_pfx] at this
      injection this with t1 t2
      injection t2 with t2 t3
      exact ⟨h1, h2, t1.symm, t2.symm⟩
    · omega
  have hGw : e = 0 → splitB (bs [46]) 0 (countB (bs x) (bs [46])) (bs x) = [bs (oct a 24), bs (oct a 16), bs (oct a 8), bs (oct a 0)] := by
    intro he
    rw [(hG he).2.2.1]
    exact adr_words a
  obtain ⟨K, hK⟩ : ∃ K, countB (bs x) (bs [46]) = K := ⟨_, rfl⟩
  rw [hK] at hlen hsz hle hsp hGw
  obtain ⟨ws, hws⟩ : ∃ ws, splitB (bs [46]) 0 K (bs x) = ws := ⟨_, rfl⟩
  rw [hws] at hlen hsz hsp hGw
  clear hws hK
  refine hsp.mono ?_
  rintro e' w2 ⟨rfl, rfl⟩
  clear hsp
  have RW2 : RW (W0.alloc (.cells (ws.map Value.string).toArray 9)) w.heap.size (w.heap.size + 1) W0.heap.size ws 0 0 :=
    ⟨by rw [World.cell?_alloc_old _ _ _ (by simp; omega)]; exact r0, by rw [World.cell?_alloc_old _ _ _ (by simp; omega)]; exact r1, by rw [World.cell?_alloc_old _ _ _ (by simp; omega)]; exact p0, by rw [World.cell?_alloc_old _ _ _ (by simp; omega)]; exact p1, fun j hj => at_alloc W0 ws 9 j hj, by rw [frozen?_alloc_cells]; exact f0, by rw [frozen?_alloc_cells]; exact f1, by rw [frozen?_alloc_cells]; exact g0, by rw [frozen?_alloc_cells]; exact g1, by omega, by omega⟩
  have hb2 : Below w.heap.size w (W0.alloc (.cells (ws.map Value.string).toArray 9)) := hb0.alloc (by omega) _
  have hN0 : w.heap.size + 1 < W0.heap.size := by omega
  obtain ⟨Nb, hNb⟩ : ∃ Nb, Nb = W0.heap.size := ⟨_, rfl⟩
  rw [← hNb] at RW2 hN0 ⊢
  obtain ⟨W2, hW2⟩ : ∃ W2, W2 = W0.alloc (.cells (ws.map Value.string).toArray 9) := ⟨_, rfl⟩
  rw [← hW2] at RW2 hb2 ⊢
  clear hW2 hNb r0 r1 p0 p1 hb0 hv0 hm0 hz0
  go_wp2_with fail
  go_loopw [24] (fun i wr => ∃ (k A : Nat), i = .int .i64 k ∧ k ≤ K + 1 ∧ A < 4294967296 ∧ (e = 0 → A = part a k) ∧ Below w.heap.size w wr ∧ RW wr w.heap.size (w.heap.size + 1) Nb ws A 0) (fun i _ => (K + 1 - kOf i).toNat)
  case atStart => exact ⟨0, 0, rfl, Nat.zero_le _, by decide, fun he => by unfold part; have := (hG he).2.1; omega, hb2, RW2⟩
  case round =>
    clear hb2 RW2
    obtain ⟨k, A, rfl, hk, hA, hGA, hb, hr⟩ := hrel
    by_cases hlt : k < K + 1
    · have hkw : k < ws.length := by omega
      have hw0 := hr.at_ k hkw
      have hwz : ws[k].size ≤ 140737488351232 := by have := hsz _ (List.getElem_mem hkw); omega
      have hv1 := hv.below hb
      have hp0 := hr.p0
      go_wp2_with fail
      refine (Atoi_any ws[k] hwz _ hv1).mono ?_
      rintro e' w3 ⟨q, ev, rfl, hq, hb3⟩
      have hr3 := hr.below hb3
      have hp3 := hr3.p0
      have hb4 := hb.trans (hb3.mono hb.size)
      have hf3 := hr3.g0
      go_wp2_with fail
      rw [put8_mod A q hA]
      go_roundw
      case rel =>
        refine ⟨k + 1, put8 A q, rfl, by omega, put8_lt A q, ?_, hb4.setCell (by simp) _, hr3.set0 _⟩
        intro he
        have hA1 := hGA he
        have hw1 := hGw he
        have hk4 : k < 4 := by rw [hw1] at hkw; simpa using hkw
        have hwk : ws[k] = bs (oct a (24 - 8 * k)) := by
          have hk' : k = 0 ∨ k = 1 ∨ k = 2 ∨ k = 3 := by omega
          subst hw1
          rcases hk' with rfl | rfl | rfl | rfl <;> rfl
        have hq1 := hq _ (by rw [hwk]; exact oct_atoi a (24 - 8 * k))
        rw [hA1, hq1]
        exact part_next a (hG he).2.1 k hk4
      case measure => simp only [kOf]; omega
    · obtain rfl : k = K + 1 := by omega
      have hv1 := hv.below hb
      go_wp2_with fail
      refine (Atoi_any (bs y) (by rw [bs_size]; omega) _ hv1).mono ?_
      rintro e' w3 ⟨q, ev, rfl, hq, hb3⟩
      have hr3 := hr.below hb3
      have hp3 := hr3.p1
      have hp30 := hr3.p0
      have hf3 := hr3.g1
      have hb4 := hb.trans (hb3.mono hb.size)
      have hGq : e = 0 → A = a ∧ q = n := by
        intro he
        obtain ⟨h1, h2, h3, h4⟩ := hG he
        have hw1 := hGw he
        have hK4 : K + 1 = 4 := by rw [← hlen, hw1]; rfl
        have hb := snd_bd h1
        refine ⟨by rw [hGA he, hK4]; simp [part], hq n ?_⟩
        rw [h4]
        exact atoi_itoa n hb.1 (by omega)
      go_wp2_with fail
      obtain ⟨W4, hW4⟩ : ∃ W4, W4 = w3.setCell ⟨w.heap.size + 1, 1, none⟩ (.int .i64 q) := ⟨_, rfl⟩
      rw [← hW4]
      have hr4 : RW W4 w.heap.size (w.heap.size + 1) Nb ws A q := by rw [hW4]; exact hr3.set1 q
      have hb5 : Below w.heap.size w W4 := by rw [hW4]; exact hb4.setCell (by simp) _
      clear hW4 hr3 hp3 hf3 hp30 hr
      have hv4 := hv.below hb5
      by_cases hsd : snd A q = true
      · refine (Prefix_good A hA q hsd (snd_bd hsd) W4 hv4).mono ?_
        rintro e' w5 ⟨rfl, hb6⟩
        have hr5 := hr4.below hb6
        have hb7 := hb5.trans (hb6.mono hb5.size)
        obtain ⟨t, ht⟩ : ∃ t, Hid (bs (pfxL A q) = t) := ⟨_, Lib.hid rfl⟩
        rw [ht.out]
        have rp0 := hr5.p0
        have rp1 := hr5.p1
        have rr0 := hr5.r0
        have rr1 := hr5.r1
        have ff0 := hr5.f0
        have ff1 := hr5.f1
        by_cases heq : t = s
        · have he0 : e = 0 ∧ A = a ∧ q = n := by
            rcases HR.out with ⟨h0, _⟩ | ⟨_, _, _, h4⟩
            · exact ⟨h0, hGq h0⟩
            · exfalso
              refine h4 A q hA hsd ?_
              rw [← heq, ← ht.out]
              rfl
          have hst : (t.toList == s.toList) = true := by rw [heq]; simp
          go_wp2_with fail
          refine bodyPost_ret (res7 _ _ w.heap.size _ _ _ rfl rfl (two_set _ _ rr0 rr1).1 (two_set _ _ rr0 rr1).2) rfl ⟨?_, (hb7.setCell (Nat.le_refl _) _).setCell (Nat.le_refl _) _⟩
          obtain ⟨rfl, h5, h6⟩ := he0
          have hpa := hGA rfl
          rw [h5] at hpa
          rw [← hpa]
          rfl
        · have hst : (t.toList == s.toList) = false := by
            rw [← Bool.not_eq_true]
            intro h
            refine heq (ba_ext ?_)
            have := eq_of_beq h
            rwa [Lib.toList_data, Lib.toList_data] at this
          have he0 : a = 0 ∧ n = 0 ∧ e = 11 := by
            rcases HR.out with ⟨h0, h1, h2, h3⟩ | ⟨h1, h2, h3, _⟩
            · exfalso
              obtain ⟨h5, h6⟩ := hGq h0
              refine heq (ba_ext ?_)
              rw [← ht.out, h3, h5, h6]
              rfl
            · exact ⟨h1, h2, h3⟩
          go_wp2_with fail
          refine bodyPost_ret (res7 _ _ w.heap.size _ _ _ rfl rfl (two_set _ _ rr0 rr1).1 (two_set _ _ rr0 rr1).2) rfl ⟨?_, (hb7.setCell (Nat.le_refl _) _).setCell (Nat.le_refl _) _⟩
          obtain ⟨rfl, rfl, rfl⟩ := he0
          rfl
      · have hsd' : snd A q = false := by simpa using hsd
        refine (Prefix_bad A hA q hsd' W4).mono ?_
        rintro e' w5 ⟨rfl, hb6⟩
        have hr5 := hr4.below hb6
        have hb7 := hb5.trans (hb6.mono hb5.size)
        have rr0 := hr5.r0
        have rr1 := hr5.r1
        have ff0 := hr5.f0
        have ff1 := hr5.f1
        have he0 : a = 0 ∧ n = 0 ∧ e = 11 := by
          rcases HR.out with ⟨h0, h1, h2, h3⟩ | ⟨h1, h2, h3, _⟩
          · exfalso
            obtain ⟨h5, h6⟩ := hGq h0
            rw [h5, h6, h1] at hsd'
            cases hsd'
          · exact ⟨h1, h2, h3⟩
        go_wp2_with fail
        refine bodyPost_ret (res7 _ _ w.heap.size _ _ _ rfl rfl (two_set _ _ rr0 rr1).1 (two_set _ _ rr0 rr1).2) rfl ⟨?_, (hb7.setCell (Nat.le_refl _) _).setCell (Nat.le_refl _) _⟩
        obtain ⟨rfl, rfl, rfl⟩ := he0
        rfl
end Go.Proofs.YtcociflljbaicaaDoor
namespace Go.Proofs.YtcociflljbaicaaDoor
open Go.RowKit (wrap64)
open Go.Lib Go.Proofs.YtcociflljbaicaaDoor.PTextPrefixes Go.Proofs.YtcociflljbaicaaDoorW.PrintWords Go.Proofs.YtcociflljbaicaaDoorW.PrintMore

/-- A text cut at a byte; pre: what stands before. -/
def cutA (b : UInt8) : List UInt8 → List UInt8 → List (List UInt8)
  | pre, [] => [pre]
  | pre, c :: r => if c = b then pre :: cutA b [] r else cutA b (pre ++ [c]) r
theorem cutA_plain (b : UInt8) : ∀ (x pre : List UInt8), (∀ c ∈ x, c ≠ b) → cutA b pre x = [pre ++ x]
  | [], pre, _ => by simp [cutA]
  | c :: x, pre, h => by
    rw [cutA, if_neg (h c List.mem_cons_self), cutA_plain b x _ fun d hd => h d (List.mem_cons_of_mem _ hd)]
    simp
theorem cutA_hit (b : UInt8) (y : List UInt8) : ∀ (x pre : List UInt8), (∀ c ∈ x, c ≠ b) → cutA b pre (x ++ b :: y) = (pre ++ x) :: cutA b [] y
  | [], pre, _ => by simp [cutA]
  | c :: x, pre, h => by
    rw [List.cons_append, cutA, if_neg (h c List.mem_cons_self), cutA_hit b y x _ fun d hd => h d (List.mem_cons_of_mem _ hd)]
    simp
def joinA (b : UInt8) : List (List UInt8) → List UInt8
  | [] => []
  | [x] => x
  | x :: y :: r => x ++ b :: joinA b (y :: r)
theorem cutA_ne (b : UInt8) : ∀ (l pre : List UInt8), cutA b pre l ≠ []
  | [], pre => by simp [cutA]
  | c :: l, pre => by
    rw [cutA]
    split
    · simp
    · exact cutA_ne b l _
theorem cutA_join (b : UInt8) : ∀ (l pre : List UInt8), joinA b (cutA b pre l) = pre ++ l
  | [], pre => by simp [cutA, joinA]
  | c :: l, pre => by
    rw [cutA]
    split
    · rename_i h
      subst h
      have ih := cutA_join c l []
      have hn := cutA_ne c l []
      cases hc : cutA c [] l with
      | nil => exact absurd hc hn
      | cons x r =>
        rw [hc] at ih
        rw [joinA, ih]
        simp
    · rw [cutA_join b l]
      simp
theorem cutA_len (b : UInt8) : ∀ (l pre : List UInt8) (x : List UInt8), x ∈ cutA b pre l → x.length ≤ pre.length + l.length
  | [], pre, x, h => by
    simp [cutA] at h
    subst h
    simp
  | c :: l, pre, x, h => by
    rw [cutA] at h
    split at h
    · rcases List.mem_cons.1 h with rfl | h
      · simp
      · have := cutA_len b l [] x h
        simp at this ⊢
        omega
    · have := cutA_len b l _ x h
      simp at this ⊢
      omega
theorem cut_loop (s : ByteArray) (b : UInt8) (hs : s.size ≤ 1000) : ∀ (d i fr : Nat) (out : List ByteArray), i + d = s.size → fr ≤ i → out.length ≤ i →
    causewayref07_cut.l0 (d + 2) s (b.toNat : Int) out (fr : Int) (i : Int) = some (out ++ (cutA b ((s.data.toList.take i).drop fr) (s.data.toList.drop i)).map bs)
  | 0, i, fr, out, h, hf, ho => by
    have hi : i = s.size := by omega
    have hl := ts s
    have ex : s.extract fr i = bs ((s.data.toList.take i).drop fr) := by
      apply ba_ext
      rw [extract_data]
      simp [bs, List.drop_take]
    rw [causewayref07_cut.l0, if_pos (by omega), if_pos (by omega), if_pos (by omega), if_pos (by omega), if_pos (by omega)]
    have w1 : wrap64 ((i : Int) + 1) = ((i + 1 : Nat) : Int) := by unfold wrap64; omega
    rw [w1, causewayref07_cut.l0, if_neg (by omega)]
    have hd : s.data.toList.drop i = [] := List.drop_eq_nil_of_le (by omega)
    rw [Int.toNat_natCast, Int.toNat_natCast, ex, hd, cutA]
    rfl
  | d + 1, i, fr, out, h, hf, ho => by
    have hl := ts s
    have hi : i < s.size := by omega
    have ex : s.extract fr i = bs ((s.data.toList.take i).drop fr) := by
      apply ba_ext
      rw [extract_data]
      simp [bs, List.drop_take]
    have w1 : wrap64 ((i : Int) + 1) = ((i + 1 : Nat) : Int) := by unfold wrap64; omega
    have hd : s.data.toList.drop i = s.data.toList[i]'(by omega) :: s.data.toList.drop (i + 1) := List.drop_eq_getElem_cons (by omega)
    rw [causewayref07_cut.l0, if_pos (by omega), if_neg (by omega), if_pos (by omega), if_pos (by omega), bt_get s i hi, hd, cutA, w1]
    by_cases hc : s.data.toList[i]'(by omega) = b
    · rw [if_pos (by rw [hc]), if_pos (by omega), if_pos (by omega), if_pos (by omega), if_pos hc]
      have ih := cut_loop s b hs d (i + 1) (i + 1) (out ++ [s.extract fr i]) (by omega) (Nat.le_refl _) (by simp; omega)
      rw [Int.toNat_natCast, Int.toNat_natCast, ih, ex]
      have e : (s.data.toList.take (i + 1)).drop (i + 1) = [] := List.drop_eq_nil_of_le (by simp; omega)
      rw [e]
      simp
    · rw [if_neg (fun e => hc (UInt8.toNat_inj.1 (by exact_mod_cast e))), if_neg hc]
      have ih := cut_loop s b hs d (i + 1) fr out (by omega) (by omega) (by omega)
      rw [ih]
      congr 3
      rw [List.take_succ_eq_append_getElem (by omega), List.drop_append_of_le_length (by simp; omega)]
theorem cut_plain (s : ByteArray) (b : UInt8) (hs : s.size ≤ 1000) : causewayref07_cut.f (s.size + 2) s (b.toNat : Int) = some ((cutA b [] s.data.toList).map bs) := by
  unfold causewayref07_cut.f
  have := cut_loop s b hs s.size 0 0 [] (by omega) (Nat.le_refl _) (Nat.le_refl _)
  simpa using this
theorem lift_k {α : Type} {f : Nat → Option α} (hm : ∀ k, LeO (f k) (f (k + 1))) {k : Nat} {r : α} (h : f k = some r) : ∀ j, k ≤ j → f j = some r := by
  intro j hj
  obtain ⟨d, rfl⟩ : ∃ d, j = k + d := ⟨j - k, by omega⟩
  clear hj
  induction d with
  | zero => exact h
  | succ d ih => exact hm _ _ ih
end Go.Proofs.YtcociflljbaicaaDoor
namespace Go.Proofs.YtcociflljbaicaaDoor
open Go.RowKit (wrap64)
open Go.Lib Go.Proofs.YtcociflljbaicaaDoor.PTextPrefixes Go.Proofs.YtcociflljbaicaaDoorW.PrintWords Go.Proofs.YtcociflljbaicaaDoorW.PrintMore

theorem oct_len3 (a k : Nat) : (oct a k).length ≤ 3 := by
  unfold oct
  have h : a / 2 ^ k % 256 < 256 := Nat.mod_lt _ (by decide)
  generalize a / 2 ^ k % 256 = v at h
  have : ∀ v : Nat, v < 256 → (itoa (v : Int)).length ≤ 3 := by decide +kernel
  exact this v h
theorem itoa_len2 (n : Int) (h : 0 ≤ n ∧ n ≤ 32) : (itoa n).length ≤ 2 := by
  obtain ⟨v, rfl⟩ := Int.eq_ofNat_of_zero_le h.1
  have : ∀ v : Nat, v < 33 → (itoa (v : Int)).length ≤ 2 := by decide +kernel
  exact this v (by omega)
theorem pfx_len (a : Nat) (n : Int) (h : snd a n = true) : (pfxL a n).length ≤ 18 := by
  have h0 := oct_len3 a 24
  have h1 := oct_len3 a 16
  have h2 := oct_len3 a 8
  have h3 := oct_len3 a 0
  have h4 := itoa_len2 n (snd_bd h)
  simp [pfxL]
  omega
theorem itoa_no47 (n : Int) (h : 0 ≤ n) : ∀ c ∈ itoa n, c ≠ 47 := by
  obtain ⟨v, rfl⟩ := Int.eq_ofNat_of_zero_le h
  intro c hc e
  subst e
  change (47 : UInt8) ∈ itoa ((v : Nat) : Int) at hc
  rw [itoa_nonneg] at hc
  have := decDigits_dig _ _ hc
  revert this
  unfold dig
  decide
theorem good_halves (a : Nat) (n : Int) (h : snd a n = true) : cutA 47 [] (pfxL a n) = [adrL a, itoa n] := by
  rw [pfxL_eq, cutA_hit _ _ _ _ (adr_no a), cutA_plain _ _ _ (itoa_no47 n (snd_bd h).1)]
  simp
theorem good_bytes (a : Nat) : cutA 46 [] (adrL a) = [oct a 24, oct a 16, oct a 8, oct a 0] := by
  unfold adrL
  rw [cutA_hit _ _ _ _ (oct_no _ _ _ (by decide)), cutA_hit _ _ _ _ (oct_no _ _ _ (by decide)), cutA_hit _ _ _ _ (oct_no _ _ _ (by decide)), cutA_plain _ _ _ (oct_no _ _ _ (by decide))]
  simp
theorem pfx_inj {a a' : Nat} {n n' : Int} (ha : a < 4294967296) (ha' : a' < 4294967296) (h : snd a n = true) (h' : snd a' n' = true) (e : pfxL a n = pfxL a' n') : a = a' ∧ n = n' := by
  have e1 := good_halves a n h
  rw [e, good_halves a' n' h'] at e1
  simp only [List.cons.injEq, and_true] at e1
  have e2 := good_bytes a
  rw [← e1.1, good_bytes a'] at e2
  simp only [List.cons.injEq, and_true] at e2
  obtain ⟨o1, o2, o3, o4⟩ := e2
  have i1 := itoa_inj o1
  have i2 := itoa_inj o2
  have i3 := itoa_inj o3
  have i4 := itoa_inj o4
  have i5 := itoa_inj e1.2
  refine ⟨?_, i5.symm⟩
  simp only [Nat.reducePow] at i1 i2 i3 i4
  omega
theorem RP.unique {l : List UInt8} {a a' : Nat} {n n' e e' : Int} (h : RP l a n e) (h' : RP l a' n' e') : a = a' ∧ n = n' ∧ e = e' := by
  rcases h with ⟨h1, h2, h3, h4⟩ | ⟨h1, h2, h3, h4⟩ <;> rcases h' with ⟨k1, k2, k3, k4⟩ | ⟨k1, k2, k3, k4⟩
  · have := pfx_inj h3 k3 h2 k2 (h4 ▸ k4)
    exact ⟨this.1, this.2, by omega⟩
  · exact absurd h4 (k4 a n h3 h2)
  · exact absurd k4 (h4 a' n' k3 k2)
  · exact ⟨by omega, by omega, by omega⟩

theorem rl_step (k : Nat) (x4 ys : List ByteArray) (A i : Nat) (hA : A < 16777216) (hi : i < 4) (hy : ys.length = 4) (q : Int) (b : Bool) (hn : causewayref01_Number.f k (ys.getD i ByteArray.empty) = some (q, b)) :
    causewayref07_ReadPrefix.l0 (k + 1) x4 ys (A : Int) (i : Int) = if b = true ∧ 0 ≤ q ∧ q ≤ 255 then causewayref07_ReadPrefix.l0 k x4 ys ((A * 256 + q.toNat : Nat) : Int) ((i + 1 : Nat) : Int) else some (0, 0, 11) := by
  rw [causewayref07_ReadPrefix.l0, if_pos (by omega), if_pos (by omega), if_pos (by omega)]
  unfold rdOf
  rw [Int.toNat_natCast, hn]
  simp only [Option.bind_some]
  by_cases hb : b = true
  · rw [if_pos hb]
    by_cases h0 : q < 0
    · rw [if_pos h0, if_neg (by omega)]
    · rw [if_neg h0]
      by_cases h1 : q > 255
      · rw [if_pos h1, if_neg (by omega)]
      · rw [if_neg h1, if_pos ⟨hb, by omega, by omega⟩]
        have w1 : wrap64 (wrap64 ((A : Int) * 256) + q) = ((A * 256 + q.toNat : Nat) : Int) := by
          unfold wrap64
          omega
        have w2 : wrap64 ((i : Int) + 1) = ((i + 1 : Nat) : Int) := by unfold wrap64; omega
        rw [w1, w2]
  · rw [if_neg hb, if_neg (fun h => hb h.1)]
theorem rl_end (k : Nat) (hk : 40 ≤ k) (h0 h1 : ByteArray) (ys : List ByteArray) (A : Nat) (hA : A < 4294967296) (q : Int) (b : Bool) (hn : causewayref01_Number.f k h1 = some (q, b)) :
    causewayref07_ReadPrefix.l0 (k + 1) [h0, h1] ys (A : Int) ((4 : Nat) : Int) = if b = true ∧ snd A q = true then some ((A : Int), q, 0) else some (0, 0, 11) := by
  rw [causewayref07_ReadPrefix.l0, if_neg (by omega), if_pos (by simp)]
  unfold rdOf
  rw [show [h0, h1].getD (1 : Int).toNat ByteArray.empty = h1 from rfl, hn]
  simp only [Option.bind_some]
  have hp := lift_k (causewayref06_PrefixOk.mono (A : Int) q) (prefixOk_plain A hA q) k hk
  rw [show ((A : Int)) % 4294967296 = (A : Int) by omega, hp]
  cases b <;> simp
theorem num_get (y : List UInt8) : ∃ k q b, (∀ j, k ≤ j → causewayref01_Number.f j (bs y) = some (q, b)) ∧ NumR y q b := by
  obtain ⟨k, q, b, h1, h2⟩ := num_any (bs y)
  exact ⟨k, q, b, lift_k (causewayref01_Number.mono (bs y)) h1, h2⟩
end Go.Proofs.YtcociflljbaicaaDoor
namespace Go.Proofs.YtcociflljbaicaaDoor
open Go.RowKit (wrap64)
open Go.Lib Go.Proofs.YtcociflljbaicaaDoor.PTextPrefixes Go.Proofs.YtcociflljbaicaaDoorW.PrintWords Go.Proofs.YtcociflljbaicaaDoorW.PrintMore

theorem not_good {l : List UInt8} (h : ∀ a n, a < 4294967296 → snd a n = true → l = pfxL a n → False) : RP l 0 0 11 := .inr ⟨rfl, rfl, rfl, fun a n h1 h2 h3 => h a n h1 h2 h3⟩
theorem read_four (k : Nat) (hk : 50 ≤ k) (l h0 h1 y0 y1 y2 y3 : List UInt8) (hl : cutA 47 [] l = [h0, h1]) (hy : cutA 46 [] h0 = [y0, y1, y2, y3])
    (q0 q1 q2 q3 q4 : Int) (b0 b1 b2 b3 b4 : Bool)
    (n0 : ∀ j, k ≤ j + 9 → causewayref01_Number.f j (bs y0) = some (q0, b0)) (n1 : ∀ j, k ≤ j + 9 → causewayref01_Number.f j (bs y1) = some (q1, b1)) (n2 : ∀ j, k ≤ j + 9 → causewayref01_Number.f j (bs y2) = some (q2, b2)) (n3 : ∀ j, k ≤ j + 9 → causewayref01_Number.f j (bs y3) = some (q3, b3)) (n4 : ∀ j, k ≤ j + 9 → causewayref01_Number.f j (bs h1) = some (q4, b4))
    (r0 : NumR y0 q0 b0) (r1 : NumR y1 q1 b1) (r2 : NumR y2 q2 b2) (r3 : NumR y3 q3 b3) (r4 : NumR h1 q4 b4) :
    ∃ (a : Nat) (n e : Int), causewayref07_ReadPrefix.l0 k [bs h0, bs h1] [bs y0, bs y1, bs y2, bs y3] 0 0 = some ((a : Int), n, e) ∧ RP l a n e := by
  obtain ⟨k, rfl⟩ : ∃ j, k = j + 5 := ⟨k - 5, by omega⟩
  have good : ∀ a n, a < 4294967296 → snd a n = true → l = pfxL a n → (b0 = true ∧ q0 = ((a / 2 ^ 24 % 256 : Nat) : Int)) ∧ (b1 = true ∧ q1 = ((a / 2 ^ 16 % 256 : Nat) : Int)) ∧ (b2 = true ∧ q2 = ((a / 2 ^ 8 % 256 : Nat) : Int)) ∧ (b3 = true ∧ q3 = ((a / 2 ^ 0 % 256 : Nat) : Int)) ∧ (b4 = true ∧ q4 = n) := by
    intro a n ha hs e
    have e1 := good_halves a n hs
    rw [← e, hl] at e1
    simp only [List.cons.injEq, and_true] at e1
    have e2 := good_bytes a
    rw [← e1.1, hy] at e2
    simp only [List.cons.injEq, and_true] at e2
    obtain ⟨o1, o2, o3, o4⟩ := e2
    have hb := snd_bd hs
    exact ⟨r0.2 _ (by omega) (by omega) o1.symm, r1.2 _ (by omega) (by omega) o2.symm, r2.2 _ (by omega) (by omega) o3.symm, r3.2 _ (by omega) (by omega) o4.symm, r4.2 n (by omega) (by omega) e1.2.symm⟩
  have s0 := rl_step (k + 4) [bs h0, bs h1] [bs y0, bs y1, bs y2, bs y3] 0 0 (by decide) (by decide) rfl q0 b0 (n0 _ (by omega))
  rw [show (((0 : Nat) : Int)) = 0 from rfl] at s0
  rw [s0]
  by_cases c0 : b0 = true ∧ 0 ≤ q0 ∧ q0 ≤ 255
  rotate_left
  · rw [if_neg c0]
    refine ⟨0, 0, 11, rfl, not_good fun a n ha hs e => c0 ?_⟩
    have hg := (good a n ha hs e).1
    exact ⟨hg.1, by omega, by omega⟩
  rw [if_pos c0, rl_step (k + 3) [bs h0, bs h1] [bs y0, bs y1, bs y2, bs y3] (0 * 256 + q0.toNat) 1 (by omega) (by decide) rfl q1 b1 (n1 _ (by omega))]
  by_cases c1 : b1 = true ∧ 0 ≤ q1 ∧ q1 ≤ 255
  rotate_left
  · rw [if_neg c1]
    refine ⟨0, 0, 11, rfl, not_good fun a n ha hs e => c1 ?_⟩
    have hg := (good a n ha hs e).2.1
    exact ⟨hg.1, by omega, by omega⟩
  rw [if_pos c1, rl_step (k + 2) [bs h0, bs h1] [bs y0, bs y1, bs y2, bs y3] ((0 * 256 + q0.toNat) * 256 + q1.toNat) 2 (by omega) (by decide) rfl q2 b2 (n2 _ (by omega))]
  by_cases c2 : b2 = true ∧ 0 ≤ q2 ∧ q2 ≤ 255
  rotate_left
  · rw [if_neg c2]
    refine ⟨0, 0, 11, rfl, not_good fun a n ha hs e => c2 ?_⟩
    have hg := (good a n ha hs e).2.2.1
    exact ⟨hg.1, by omega, by omega⟩
  rw [if_pos c2, rl_step (k + 1) [bs h0, bs h1] [bs y0, bs y1, bs y2, bs y3] (((0 * 256 + q0.toNat) * 256 + q1.toNat) * 256 + q2.toNat) 3 (by omega) (by decide) rfl q3 b3 (n3 _ (by omega))]
  by_cases c3 : b3 = true ∧ 0 ≤ q3 ∧ q3 ≤ 255
  rotate_left
  · rw [if_neg c3]
    refine ⟨0, 0, 11, rfl, not_good fun a n ha hs e => c3 ?_⟩
    have hg := (good a n ha hs e).2.2.2.1
    exact ⟨hg.1, by omega, by omega⟩
  rw [if_pos c3, rl_end k (by omega) (bs h0) (bs h1) _ ((((0 * 256 + q0.toNat) * 256 + q1.toNat) * 256 + q2.toNat) * 256 + q3.toNat) (by omega) q4 b4 (n4 _ (by omega))]
  obtain ⟨A, hA⟩ : ∃ A, A = (((0 * 256 + q0.toNat) * 256 + q1.toNat) * 256 + q2.toNat) * 256 + q3.toNat := ⟨_, rfl⟩
  rw [← hA]
  have hA2 : A < 4294967296 := by omega
  have v0 : ((A / 2 ^ 24 % 256 : Nat) : Int) = q0 := by simp only [Nat.reducePow]; omega
  have v1 : ((A / 2 ^ 16 % 256 : Nat) : Int) = q1 := by simp only [Nat.reducePow]; omega
  have v2 : ((A / 2 ^ 8 % 256 : Nat) : Int) = q2 := by simp only [Nat.reducePow]; omega
  have v3 : ((A / 2 ^ 0 % 256 : Nat) : Int) = q3 := by simp only [Nat.reducePow]; omega
  by_cases c4 : b4 = true ∧ snd A q4 = true
  · rw [if_pos c4]
    refine ⟨A, q4, 0, rfl, .inl ⟨rfl, c4.2, hA2, ?_⟩⟩
    have j1 := cutA_join 47 l []
    have j2 := cutA_join 46 h0 []
    rw [hl] at j1
    rw [hy] at j2
    have t0 := (r0.1 c0.1).1
    have t1 := (r1.1 c1.1).1
    have t2 := (r2.1 c2.1).1
    have t3 := (r3.1 c3.1).1
    have t4 := (r4.1 c4.1).1
    rw [pfxL_eq]
    unfold adrL oct
    rw [v0, v1, v2, v3, t0, t1, t2, t3, t4]
    simp only [joinA, List.nil_append] at j1 j2
    rw [← j1, ← j2]
  · rw [if_neg c4]
    refine ⟨0, 0, 11, rfl, not_good fun a n ha hs e => c4 ?_⟩
    obtain ⟨g0, g1, g2, g3, g4⟩ := good a n ha hs e
    have : A = a := by
      have h0 := g0.2
      have h1 := g1.2
      have h2 := g2.2
      have h3 := g3.2
      simp only [Nat.reducePow] at h0 h1 h2 h3
      omega
    rw [this, g4.2]
    exact ⟨g4.1, hs⟩
theorem refRead_plain (s : ByteArray) : ∃ (k a : Nat) (n e : Int), causewayref07_ReadPrefix.f k s = some ((a : Int), n, e) ∧ RP s.data.toList a n e := by
  by_cases h18 : s.size > 18
  · refine ⟨0, 0, 0, 11, ?_, not_good fun a n ha hs e => ?_⟩
    · unfold causewayref07_ReadPrefix.f
      rw [if_pos (by omega)]
      rfl
    · have h1 := pfx_len a n hs
      rw [← e, ts] at h1
      omega
  have hc := fun (k : Nat) (hk : 20 ≤ k) => lift_k (causewayref07_cut.mono s 47) (cut_plain s 47 (by omega)) k (by omega)
  have hsz := fun x => cutA_len 47 s.data.toList [] x
  have hj := cutA_ne 47 s.data.toList []
  cases hh : cutA 47 [] s.data.toList with
  | nil => exact absurd hh hj
  | cons h0 t =>
    rw [hh] at hc hsz
    have hz0 : (bs h0).size ≤ 18 := by
      have := hsz h0 List.mem_cons_self
      rw [ts] at this
      rw [bs_size]
      simp at this
      omega
    have hc2 := fun (k : Nat) (hk : 20 ≤ k) => lift_k (causewayref07_cut.mono (bs h0) 46) (cut_plain (bs h0) 46 (by omega)) k (by omega)
    have hf : ∀ k, 20 ≤ k → causewayref07_ReadPrefix.f k s = if (((h0 :: t).map bs).length : Int) = 2 then causewayref07_ReadPrefix.j0 k ((h0 :: t).map bs) ((cutA 46 [] h0).map bs) ((((cutA 46 [] h0).map bs).length : Int) != 4) else causewayref07_ReadPrefix.j0 k ((h0 :: t).map bs) ((cutA 46 [] h0).map bs) true := by
      intro k hk
      unfold causewayref07_ReadPrefix.f
      have e1 := hc k hk
      have e2 := hc2 k hk
      rw [if_neg (by omega), e1]
      simp only [Option.bind_some]
      rw [if_pos (by simp)]
      rw [show rdOf ByteArray.empty ((h0 :: t).map bs) 0 = bs h0 from rfl, e2]
      rfl
    have fail : ∀ k, 20 ≤ k → causewayref07_ReadPrefix.j0 k ((h0 :: t).map bs) ((cutA 46 [] h0).map bs) true = some (0, 0, 11) := by
      intro k hk
      obtain ⟨j, rfl⟩ : ∃ j, k = j + 1 := ⟨k - 1, by omega⟩
      rw [causewayref07_ReadPrefix.j0, if_pos rfl]
    by_cases ht : t.length = 1
    rotate_left
    · refine ⟨20, 0, 0, 11, ?_, not_good fun a n ha hs e => ?_⟩
      · rw [hf 20 (Nat.le_refl _), if_neg (by simp; omega), fail 20 (Nat.le_refl _)]
        rfl
      · rw [e, good_halves a n hs] at hh
        injection hh with _ h2
        rw [← h2] at ht
        exact ht rfl
    obtain ⟨h1, rfl⟩ : ∃ h1, t = [h1] := List.length_eq_one_iff.1 ht
    by_cases hy : (cutA 46 [] h0).length = 4
    rotate_left
    · refine ⟨20, 0, 0, 11, ?_, not_good fun a n ha hs e => ?_⟩
      · rw [hf 20 (Nat.le_refl _), if_pos (by simp)]
        rw [show ((((cutA 46 [] h0).map bs).length : Int) != 4) = true by rw [List.length_map]; simp; omega, fail 20 (Nat.le_refl _)]
        rfl
      · rw [e, good_halves a n hs] at hh
        injection hh with h2 _
        rw [← h2, good_bytes] at hy
        exact hy rfl
    obtain ⟨y0, y1, y2, y3, hyy⟩ : ∃ y0 y1 y2 y3, cutA 46 [] h0 = [y0, y1, y2, y3] := by
      cases hc : cutA 46 [] h0 with
      | nil => rw [hc] at hy; simp at hy
      | cons y0 r =>
        rcases r with _ | ⟨y1, _ | ⟨y2, _ | ⟨y3, _ | ⟨y4, r⟩⟩⟩⟩ <;> rw [hc] at hy <;> simp at hy
        exact ⟨y0, y1, y2, y3, rfl⟩
    obtain ⟨k0, q0, b0, n0, r0⟩ := num_get y0
    obtain ⟨k1, q1, b1, n1, r1⟩ := num_get y1
    obtain ⟨k2, q2, b2, n2, r2⟩ := num_get y2
    obtain ⟨k3, q3, b3, n3, r3⟩ := num_get y3
    obtain ⟨k4, q4, b4, n4, r4⟩ := num_get h1
    obtain ⟨a, n, e, hres, hR⟩ := read_four (k0 + k1 + k2 + k3 + k4 + 60) (by omega) s.data.toList h0 h1 y0 y1 y2 y3 hh hyy q0 q1 q2 q3 q4 b0 b1 b2 b3 b4 (fun j hj => n0 j (by omega)) (fun j hj => n1 j (by omega)) (fun j hj => n2 j (by omega)) (fun j hj => n3 j (by omega)) (fun j hj => n4 j (by omega)) r0 r1 r2 r3 r4
    refine ⟨k0 + k1 + k2 + k3 + k4 + 60 + 1, a, n, e, ?_, hR⟩
    rw [hf _ (by omega), if_pos (by simp), hyy]
    rw [show (((([y0, y1, y2, y3].map bs).length : Nat) : Int) != 4) = false from rfl, causewayref07_ReadPrefix.j0, if_neg (by decide)]
    exact hres
open Go.RowKit in
theorem refRead_any (s : ByteArray) (a : Nat) (n e : Int) (hR : RP s.data.toList a n e) (w : World) :
    Calls Tryd.prog 8 #[.string s] w fun e' w' => e' = .returned (.tuple #[pv a n, .int .i64 e]) ∧ Below w.heap.size w w' := by
  obtain ⟨k, a', n', e', h, hR'⟩ := refRead_plain s
  obtain ⟨rfl, rfl, rfl⟩ := RP.unique hR hR'
  exact causewayref07_ReadPrefix.calls k s _ _ _ w h
end Go.Proofs.YtcociflljbaicaaDoor
