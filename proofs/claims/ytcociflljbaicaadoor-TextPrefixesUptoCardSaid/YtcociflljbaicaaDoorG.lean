/- ReadPrefix. -/
import Derived.Test.YtcociflljbaicaaDoorE
import Derived.Test.YtcociflljbaicaaDoorD
import Derived.Laws.ResultCell
namespace Go.Proofs.YtcociflljbaicaaDoor
open Go.RowKit Go.Lib

/-- What a text reads as. -/
def RP (l : List UInt8) (a : Nat) (n e : Int) : Prop :=
  (e = 0 ∧ snd a n = true ∧ a < 4294967296 ∧ l = pfxL a n) ∨ (a = 0 ∧ n = 0 ∧ e = 11 ∧ ∀ a' n', a' < 4294967296 → snd a' n' = true → l ≠ pfxL a' n')
theorem RP.total (l : List UInt8) : ∃ a n e, RP l a n e := by
  by_cases h : ∃ a' n', a' < 4294967296 ∧ snd a' n' = true ∧ l = pfxL a' n'
  · obtain ⟨a, n, h1, h2, h3⟩ := h
    exact ⟨a, n, 0, .inl ⟨rfl, h2, h1, h3⟩⟩
  · exact ⟨0, 0, 11, .inr ⟨rfl, rfl, rfl, fun a n h1 h2 h3 => h ⟨a, n, h1, h2, h3⟩⟩⟩
theorem snd_bd {a : Nat} {n : Int} (h : snd a n = true) : 0 ≤ n ∧ n ≤ 32 := by
  unfold snd at h
  simp only [Bool.and_eq_true, decide_eq_true_eq] at h
  exact h.1
structure RW (w : World) (R Pb Nb : Nat) (ws : List ByteArray) (A : Nat) (m : Int) : Prop where
  r0 : w.cell? ⟨R, 0, none⟩ = some (.int .u32 0)
  r1 : w.cell? ⟨R, 1, none⟩ = some (.int .i64 0)
  p0 : w.cell? ⟨Pb, 0, none⟩ = some (.int .u32 A)
  p1 : w.cell? ⟨Pb, 1, none⟩ = some (.int .i64 m)
  at_ : ∀ (j : Nat) (h : j < ws.length), w.cell? ⟨Nb, j, none⟩ = some (.string ws[j])
  f0 : w.frozen? ⟨R, 0, none⟩ = false
  f1 : w.frozen? ⟨R, 1, none⟩ = false
  g0 : w.frozen? ⟨Pb, 0, none⟩ = false
  g1 : w.frozen? ⟨Pb, 1, none⟩ = false
  rp : R < Pb
  pn : Pb < Nb
theorem RW.below {w w' : World} {R Pb Nb : Nat} {ws : List ByteArray} {A : Nat} {m : Int} (h : RW w R Pb Nb ws A m) (b : Below w.heap.size w w') : RW w' R Pb Nb ws A m := by
  have k : ∀ {p : Addr} {v : Value}, w.cell? p = some v → w'.cell? p = some v := fun h => (b.cell (World.block_lt_of_cell? _ _ h)).trans h
  have l0 := World.block_lt_of_cell? _ _ h.r0
  have l1 := World.block_lt_of_cell? _ _ h.p0
  exact ⟨k h.r0, k h.r1, k h.p0, k h.p1, fun j hj => k (h.at_ j hj), (b.frozen (p := ⟨R, 0, none⟩) l0).trans h.f0, (b.frozen (p := ⟨R, 1, none⟩) l0).trans h.f1, (b.frozen (p := ⟨Pb, 0, none⟩) l1).trans h.g0, (b.frozen (p := ⟨Pb, 1, none⟩) l1).trans h.g1, h.rp, h.pn⟩
theorem RW.set0 {w : World} {R Pb Nb : Nat} {ws : List ByteArray} {A : Nat} {m : Int} (h : RW w R Pb Nb ws A m) (B : Nat) : RW (w.setCell ⟨Pb, 0, none⟩ (.int .u32 B)) R Pb Nb ws B m := by
  have h1 := h.rp
  have h2 := h.pn
  have k : ∀ {p : Addr} {v : Value}, p ≠ ⟨Pb, 0, none⟩ → w.cell? p = some v → (w.setCell ⟨Pb, 0, none⟩ (.int .u32 B)).cell? p = some v := fun hn h => (World.cell?_setCell_other _ _ _ _ (Ne.symm hn)).trans h
  exact ⟨k (by intro e; injection e with e1; omega) h.r0, k (by intro e; injection e with e1; omega) h.r1, World.cell?_setCell_same _ _ _ h.p0, k (by simp) h.p1, fun j hj => k (by intro e; injection e with e1; omega) (h.at_ j hj), by rw [World.frozen?_setCell]; exact h.f0, by rw [World.frozen?_setCell]; exact h.f1, by rw [World.frozen?_setCell]; exact h.g0, by rw [World.frozen?_setCell]; exact h.g1, h1, h2⟩
theorem RW.set1 {w : World} {R Pb Nb : Nat} {ws : List ByteArray} {A : Nat} {m : Int} (h : RW w R Pb Nb ws A m) (B : Int) : RW (w.setCell ⟨Pb, 1, none⟩ (.int .i64 B)) R Pb Nb ws A B := by
  have h1 := h.rp
  have h2 := h.pn
  have k : ∀ {p : Addr} {v : Value}, p ≠ ⟨Pb, 1, none⟩ → w.cell? p = some v → (w.setCell ⟨Pb, 1, none⟩ (.int .i64 B)).cell? p = some v := fun hn h => (World.cell?_setCell_other _ _ _ _ (Ne.symm hn)).trans h
  exact ⟨k (by intro e; injection e with e1; omega) h.r0, k (by intro e; injection e with e1; omega) h.r1, k (by simp) h.p0, World.cell?_setCell_same _ _ _ h.p1, fun j hj => k (by intro e; injection e with e1; omega) (h.at_ j hj), by rw [World.frozen?_setCell]; exact h.f0, by rw [World.frozen?_setCell]; exact h.f1, by rw [World.frozen?_setCell]; exact h.g0, by rw [World.frozen?_setCell]; exact h.g1, h1, h2⟩

theorem cut_sizes (l sep : List UInt8) : (cut l sep).1.length ≤ l.length ∧ (cut l sep).2.1.length ≤ l.length := by
  unfold cut
  split
  · simp
    omega
  · simp
theorem splitB_sizes (sep : ByteArray) : ∀ (k : Nat) (s : ByteArray) (x : ByteArray), x ∈ splitB sep 0 k s → x.size ≤ s.size
  | 0, s, x, h => by
    simp only [splitB, List.mem_singleton] at h
    subst h
    exact Nat.le_refl _
  | k + 1, s, x, h => by
    unfold splitB at h
    split at h
    · simp only [List.mem_singleton] at h
      subst h
      exact Nat.le_refl _
    · rcases List.mem_cons.1 h with rfl | h
      · rw [ByteArray.size_extract]; omega
      · have := splitB_sizes sep k _ x h
        rw [ByteArray.size_extract] at this
        omega

theorem put8_mod (A : Nat) (n : Int) (h : A < 4294967296) : Go.bits .or .u32 ((A : Int) * 256 % 4294967296) (Go.bits .and .u32 (n % 4294967296) 255) = (put8 A n : Int) := by
  have := put8_val A n
  rw [IntKind.wrap_u32, IntKind.wrap_u32] at this
  exact this
theorem at_alloc (W : World) (ws : List ByteArray) (t : TypeId) (j : Nat) (h : j < ws.length) : (W.alloc (.cells (ws.map Value.string).toArray t)).cell? ⟨W.heap.size, j, none⟩ = some (.string ws[j]) := by
  simp only [World.cell?, World.alloc, Array.getElem?_push_size]
  simp [h]
theorem res7 (w : World) (tmps : Array Value) (R : Nat) (x y : Value) (e : Value) (hp : tmps.getD 2 undef = .pointer (some ⟨R, 0, none⟩)) (he : tmps.getD 3 undef = e) (h0 : w.cell? ⟨R, 0, none⟩ = some x) (h1 : w.cell? ⟨R, 1, none⟩ = some y) :
    (results Tryd.f7 tmps).run Tryd.prog w = .ok (.tuple #[.agg #[x, y], e]) w := by
  rw [results_cell_tmp (p := 2) (u := 3) (ty := 24) rfl, hp, he]
  go_simp
theorem two_set {w : World} {R : Nat} {x y : Value} (x' y' : Value) (h0 : w.cell? ⟨R, 0, none⟩ = some x) (h1 : w.cell? ⟨R, 1, none⟩ = some y) :
    ((w.setCell ⟨R, 0, none⟩ x').setCell ⟨R, 1, none⟩ y').cell? ⟨R, 0, none⟩ = some x' ∧ ((w.setCell ⟨R, 0, none⟩ x').setCell ⟨R, 1, none⟩ y').cell? ⟨R, 1, none⟩ = some y' := by
  have k0 := World.cell?_setCell_same w ⟨R, 0, none⟩ x' h0
  have k1 : (w.setCell ⟨R, 0, none⟩ x').cell? ⟨R, 1, none⟩ = some y := (World.cell?_setCell_other _ _ _ _ (by simp)).trans h1
  exact ⟨(World.cell?_setCell_other _ _ _ _ (by simp)).trans k0, World.cell?_setCell_same _ _ _ k1⟩
set_option maxHeartbeats 8000000 in
theorem ReadPrefix_any (s : ByteArray) (hs : s.size ≤ 1048576) (a : Nat) (n e : Int) (hR : RP s.data.toList a n e) (w : World) (hv : VarsW w) :
    Calls Tryd.prog 7 #[.string s] w fun e' w' => e' = .returned (.tuple #[pv a n, .int .i64 e]) ∧ Below w.heap.size w w' := by
  obtain ⟨m, hm⟩ := hv.ml
  obtain ⟨x, y, b, hcut⟩ : ∃ x y b, Hid (cut s.data.toList [47] = (x, y, b)) := ⟨_, _, _, Lib.hid rfl⟩
  have hxs : x.length ≤ 1048576 := by
    have := (cut_sizes s.data.toList [47]).1
    rw [hcut.out] at this
    have e := Lib.size_eq s
    simp only at this
    omega
  have hys : y.length ≤ 1048576 := by
    have := (cut_sizes s.data.toList [47]).2
    rw [hcut.out] at this
    have e := Lib.size_eq s
    simp only at this
    omega
  have HR := Lib.hid hR
  clear hR
  go_enter Tryd.func7, Tryd.ntmps7
  go_wp2_with fail
  refine (Tryd.strings_Cut s _ m _ (by omega) (by rw [World.cell?_alloc_old _ _ _ (Nat.ne_of_lt (World.block_lt_of_cell? _ _ hm))]; exact hm)).mono ?_
  rintro e' w1 ⟨rfl, j1, rfl⟩
  simp only [hcut.out]
  go_wp2_with fail
  obtain ⟨W0, hW0⟩ : ∃ W0, W0 = ((w.alloc (.cells #[.int .u32 0, .int .i64 0] 24)).drewN j1).alloc (.cells #[.int .u32 0, .int .i64 0] 24) := ⟨_, rfl⟩
  rw [← hW0]
  have hz0 : W0.heap.size = w.heap.size + 2 := by rw [hW0]; simp
  have hb0 : Below w.heap.size w W0 := by
    rw [hW0]
    exact (below_drewN ((Below.refl _ w).alloc (Nat.le_refl _) _) j1).alloc (by simp) _
  have r0 : W0.cell? ⟨w.heap.size, 0, none⟩ = some (.int .u32 0) := by rw [hW0]; go_simp
  have r1 : W0.cell? ⟨w.heap.size, 1, none⟩ = some (.int .i64 0) := by rw [hW0]; go_simp
  have p0 : W0.cell? ⟨w.heap.size + 1, 0, none⟩ = some (.int .u32 0) := by rw [hW0]; go_simp
  have p1 : W0.cell? ⟨w.heap.size + 1, 1, none⟩ = some (.int .i64 0) := by rw [hW0]; go_simp
  have f0 : W0.frozen? ⟨w.heap.size, 0, none⟩ = false := by rw [hW0, frozen?_alloc_cells]; show World.frozen? (w.alloc _) _ = _; rw [frozen?_alloc_cells]; simp [World.frozen?]
  have f1 : W0.frozen? ⟨w.heap.size, 1, none⟩ = false := by rw [hW0, frozen?_alloc_cells]; show World.frozen? (w.alloc _) _ = _; rw [frozen?_alloc_cells]; simp [World.frozen?]
  have g0 : W0.frozen? ⟨w.heap.size + 1, 0, none⟩ = false := by rw [hW0, frozen?_alloc_cells]; show World.frozen? (w.alloc _) _ = _; rw [frozen?_alloc_cells]; simp [World.frozen?]
  have g1 : W0.frozen? ⟨w.heap.size + 1, 1, none⟩ = false := by rw [hW0, frozen?_alloc_cells]; show World.frozen? (w.alloc _) _ = _; rw [frozen?_alloc_cells]; simp [World.frozen?]
  clear hW0
  have hv0 := hv.below hb0
  obtain ⟨m0, hm0⟩ := hv0.ml
  have c46 : 1 ≤ (bs [46]).size := by rw [bs_size]; decide
  have hx : (bs x).size ≤ 1048576 := by rw [bs_size]; exact hxs
  have hlen := splitB_all (bs [46]) c46 0 _ (bs x) rfl
  have hsz := splitB_sizes (bs [46]) (countB (bs x) (bs [46])) (bs x)
  have hle := countB_le (bs [46]) c46 _ (bs x) (Nat.le_refl _)
  have hsp := Tryd.strings_Split (bs x) (bs [46]) m0 W0 (by omega) hm0 c46
  have hG : e = 0 → snd a n = true ∧ a < 4294967296 ∧ x = adrL a ∧ y = itoa n := by
    intro he
    rcases HR.out with ⟨_, h1, h2, h3⟩ | ⟨_, _, h1, _⟩
    · have := hcut.out
      rw [h3, cut_pfx] at this
      injection this with t1 t2
      injection t2 with t2 t3
      exact ⟨h1, h2, t1.symm, t2.symm⟩
    · omega
  have hGw : e = 0 → splitB (bs [46]) 0 (countB (bs x) (bs [46])) (bs x) = [bs (oct a 24), bs (oct a 16), bs (oct a 8), bs (oct a 0)] := by
    intro he
    rw [(hG he).2.2.1]
    exact adr_words a
  obtain ⟨K, hK⟩ : ∃ K, countB (bs x) (bs [46]) = K := ⟨_, rfl⟩
  rw [hK] at hlen hsz hle hsp hGw
  obtain ⟨ws, hws⟩ : ∃ ws, splitB (bs [46]) 0 K (bs x) = ws := ⟨_, rfl⟩
  rw [hws] at hlen hsz hsp hGw
  clear hws hK
  refine hsp.mono ?_
  rintro e' w2 ⟨rfl, rfl⟩
  clear hsp
  have RW2 : RW (W0.alloc (.cells (ws.map Value.string).toArray 9)) w.heap.size (w.heap.size + 1) W0.heap.size ws 0 0 :=
    ⟨by rw [World.cell?_alloc_old _ _ _ (by simp; omega)]; exact r0, by rw [World.cell?_alloc_old _ _ _ (by simp; omega)]; exact r1, by rw [World.cell?_alloc_old _ _ _ (by simp; omega)]; exact p0, by rw [World.cell?_alloc_old _ _ _ (by simp; omega)]; exact p1, fun j hj => at_alloc W0 ws 9 j hj, by rw [frozen?_alloc_cells]; exact f0, by rw [frozen?_alloc_cells]; exact f1, by rw [frozen?_alloc_cells]; exact g0, by rw [frozen?_alloc_cells]; exact g1, by omega, by omega⟩
  have hb2 : Below w.heap.size w (W0.alloc (.cells (ws.map Value.string).toArray 9)) := hb0.alloc (by omega) _
  have hN0 : w.heap.size + 1 < W0.heap.size := by omega
  obtain ⟨Nb, hNb⟩ : ∃ Nb, Nb = W0.heap.size := ⟨_, rfl⟩
  rw [← hNb] at RW2 hN0 ⊢
  obtain ⟨W2, hW2⟩ : ∃ W2, W2 = W0.alloc (.cells (ws.map Value.string).toArray 9) := ⟨_, rfl⟩
  rw [← hW2] at RW2 hb2 ⊢
  clear hW2 hNb r0 r1 p0 p1 hb0 hv0 hm0 hz0
  go_wp2_with fail
  go_loopw [24] (fun i wr => ∃ (k A : Nat), i = .int .i64 k ∧ k ≤ K + 1 ∧ A < 4294967296 ∧ (e = 0 → A = part a k) ∧ Below w.heap.size w wr ∧ RW wr w.heap.size (w.heap.size + 1) Nb ws A 0) (fun i _ => (K + 1 - kOf i).toNat)
  case atStart => exact ⟨0, 0, rfl, Nat.zero_le _, by decide, fun he => by unfold part; have := (hG he).2.1; omega, hb2, RW2⟩
  case round =>
    clear hb2 RW2
    obtain ⟨k, A, rfl, hk, hA, hGA, hb, hr⟩ := hrel
    by_cases hlt : k < K + 1
    · have hkw : k < ws.length := by omega
      have hw0 := hr.at_ k hkw
      have hwz : ws[k].size ≤ 140737488351232 := by have := hsz _ (List.getElem_mem hkw); omega
      have hv1 := hv.below hb
      have hp0 := hr.p0
      go_wp2_with fail
      refine (Atoi_any ws[k] hwz _ hv1).mono ?_
      rintro e' w3 ⟨q, ev, rfl, hq, hb3⟩
      have hr3 := hr.below hb3
      have hp3 := hr3.p0
      have hb4 := hb.trans (hb3.mono hb.size)
      have hf3 := hr3.g0
      go_wp2_with fail
      rw [put8_mod A q hA]
      go_roundw
      case rel =>
        refine ⟨k + 1, put8 A q, rfl, by omega, put8_lt A q, ?_, hb4.setCell (by simp) _, hr3.set0 _⟩
        intro he
        have hA1 := hGA he
        have hw1 := hGw he
        have hk4 : k < 4 := by rw [hw1] at hkw; simpa using hkw
        have hwk : ws[k] = bs (oct a (24 - 8 * k)) := by
          have hk' : k = 0 ∨ k = 1 ∨ k = 2 ∨ k = 3 := by omega
          subst hw1
          rcases hk' with rfl | rfl | rfl | rfl <;> rfl
        have hq1 := hq _ (by rw [hwk]; exact oct_atoi a (24 - 8 * k))
        rw [hA1, hq1]
        exact part_next a (hG he).2.1 k hk4
      case measure => simp only [kOf]; omega
    · obtain rfl : k = K + 1 := by omega
      have hv1 := hv.below hb
      go_wp2_with fail
      refine (Atoi_any (bs y) (by rw [bs_size]; omega) _ hv1).mono ?_
      rintro e' w3 ⟨q, ev, rfl, hq, hb3⟩
      have hr3 := hr.below hb3
      have hp3 := hr3.p1
      have hp30 := hr3.p0
      have hf3 := hr3.g1
      have hb4 := hb.trans (hb3.mono hb.size)
      have hGq : e = 0 → A = a ∧ q = n := by
        intro he
        obtain ⟨h1, h2, h3, h4⟩ := hG he
        have hw1 := hGw he
        have hK4 : K + 1 = 4 := by rw [← hlen, hw1]; rfl
        have hb := snd_bd h1
        refine ⟨by rw [hGA he, hK4]; simp [part], hq n ?_⟩
        rw [h4]
        exact atoi_itoa n hb.1 (by omega)
      go_wp2_with fail
      obtain ⟨W4, hW4⟩ : ∃ W4, W4 = w3.setCell ⟨w.heap.size + 1, 1, none⟩ (.int .i64 q) := ⟨_, rfl⟩
      rw [← hW4]
      have hr4 : RW W4 w.heap.size (w.heap.size + 1) Nb ws A q := by rw [hW4]; exact hr3.set1 q
      have hb5 : Below w.heap.size w W4 := by rw [hW4]; exact hb4.setCell (by simp) _
      clear hW4 hr3 hp3 hf3 hp30 hr
      have hv4 := hv.below hb5
      by_cases hsd : snd A q = true
      · refine (Prefix_good A hA q hsd (snd_bd hsd) W4 hv4).mono ?_
        rintro e' w5 ⟨rfl, hb6⟩
        have hr5 := hr4.below hb6
        have hb7 := hb5.trans (hb6.mono hb5.size)
        obtain ⟨t, ht⟩ : ∃ t, Hid (bs (pfxL A q) = t) := ⟨_, Lib.hid rfl⟩
        rw [ht.out]
        have rp0 := hr5.p0
        have rp1 := hr5.p1
        have rr0 := hr5.r0
        have rr1 := hr5.r1
        have ff0 := hr5.f0
        have ff1 := hr5.f1
        by_cases heq : t = s
        · have he0 : e = 0 ∧ A = a ∧ q = n := by
            rcases HR.out with ⟨h0, _⟩ | ⟨_, _, _, h4⟩
            · exact ⟨h0, hGq h0⟩
            · exfalso
              refine h4 A q hA hsd ?_
              rw [← heq, ← ht.out]
              rfl
          have hst : (t.toList == s.toList) = true := by rw [heq]; simp
          go_wp2_with fail
          refine bodyPost_ret (res7 _ _ w.heap.size _ _ _ rfl rfl (two_set _ _ rr0 rr1).1 (two_set _ _ rr0 rr1).2) rfl ⟨?_, (hb7.setCell (Nat.le_refl _) _).setCell (Nat.le_refl _) _⟩
          obtain ⟨rfl, h5, h6⟩ := he0
          have hpa := hGA rfl
          rw [h5] at hpa
          rw [← hpa]
          rfl
        · have hst : (t.toList == s.toList) = false := by
            rw [← Bool.not_eq_true]
            intro h
            refine heq (ba_ext ?_)
            have := eq_of_beq h
            rwa [Lib.toList_data, Lib.toList_data] at this
          have he0 : a = 0 ∧ n = 0 ∧ e = 11 := by
            rcases HR.out with ⟨h0, h1, h2, h3⟩ | ⟨h1, h2, h3, _⟩
            · exfalso
              obtain ⟨h5, h6⟩ := hGq h0
              refine heq (ba_ext ?_)
              rw [← ht.out, h3, h5, h6]
              rfl
            · exact ⟨h1, h2, h3⟩
          go_wp2_with fail
          refine bodyPost_ret (res7 _ _ w.heap.size _ _ _ rfl rfl (two_set _ _ rr0 rr1).1 (two_set _ _ rr0 rr1).2) rfl ⟨?_, (hb7.setCell (Nat.le_refl _) _).setCell (Nat.le_refl _) _⟩
          obtain ⟨rfl, rfl, rfl⟩ := he0
          rfl
      · have hsd' : snd A q = false := by simpa using hsd
        refine (Prefix_bad A hA q hsd' W4).mono ?_
        rintro e' w5 ⟨rfl, hb6⟩
        have hr5 := hr4.below hb6
        have hb7 := hb5.trans (hb6.mono hb5.size)
        have rr0 := hr5.r0
        have rr1 := hr5.r1
        have ff0 := hr5.f0
        have ff1 := hr5.f1
        have he0 : a = 0 ∧ n = 0 ∧ e = 11 := by
          rcases HR.out with ⟨h0, h1, h2, h3⟩ | ⟨h1, h2, h3, _⟩
          · exfalso
            obtain ⟨h5, h6⟩ := hGq h0
            rw [h5, h6, h1] at hsd'
            cases hsd'
          · exact ⟨h1, h2, h3⟩
        go_wp2_with fail
        refine bodyPost_ret (res7 _ _ w.heap.size _ _ _ rfl rfl (two_set _ _ rr0 rr1).1 (two_set _ _ rr0 rr1).2) rfl ⟨?_, (hb7.setCell (Nat.le_refl _) _).setCell (Nat.le_refl _) _⟩
        obtain ⟨rfl, rfl, rfl⟩ := he0
        rfl
end Go.Proofs.YtcociflljbaicaaDoor
