/- The reader and the state of ReadEdit -/
import Derived.Test.YtcociflljbaicaaDoorZC
namespace Go.Proofs.YtcociflljbaicaaDoor
open Go.RowKit Go.Lib

/-- A slice that reads as the words, apart from a box R. -/
def Wd (w : World) (R H : Nat) (sl : Value) (ls : List (List UInt8)) : Prop :=
  ∃ a cap, sl = .slice a ls.length cap ∧ ls.length ≤ cap ∧ cap ≤ 4611686018427387904 ∧ (ls = [] ∨ ∃ b off, a = some ⟨b, off, none⟩ ∧ b ≠ R ∧ b < H ∧ ∀ (j : Nat) l, ls[j]? = some l → w.cell? ⟨b, off + j, none⟩ = some (.string (bs l)))
theorem Wd.keep {w w' : World} {R H : Nat} {sl : Value} {ls : List (List UInt8)} (h : Wd w R H sl ls) (k : Keep (fun k => k = R) w w') : Wd w' R H sl ls := by
  obtain ⟨a, cap, h1, h2, h3, h4⟩ := h
  refine ⟨a, cap, h1, h2, h3, ?_⟩
  rcases h4 with h4 | ⟨b, off, h5, h6, h6', h7⟩
  · exact .inl h4
  · exact .inr ⟨b, off, h5, h6, h6', fun j l hj => k.cell (a := ⟨b, off + j, none⟩) (h7 j l hj) h6⟩
/-- A reader at R: the words that are left, and whether a word was bad. -/
structure RS (w0 w : World) (R H : Nat) (ls : List (List UInt8)) (bad : Bool) : Prop where
  hb : Below w0.heap.size w0 w
  hR : w0.heap.size ≤ R
  hH : R < H
  HW : H ≤ w.heap.size
  c0 : ∃ sl, w.cell? ⟨R, 0, none⟩ = some sl ∧ Wd w R H sl ls
  c1 : w.cell? ⟨R, 1, none⟩ = some (.bool bad)
  f : ∀ j, w.frozen? ⟨R, j, none⟩ = false
theorem RS.lt {w0 w : World} {R H : Nat} {ls : List (List UInt8)} {bad : Bool} (h : RS w0 w R H ls bad) : R < w.heap.size := Nat.lt_of_lt_of_le h.hH h.HW
theorem RS.below {w0 w w2 : World} {R H : Nat} {ls : List (List UInt8)} {bad : Bool} (h : RS w0 w R H ls bad) (b : Below w.heap.size w w2) : RS w0 w2 R H ls bad := by
  obtain ⟨sl, h1, h2⟩ := h.c0
  have hx : ∀ {i : Nat} {u : Value}, w.cell? ⟨R, i, none⟩ = some u → w2.cell? ⟨R, i, none⟩ = some u := fun e => (b.cell h.lt).trans e
  exact ⟨h.hb.trans (b.mono h.hb.size), h.hR, h.hH, Nat.le_trans h.HW b.size, ⟨sl, hx h1, h2.keep (Keep.of_below b)⟩, hx h.c1, fun j => (b.frozen (p := ⟨R, j, none⟩) h.lt).trans (h.f j)⟩
theorem RS.set1 {w0 w : World} {R H : Nat} {ls : List (List UInt8)} {bad : Bool} (h : RS w0 w R H ls bad) (b : Bool) : RS w0 (w.setCell ⟨R, 1, none⟩ (.bool b)) R H ls b := by
  obtain ⟨sl, h1, h2⟩ := h.c0
  have hK : Keep (fun k => k = R) w (w.setCell ⟨R, 1, none⟩ (.bool b)) := (Keep.refl (fun k => k = R) w).setCell _ _ (.inl rfl)
  exact ⟨Below.keep h.hb h.hb.size hK (fun k hk => by rw [hk]; exact h.hR), h.hR, h.hH, Nat.le_trans h.HW hK.size, ⟨sl, (World.cell?_setCell_other _ _ _ _ (by simp)).trans h1, h2.keep hK⟩, World.cell?_setCell_same _ _ _ h.c1, fun j => by rw [World.frozen?_setCell]; exact h.f j⟩
theorem RS.set0 {w0 w : World} {R H : Nat} {ls r : List (List UInt8)} {bad : Bool} {sl : Value} (h : RS w0 w R H ls bad) (hs : Wd w R H sl r) : RS w0 (w.setCell ⟨R, 0, none⟩ sl) R H r bad := by
  obtain ⟨sl0, h1, h2⟩ := h.c0
  have hK : Keep (fun k => k = R) w (w.setCell ⟨R, 0, none⟩ sl) := (Keep.refl (fun k => k = R) w).setCell _ _ (.inl rfl)
  exact ⟨Below.keep h.hb h.hb.size hK (fun k hk => by rw [hk]; exact h.hR), h.hR, h.hH, Nat.le_trans h.HW hK.size, ⟨sl, World.cell?_setCell_same _ _ _ h1, hs.keep hK⟩, (World.cell?_setCell_other _ _ _ _ (by simp)).trans h.c1, fun j => by rw [World.frozen?_setCell]; exact h.f j⟩
/-- A store to a box that was made behind the reader. -/
theorem RS.out {w0 w : World} {R H : Nat} {ls : List (List UInt8)} {bad : Bool} (h : RS w0 w R H ls bad) {P : Nat} (hP : H ≤ P) (i : Nat) (v : Value) : RS w0 (w.setCell ⟨P, i, none⟩ v) R H ls bad := by
  obtain ⟨sl, h1, a, cap, g1, g2, g3, g4⟩ := h.c0
  have hne : ∀ {b j : Nat}, b < H → (⟨b, j, none⟩ : Addr) ≠ ⟨P, i, none⟩ := fun hb e => by injection e with e _; omega
  have hK : Keep (fun k => k = P) w (w.setCell ⟨P, i, none⟩ v) := (Keep.refl (fun k => k = P) w).setCell _ _ (.inl rfl)
  refine ⟨Below.keep h.hb h.hb.size hK (fun k hk => by rw [hk]; have := h.hR; have := h.hH; omega), h.hR, h.hH, Nat.le_trans h.HW hK.size, ⟨sl, ?_, a, cap, g1, g2, g3, ?_⟩, ?_, fun j => by rw [World.frozen?_setCell]; exact h.f j⟩
  · exact (hK.cell h1 (fun e => by have := h.hH; simp only at e; omega))
  · rcases g4 with g4 | ⟨b, off, g5, g6, g7, g8⟩
    · exact .inl g4
    · exact .inr ⟨b, off, g5, g6, g7, fun j l hj => hK.cell (g8 j l hj) (fun e => by simp only at e; omega)⟩
  · exact (hK.cell h.c1 (fun e => by have := h.hH; simp only at e; omega))
set_option maxHeartbeats 4000000 in
set_option maxRecDepth 100000 in
theorem word_any {w0 w : World} {R H : Nat} {ls : List (List UInt8)} {bad : Bool} (hS : RS w0 w R H ls bad) :
    Calls Tryd.prog 22 #[.pointer (some ⟨R, 0, none⟩)] w fun e w' => e = .returned (.string (bs (ls.headD []))) ∧ RS w0 w' R H ls.tail (bad || ls.isEmpty) ∧ Keep (fun k => k = R) w w' := by
  obtain ⟨sl, q0, a, cap, rfl, hc1, hc2, hcs⟩ := hS.c0
  have q1 := hS.c1
  have qf := hS.f
  cases ls with
  | nil =>
    simp only [List.length_nil] at q0 hc1
    go_enter Tryd.func22, Tryd.ntmps22
    go_wp2_with fail
    go_ret
    refine ⟨rfl, ?_, (Keep.refl (fun k => k = R) w).setCell _ _ (.inl rfl)⟩
    have := hS.set1 true
    simpa using this
  | cons l r =>
    rcases hcs with hcs | ⟨b, off, rfl, hbR, hbH, hcell⟩
    · cases hcs
    have d0 := hcell 0 l rfl
    rw [Nat.add_zero] at d0
    have hne : decide (((l :: r).length : Int) = 0) = false := by simp; omega
    have hln : (l :: r).length = r.length + 1 := rfl
    rw [hln] at q0 hc1
    go_enter Tryd.func22, Tryd.ntmps22
    go_wp2_with fail
    all_goals
      go_ret
      refine ⟨rfl, ?_, (Keep.refl (fun k => k = R) w).setCell _ _ (.inl rfl)⟩
    · exact hS.set0 ⟨_, _, rfl, by omega, by omega, .inl (List.eq_nil_of_length_eq_zero (by omega))⟩
    · refine hS.set0 ⟨_, _, rfl, by omega, by omega, .inr ⟨b, off + 1, rfl, hbR, hbH, fun j l' hj => ?_⟩⟩
      rw [Nat.add_assoc, Nat.add_comm 1 j]
      exact hcell (j + 1) l' hj
set_option maxHeartbeats 4000000 in
set_option maxRecDepth 100000 in
theorem done_any {w0 w : World} {R H : Nat} {ls : List (List UInt8)} {bad : Bool} (h : RS w0 w R H ls bad) :
    Calls Tryd.prog 27 #[.pointer (some ⟨R, 0, none⟩)] w fun e w' => e = .returned (.bool (ls.isEmpty && !bad)) ∧ w = w' := by
  obtain ⟨sl, q0, a, cap, rfl, hc1, hc2, hcs⟩ := h.c0
  have q1 := h.c1
  clear hcs
  cases ls with
  | nil =>
    simp only [List.length_nil] at q0 hc1
    go_enter Tryd.func27, Tryd.ntmps27
    go_wp2_with fail
    go_ret
    exact ⟨ret_bool (by simp), rfl⟩
  | cons l r =>
    have hln : (l :: r).length = r.length + 1 := rfl
    rw [hln] at q0 hc1
    go_enter Tryd.func27, Tryd.ntmps27
    go_wp2_with fail
    all_goals
      go_ret
      exact ⟨ret_bool (by simp; try omega), rfl⟩
end Go.Proofs.YtcociflljbaicaaDoor
namespace Go.Proofs.YtcociflljbaicaaDoor
open Go.RowKit Go.Lib

/-- How a number is read. -/
def RI (ls : List (List UInt8)) (bad : Bool) (n : Int) (b : Bool) : Prop :=
  (b = false → bad = false ∧ I64 n ∧ ls.head? = some (itoa n)) ∧ ∀ m, I64 m → bad = false → ls.head? = some (itoa m) → b = false
theorem head_of {ls : List (List UInt8)} {l : List UInt8} (h : ls.head? = some l) : ls.headD [] = l ∧ ls.isEmpty = false := by
  cases ls with
  | nil => cases h
  | cons x r => injection h with h; exact ⟨h, rfl⟩
theorem bs_differ {x y : List UInt8} (h : x ≠ y) : ((bs x).toList == (bs y).toList) = false := by
  rw [beq_eq_false_iff_ne]
  intro e
  rw [Lib.toList_data, Lib.toList_data] at e
  exact h e
theorem bs_same (t : ByteArray) : (t.toList == t.toList) = true := by simp
theorem atoi_back (n : Int) (h : I64 n) : atoiAll (itoa n) = .ok n := by
  by_cases h0 : 0 ≤ n
  · exact atoi_itoa n h0 h.2
  · obtain ⟨u, rfl⟩ : ∃ u : Nat, n = -(u : Int) := ⟨n.natAbs, by omega⟩
    have hu : u ≤ 9223372036854775808 := by have := h.1; omega
    rw [itoa_neg u (by omega), atoiAll_minus]
    have hv := decDigits_val u
    have hp := parse_dig (decDigits u) (decDigits_dig u) 0 (by rw [hv]; omega)
    rw [hv] at hp
    have hm : parseMag (decDigits u) = .ok u := by
      unfold parseMag
      rw [if_neg (decDigits_ne u)]
      exact hp
    rw [hm]
    unfold signed
    simp only
    rw [if_neg (by omega)]
theorem headD_len {ls : List (List UInt8)} {n : Nat} (h : ∀ l ∈ ls, l.length ≤ n) : (ls.headD []).length ≤ n := by
  cases ls with
  | nil => exact Nat.zero_le _
  | cons x r => exact h x List.mem_cons_self
set_option maxHeartbeats 400000 in
set_option maxRecDepth 100000 in
theorem int_rd {w0 w : World} {R H : Nat} {ls : List (List UInt8)} {bad : Bool} (hS : RS w0 w R H ls bad) (hv : VarsW w0) (hl : ∀ l ∈ ls, l.length ≤ 1048576) :
    Calls Tryd.prog 24 #[.pointer (some ⟨R, 0, none⟩)] w fun e w' => ∃ n b, e = .returned (.int .i64 n) ∧ RS w0 w' R H ls.tail b ∧ Keep (fun k => k = R) w w' ∧ RI ls bad n b := by
  have hsz := headD_len hl
  have hW := word_any hS
  have hhd : ∀ m : List UInt8, ls.head? = some m → ls.headD [] = m ∧ ls.isEmpty = false := fun m hm => head_of hm
  have hls : ls.isEmpty = false → ls.head? = some (ls.headD []) := by
    intro he
    cases ls with
    | nil => cases he
    | cons x r => rfl
  unfold RI
  generalize ls.headD [] = l at *
  generalize ls.head? = lh at *
  generalize ls.isEmpty = em at *
  go_enter Tryd.func24, Tryd.ntmps24
  go_wp2_with fail
  refine hW.mono ?_
  rintro e w1 ⟨rfl, h1, k1⟩
  have hbs : (bs l).size ≤ 1048576 := by rw [bs_size]; exact hsz
  by_cases hok : ∃ v, atoiAll (bs l).data.toList = .ok v
  · obtain ⟨v, hok⟩ := hok
    have hbd := atoiAll_bounds hok
    go_wp2_with fail
    refine (Atoi_ok (bs l) (by omega) v hok w1).mono ?_
    rintro e w2 ⟨rfl, hb2⟩
    have h2 := h1.below hb2
    go_wp2_with fail
    refine (Itoa_bs v hbd.1 hbd.2 w2 (hv.below h2.hb)).mono ?_
    rintro e w3 ⟨rfl, hb3⟩
    have h3 := h2.below hb3
    have k3 : Keep (fun k => k = R) w w3 := (k1.trans (Keep.of_below hb2)).trans (Keep.of_below hb3)
    have q1 := h3.c1
    have qf := h3.f
    have hvI : I64 v := ⟨hbd.1, by omega⟩
    by_cases hvl : itoa v = l
    · rw [hvl]
      have tt := bs_same (bs l)
      go_wp2_with fail
      all_goals
        go_ret
        refine ⟨v, bad || em, rfl, h3, k3, ?_, ?_⟩
        · intro hb
          have he : em = false := by revert hb; cases bad <;> cases em <;> decide
          exact ⟨by revert hb; cases bad <;> cases em <;> decide, hvI, by rw [hls he, hvl]⟩
        · intro m hm hb hh
          rw [hb, (hhd _ hh).2]
          rfl
    · have tt := bs_differ hvl
      go_wp2_with fail
      all_goals
        go_ret
        refine ⟨v, true, rfl, h3.set1 true, k3.setCell _ _ (.inl rfl), fun hb => (nomatch hb), fun m hm hb hh => ?_⟩
        have hml := (hhd _ hh).1
        have e1 := atoi_back m hm
        have e2 : atoiAll l = .ok v := hok
        rw [hml, e1] at e2
        injection e2 with e2
        rw [hml, e2] at hvl
        exact absurd rfl hvl
  · go_wp2_with fail
    refine (Atoi_bad (bs l) (by omega) (fun v hv' => hok ⟨v, hv'⟩) w1 (hv.below h1.hb)).mono ?_
    rintro e w2 ⟨n, N, rfl, hb2⟩
    have h2 := h1.below hb2
    have k2 : Keep (fun k => k = R) w w2 := k1.trans (Keep.of_below hb2)
    have q1 := h2.c1
    have qf := h2.f
    go_wp2_with fail
    all_goals
      go_ret
      refine ⟨n, true, rfl, h2.set1 true, k2.setCell _ _ (.inl rfl), fun hb => (nomatch hb), fun m hm hb hh => ?_⟩
      have hml := (hhd _ hh).1
      have e1 := atoi_back m hm
      exact absurd ⟨m, by rw [bs_data, hml]; exact e1⟩ hok
end Go.Proofs.YtcociflljbaicaaDoor
namespace Go.Proofs.YtcociflljbaicaaDoor
open Go.RowKit Go.Lib

/-- How a place is read. -/
def RSp (ls : List (List UInt8)) (bad : Bool) (p q : Nat) (b : Bool) : Prop :=
  (b = false → ∃ x y, bad = false ∧ P20 x ∧ P20 y ∧ p = fi x ∧ q = fi y ∧ ls = itoa x :: itoa y :: ls.tail.tail) ∧ ∀ x y r, P20 x → P20 y → bad = false → ls = itoa x :: itoa y :: r → b = false
theorem cons_head {ls : List (List UInt8)} {l : List UInt8} (h : ls.head? = some l) : ls = l :: ls.tail := by
  cases ls with
  | nil => cases h
  | cons x r => injection h with h; rw [h]; rfl
theorem tail_len {ls : List (List UInt8)} {n : Nat} (h : ∀ l ∈ ls, l.length ≤ n) : ∀ l ∈ ls.tail, l.length ≤ n := fun l hl => h l (List.mem_of_mem_tail hl)
set_option maxHeartbeats 4000000 in
set_option maxRecDepth 100000 in
theorem spot_rd {w0 w : World} {R H : Nat} {ls : List (List UInt8)} {bad : Bool} (hS : RS w0 w R H ls bad) (hv : VarsW w0) (hl : ∀ l ∈ ls, l.length ≤ 1048576) :
    Calls Tryd.prog 25 #[.pointer (some ⟨R, 0, none⟩)] w fun e w' => ∃ p q b, e = .returned (.complex .f64 p q) ∧ RS w0 w' R H ls.tail.tail b ∧ Keep (fun k => k = R) w w' ∧ RSp ls bad p q b := by
  go_enter Tryd.func25, Tryd.ntmps25
  go_wp2_with fail
  refine (int_rd hS hv hl).mono ?_
  rintro e w1 ⟨x, b1, rfl, h1, k1, r1⟩
  go_wp2_with fail
  refine (int_rd h1 hv (tail_len hl)).mono ?_
  rintro e w2 ⟨y, b2, rfl, h2, k2, r2⟩
  have k3 := k1.trans k2
  have q1 := h2.c1
  have qf := h2.f
  have f1 := back_fi x
  have f2 := back_fi y
  by_cases hp : P20 x ∧ P20 y
  · have g1 : decide (min x y < -1048576) = false := by unfold P20 at hp; simp; omega
    have g2 : decide (max x y > 1048576) = false := by unfold P20 at hp; simp; omega
    go_wp2_with fail
    go_ret
    refine ⟨fi x, fi y, b2, rfl, h2, k3, fun hb => ?_, fun x' y' r hx' hy' hbd e => ?_⟩
    · obtain ⟨e1, e2, e3⟩ := r2.1 hb
      obtain ⟨e4, e5, e6⟩ := r1.1 e1
      exact ⟨x, y, e4, hp.1, hp.2, rfl, rfl, by rw [← cons_head e3]; exact cons_head e6⟩
    · refine r2.2 y' hy'.i64 (r1.2 x' hx'.i64 hbd (by rw [e]; rfl)) (by rw [e]; rfl)
  · have hfin : RSp ls bad 0 0 true := by
      refine ⟨fun hb => (nomatch hb), fun x' y' r hx' hy' hbd e => ?_⟩
      exfalso
      have e1 : b1 = false := r1.2 x' hx'.i64 hbd (by rw [e]; rfl)
      have e2 : b2 = false := r2.2 y' hy'.i64 e1 (by rw [e]; rfl)
      obtain ⟨_, _, e3⟩ := r2.1 e2
      obtain ⟨_, _, e4⟩ := r1.1 e1
      rw [e] at e3 e4
      injection e3 with e3
      injection e4 with e4
      rw [← itoa_inj e3, ← itoa_inj e4] at hp
      exact hp ⟨hx', hy'⟩
    by_cases g : min x y < -1048576
    · have g1 : decide (min x y < -1048576) = true := decide_eq_true g
      go_wp2_with fail
      all_goals
        go_ret
        exact ⟨0, 0, true, rfl, h2.set1 true, k3.setCell _ _ (.inl rfl), hfin⟩
    · have g1 : decide (min x y < -1048576) = false := decide_eq_false g
      have g2 : decide (max x y > 1048576) = true := by unfold P20 at hp; simp; omega
      go_wp2_with fail
      all_goals
        go_ret
        exact ⟨0, 0, true, rfl, h2.set1 true, k3.setCell _ _ (.inl rfl), hfin⟩
/-- How a prefix is read. -/
def RPx (ls : List (List UInt8)) (bad : Bool) (a : Nat) (n : Int) (b : Bool) : Prop :=
  (b = false → bad = false ∧ a < 4294967296 ∧ snd a n = true ∧ ls.head? = some (pfxL a n)) ∧ ∀ a' n', a' < 4294967296 → snd a' n' = true → bad = false → ls.head? = some (pfxL a' n') → b = false
theorem results_cell1 {fn : Func} {p : Tmp} {ty : TypeId} (h : fn.results = #[.cell p ty]) (tmps : Array Value) (P : Program) (w : World) :
    (results fn tmps).run P w = ((asAddr (tmps.getD p undef)).run P w).andThen fun a w₁ => ((loadVar ty a).run P w₁) := by
  simp only [results, h]
  simp [Sem.run_bind, Result.andThen]
theorem res26 (w : World) (tmps : Array Value) (R : Nat) (x y : Value) (hp : tmps.getD 2 undef = .pointer (some ⟨R, 0, none⟩)) (h0 : w.cell? ⟨R, 0, none⟩ = some x) (h1 : w.cell? ⟨R, 1, none⟩ = some y) :
    (results Tryd.f26 tmps).run Tryd.prog w = .ok (.agg #[x, y]) w := by
  rw [results_cell1 (p := 2) (ty := 24) rfl, hp]
  go_simp
set_option maxHeartbeats 4000000 in
set_option maxRecDepth 100000 in
theorem prefix_rd {w0 w : World} {R H : Nat} {ls : List (List UInt8)} {bad : Bool} (hS : RS w0 w R H ls bad) (hv : VarsW w0) (hl : ∀ l ∈ ls, l.length ≤ 1048576) :
    Calls Tryd.prog 26 #[.pointer (some ⟨R, 0, none⟩)] w fun e w' => ∃ a n b, e = .returned (pv a n) ∧ RS w0 w' R H ls.tail b ∧ Keep (fun k => k = R) w w' ∧ RPx ls bad a n b := by
  have hA := (Below.refl _ w).alloc (Nat.le_refl _) (.cells #[.int .u32 0, .int .i64 0] 24)
  have h0 := hS.below hA
  obtain ⟨a, n, er, hR⟩ := RP.total (ls.headD [])
  have hsz := headD_len hl
  have hRl := hS.lt
  have hne : w.heap.size ≠ R := by omega
  have hW := word_any h0
  have hhd : ∀ m : List UInt8, ls.head? = some m → ls.headD [] = m ∧ ls.isEmpty = false := fun m hm => head_of hm
  have hls : ls.isEmpty = false → ls.head? = some (ls.headD []) := by
    intro he
    cases ls with
    | nil => cases he
    | cons x r => rfl
  have hH := hS.HW
  unfold RPx
  generalize ls.headD [] = l at *
  generalize ls.head? = lh at *
  generalize ls.isEmpty = em at *
  generalize ls.tail = lt at *
  clear h0 hS hl
  go_enter Tryd.func26, Tryd.ntmps26
  go_wp2_with fail
  refine hW.mono ?_
  rintro e w1 ⟨rfl, h1, k1⟩
  have p0 := k1.cell (box_new w #[.int .u32 0, .int .i64 0] 24 0 _ rfl) hne
  have p1 := k1.cell (box_new w #[.int .u32 0, .int .i64 0] 24 1 _ rfl) hne
  have pf := fun j => k1.unfrozen (a := ⟨w.heap.size, j, none⟩) (b := false) (by simp) (free_new w #[.int .u32 0, .int .i64 0] 24 j) hne
  go_wp2_with fail
  refine (ReadPrefix_any (bs l) (by rw [bs_size]; exact hsz) a n er hR w1 (hv.below h1.hb)).mono ?_
  rintro e w2 ⟨rfl, hb2⟩
  have hB := hb2.alloc hb2.size (.cells #[.int .u32 a, .int .i64 n] 24)
  have h2 := h1.below hB
  have hK : Keep (fun k => k = R) w (w2.alloc (.cells #[.int .u32 a, .int .i64 n] 24)) := (((Keep.of_below hA).trans k1).trans (Keep.of_below hb2)).alloc _
  have hz : w.heap.size < w2.heap.size := by have h1 := k1.size; have h2 := hb2.size; simp at h1; omega
  have pp0 := (hB.cell (World.block_lt_of_cell? _ _ p0)).trans p0
  have pp1 := (hB.cell (World.block_lt_of_cell? _ _ p1)).trans p1
  have ppf := fun j => (hB.frozen (p := ⟨w.heap.size, j, none⟩) (show w.heap.size < w1.heap.size from World.block_lt_of_cell? _ _ p0)).trans (pf j)
  have t0 := box_new w2 #[.int .u32 a, .int .i64 n] 24 0 _ rfl
  have t1 := box_new w2 #[.int .u32 a, .int .i64 n] 24 1 _ rfl
  have tf := fun j => free_new w2 #[.int .u32 a, .int .i64 n] 24 j
  have q1 := h2.c1
  have qf := h2.f
  clear p0 p1 pf hW
  unfold pv
  have hRP : (er = 0 ∧ snd a n = true ∧ a < 4294967296 ∧ l = pfxL a n) ∨ (er = 11 ∧ ∀ a' n', a' < 4294967296 → snd a' n' = true → l ≠ pfxL a' n') := by
    rcases hR with ⟨g1, g2, g3, g4⟩ | ⟨_, _, g3, g4⟩
    · exact .inl ⟨g1, g2, g3, g4⟩
    · exact .inr ⟨g3, g4⟩
  have HRP := Lib.hid hRP
  clear hRP hR
  generalize hbe : (bad || em) = c at q1
  have key : ∀ b : Bool, b = (c || (er != 0)) → (b = false → bad = false ∧ a < 4294967296 ∧ snd a n = true ∧ lh = some (pfxL a n)) ∧ ∀ a' n', a' < 4294967296 → snd a' n' = true → bad = false → lh = some (pfxL a' n') → b = false := by
    intro b hb
    refine ⟨fun hb0 => ?_, fun a' n' ha' hs' hbd hh => ?_⟩
    · rw [hb0, ← hbe] at hb
      have e1 : bad = false := by revert hb; cases bad <;> simp
      have e2 : em = false := by revert hb; cases em <;> simp
      have e3 : er = 0 := by
        have : (er != 0) = false := by revert hb; cases (er != 0) <;> simp
        simpa using this
      rcases HRP.out with ⟨_, g2, g3, g4⟩ | ⟨g1, _⟩
      · exact ⟨e1, g3, g2, by rw [hls e2, g4]⟩
      · omega
    · obtain ⟨g1, g2⟩ := hhd _ hh
      rcases HRP.out with ⟨g3, _⟩ | ⟨_, g4⟩
      · rw [hb, ← hbe, hbd, g2, g3]
        rfl
      · exact absurd g1 (g4 a' n' ha' hs')
  have KEY := Lib.hid key
  have HBE := Lib.hid hbe
  have her : er = 0 ∨ er = 11 := by rcases HRP.out with ⟨g, _⟩ | ⟨g, _⟩; exact .inl g; exact .inr g
  clear key hbe HRP hhd hls
  have fin : ∀ (b : Bool), RS w0 ((((w2.alloc (.cells #[.int .u32 a, .int .i64 n] 24)).setCell ⟨R, 1, none⟩ (.bool b)).setCell ⟨w.heap.size, 0, none⟩ (.int .u32 a)).setCell ⟨w.heap.size, 1, none⟩ (.int .i64 n)) R H lt b ∧ Keep (fun k => k = R) w ((((w2.alloc (.cells #[.int .u32 a, .int .i64 n] 24)).setCell ⟨R, 1, none⟩ (.bool b)).setCell ⟨w.heap.size, 0, none⟩ (.int .u32 a)).setCell ⟨w.heap.size, 1, none⟩ (.int .i64 n)) := fun b =>
    ⟨((h2.set1 b).out hH 0 _).out hH 1 _, ((hK.setCell _ _ (.inl rfl)).setCell _ _ (.inr (Nat.le_refl _))).setCell _ _ (.inr (Nat.le_refl _))⟩
  have hother : ∀ (b : Bool) (p : Addr) (v : Value), p.block ≠ R → (w2.alloc (.cells #[.int .u32 a, .int .i64 n] 24)).cell? p = some v → ((w2.alloc (.cells #[.int .u32 a, .int .i64 n] 24)).setCell ⟨R, 1, none⟩ (.bool b)).cell? p = some v := fun b p v hp e => (World.cell?_setCell_other _ _ _ _ (fun e => hp (by cases e; rfl))).trans e
  have s0 := fun b => hother b _ _ hne pp0
  have s1 := fun b => hother b _ _ hne pp1
  have hne2 : w2.heap.size ≠ R := by omega
  have u0 := fun b => hother b _ _ hne2 t0
  have u1 := fun b => hother b _ _ hne2 t1
  have sf : ∀ (b : Bool) j, ((w2.alloc (.cells #[.int .u32 a, .int .i64 n] 24)).setCell ⟨R, 1, none⟩ (.bool b)).frozen? ⟨w.heap.size, j, none⟩ = false := fun b j => by rw [World.frozen?_setCell]; exact ppf j
  clear hother h1 h2 hK hb2 hB k1 hA
  have rsl : ∀ b : Bool, ∀ tmps : Array Value, tmps.getD 2 undef = .pointer (some ⟨w.heap.size, 0, none⟩) → (results Tryd.f26 tmps).run Tryd.prog ((((w2.alloc (.cells #[.int .u32 a, .int .i64 n] 24)).setCell ⟨R, 1, none⟩ (.bool b)).setCell ⟨w.heap.size, 0, none⟩ (.int .u32 a)).setCell ⟨w.heap.size, 1, none⟩ (.int .i64 n)) = .ok (.agg #[.int .u32 a, .int .i64 n]) _ :=
    fun b tmps h => res26 _ tmps w.heap.size _ _ h (two_set _ _ (s0 b) (s1 b)).1 (two_set _ _ (s0 b) (s1 b)).2
  cases c
  · rcases her with rfl | rfl
    · go_wp2_with fail
      exact bodyPost_ret (rsl false _ rfl) rfl ⟨a, n, false, rfl, (fin false).1, (fin false).2, KEY.out false rfl⟩
    · go_wp2_with fail
      exact bodyPost_ret (rsl true _ rfl) rfl ⟨a, n, true, rfl, (fin true).1, (fin true).2, KEY.out true rfl⟩
  · go_wp2_with fail
    exact bodyPost_ret (rsl true _ rfl) rfl ⟨a, n, true, rfl, (fin true).1, (fin true).2, KEY.out true (by simp)⟩
end Go.Proofs.YtcociflljbaicaaDoor
namespace Go.Proofs.YtcociflljbaicaaDoor
open Go.RowKit Go.Lib

theorem split_cut (b : UInt8) : ∀ (n : Nat) (l : List UInt8), l.length ≤ n → splitK [b] 0 (l.count b) l = cutA b [] l ∧ (cutA b [] l).length = l.count b + 1
  | n, l, hn => by
    by_cases h : b ∈ l
    · obtain ⟨x, y, rfl, hx⟩ := List.eq_append_cons_of_mem h
      have hx' : ∀ c ∈ x, c ≠ b := fun c hc e => hx (e ▸ hc)
      have hc : (x ++ b :: y).count b = y.count b + 1 := by
        rw [List.count_append, List.count_eq_zero.2 hx, List.count_cons_self]
        omega
      rw [hc, splitK_hit b _ x y hx', cutA_hit b y x [] hx']
      cases n with
      | zero => simp at hn
      | succ n =>
        obtain ⟨h1, h2⟩ := split_cut b n y (by simp at hn; omega)
        rw [h1, List.length_cons, h2]
        exact ⟨by simp, rfl⟩
    · rw [List.count_eq_zero.2 h, cutA_plain b l [] (fun c hc e => h (e ▸ hc))]
      exact ⟨by simp [splitK], rfl⟩
theorem split_words (s : ByteArray) : splitB (bs [32]) 0 (countB s (bs [32])) s = (cutA 32 [] s.data.toList).map bs ∧ countB s (bs [32]) + 1 = (cutA 32 [] s.data.toList).length ∧ (cutA 32 [] s.data.toList).length ≤ s.size + 1 := by
  have h := split_cut 32 _ s.data.toList (Nat.le_refl _)
  have hc : countB s (bs [32]) = s.data.toList.count 32 := (count_one _ _)
  rw [hc]
  have hl : s.data.toList.count 32 ≤ s.size := by have := List.count_le_length (a := (32 : UInt8)) (l := s.data.toList); have e := Lib.size_eq s; omega
  exact ⟨map_bs ((splitB_data _ _ _ _).trans h.1), h.2.symm, by rw [h.2]; omega⟩
theorem strs_map (ls : List (List UInt8)) : (ls.map bs).map Value.string = strs ls := by
  rw [List.map_map]
  rfl
def upd (v : Nat → Value) (j : Nat) (x : Value) : Nat → Value := fun i => if i = j then x else v i
/-- While ReadEdit reads: the reader R, the result's box P, the edit's box E. -/
structure PS (w0 wr : World) (P R H E : Nat) (ls : List (List UInt8)) (bad : Bool) (v : Nat → Value) : Prop where
  rs : RS w0 wr R H ls bad
  hP : w0.heap.size ≤ P
  PR : P ≠ R
  PH : P < H
  HE : H ≤ E
  Elt : E < wr.heap.size
  p : ∀ j, j < 9 → ∃ u, wr.cell? ⟨P, j, none⟩ = some u
  pf : ∀ j, wr.frozen? ⟨P, j, none⟩ = false
  e : ∀ j, j < 9 → wr.cell? ⟨E, j, none⟩ = some (v j)
  ef : ∀ j, wr.frozen? ⟨E, j, none⟩ = false
theorem PS.next {w0 wr w2 : World} {P R H E : Nat} {ls l2 : List (List UInt8)} {bad b2 : Bool} {v : Nat → Value} (h : PS w0 wr P R H E ls bad v) (k : Keep (fun k => k = R) wr w2) (r : RS w0 w2 R H l2 b2) : PS w0 w2 P R H E l2 b2 v := by
  have hE : E ≠ R := by have := h.HE; have := h.rs.hH; omega
  have hPlt : P < wr.heap.size := by have := h.PH; have := h.HE; have := h.Elt; omega
  refine ⟨r, h.hP, h.PR, h.PH, h.HE, Nat.lt_of_lt_of_le h.Elt k.size, fun j hj => ?_, fun j => k.unfrozen (a := ⟨P, j, none⟩) hPlt (h.pf j) h.PR, fun j hj => k.cell (h.e j hj) hE, fun j => k.unfrozen (a := ⟨E, j, none⟩) h.Elt (h.ef j) hE⟩
  obtain ⟨u, hu⟩ := h.p j hj
  exact ⟨u, k.cell hu h.PR⟩
theorem PS.below {w0 wr w2 : World} {P R H E : Nat} {ls : List (List UInt8)} {bad : Bool} {v : Nat → Value} (h : PS w0 wr P R H E ls bad v) (b : Below wr.heap.size wr w2) : PS w0 w2 P R H E ls bad v :=
  h.next (Keep.of_below b) (h.rs.below b)
theorem PS.set {w0 wr : World} {P R H E : Nat} {ls : List (List UInt8)} {bad : Bool} {v : Nat → Value} (h : PS w0 wr P R H E ls bad v) (j : Nat) (x : Value) : PS w0 (wr.setCell ⟨E, j, none⟩ x) P R H E ls bad (upd v j x) := by
  have hPE : P ≠ E := by have := h.PH; have := h.HE; omega
  refine ⟨h.rs.out h.HE j x, h.hP, h.PR, h.PH, h.HE, by rw [World.size_setCell]; exact h.Elt, fun i hi => ?_, fun i => by rw [World.frozen?_setCell]; exact h.pf i, fun i hi => ?_, fun i => by rw [World.frozen?_setCell]; exact h.ef i⟩
  · obtain ⟨u, hu⟩ := h.p i hi
    exact ⟨u, (World.cell?_setCell_other _ _ _ _ (by intro e; injection e with e _; exact hPE e.symm)).trans hu⟩
  · unfold upd
    by_cases e : i = j
    · subst e
      rw [if_pos rfl]
      exact World.cell?_setCell_same _ _ _ (h.e i hi)
    · rw [if_neg e]
      exact (World.cell?_setCell_other _ _ _ _ (by intro e2; injection e2 with _ e2; exact e e2.symm)).trans (h.e i hi)
theorem PS.set1 {w0 wr : World} {P R H E : Nat} {ls : List (List UInt8)} {bad : Bool} {v : Nat → Value} (h : PS w0 wr P R H E ls bad v) (b : Bool) : PS w0 (wr.setCell ⟨R, 1, none⟩ (.bool b)) P R H E ls b v :=
  h.next ((Keep.refl (fun k => k = R) wr).setCell _ _ (.inl rfl)) (h.rs.set1 b)
/-- The kind whose word is the first one, of the kinds below i. -/
def kf (first : List UInt8) : Nat → Nat
  | 0 => 0
  | i + 1 => if 0 < i ∧ W i = first then i else kf first i
theorem kf_of (first : List UInt8) : ∀ i, (kf first i = 0 ∧ ∀ j, 0 < j → j < i → W j ≠ first) ∨ (0 < kf first i ∧ kf first i < i ∧ W (kf first i) = first)
  | 0 => .inl ⟨rfl, fun j h1 h2 => by omega⟩
  | i + 1 => by
    unfold kf
    by_cases h : 0 < i ∧ W i = first
    · rw [if_pos h]
      exact .inr ⟨h.1, Nat.lt_succ_self i, h.2⟩
    · rw [if_neg h]
      rcases kf_of first i with ⟨h1, h2⟩ | ⟨h1, h2, h3⟩
      · refine .inl ⟨h1, fun j hj hji e => ?_⟩
        by_cases hq : j = i
        · subst hq
          exact h ⟨hj, e⟩
        · exact h2 j hj (by omega) e
      · exact .inr ⟨h1, by omega, h3⟩
theorem PS.ext {w0 wr : World} {P R H E : Nat} {ls : List (List UInt8)} {bad : Bool} {v v' : Nat → Value} (h : PS w0 wr P R H E ls bad v) (hv : ∀ j, j < 9 → v j = v' j) : PS w0 wr P R H E ls bad v' :=
  ⟨h.rs, h.hP, h.PR, h.PH, h.HE, h.Elt, h.p, h.pf, fun j hj => by rw [← hv j hj]; exact h.e j hj, h.ef⟩
theorem PS.name {w0 wr : World} {P R H E : Nat} {ls : List (List UInt8)} {bad : Bool} {v : Nat → Value} (_ : PS w0 wr P R H E ls bad v) : ∃ W, wr = W := ⟨_, rfl⟩
/-- The zero edit's cells. -/
def v0 : Nat → Value := fun j => if j = 5 then .complex .f64 0 0 else if j = 6 then .int .u32 0 else if j = 8 then .bool false else .int .i64 0
def zc : Array Value := #[.int .i64 0, .int .i64 0, .int .i64 0, .int .i64 0, .int .i64 0, .complex .f64 0 0, .int .u32 0, .int .i64 0, .bool false]
theorem zc_at : ∀ j, j < 9 → zc[j]? = some (v0 j) := by
  intro j hj
  match j, hj with
  | 0, _ | 1, _ | 2, _ | 3, _ | 4, _ | 5, _ | 6, _ | 7, _ | 8, _ => rfl
theorem start0 (w : World) (ws : List (List UInt8)) (hl : ws.length ≤ 1048577) (t1 t2 t3 : TypeId) (R : Nat) (hR : R = w.heap.size + 1 + 1) (B : Nat) (hB : B = w.heap.size + 1) (W2 : World)
    (hW : W2 = (((w.alloc (.cells zc t1)).alloc (.cells (strs ws).toArray t2)).alloc (.cells #[.slice (some ⟨B, 0, none⟩) ws.length ws.length, .bool false] t3))) :
    RS w W2 R (R + 1) ws false ∧ (∀ j, j < 9 → ∃ u, W2.cell? ⟨w.heap.size, j, none⟩ = some u) ∧ ∀ j, W2.frozen? ⟨w.heap.size, j, none⟩ = false := by
  have s1 : (w.alloc (.cells zc t1)).heap.size = w.heap.size + 1 := by simp
  have s2 : ((w.alloc (.cells zc t1)).alloc (.cells (strs ws).toArray t2)).heap.size = w.heap.size + 1 + 1 := by simp
  have b1 := (Below.refl _ w).alloc (Nat.le_refl _) (.cells zc t1)
  have b2 := (Below.refl _ (w.alloc (.cells zc t1))).alloc (Nat.le_refl _) (.cells (strs ws).toArray t2)
  have b3 := (Below.refl _ ((w.alloc (.cells zc t1)).alloc (.cells (strs ws).toArray t2))).alloc (Nat.le_refl _) (.cells #[.slice (some ⟨B, 0, none⟩) ws.length ws.length, .bool false] t3)
  have b23 := b2.trans (b3.mono b2.size)
  have c0 := box_new ((w.alloc (.cells zc t1)).alloc (.cells (strs ws).toArray t2)) #[.slice (some ⟨B, 0, none⟩) ws.length ws.length, .bool false] t3 0 _ rfl
  have c1 := box_new ((w.alloc (.cells zc t1)).alloc (.cells (strs ws).toArray t2)) #[.slice (some ⟨B, 0, none⟩) ws.length ws.length, .bool false] t3 1 _ rfl
  have cf := fun j => free_new ((w.alloc (.cells zc t1)).alloc (.cells (strs ws).toArray t2)) #[.slice (some ⟨B, 0, none⟩) ws.length ws.length, .bool false] t3 j
  rw [s2, ← hR] at c0 c1
  simp only [s2, ← hR] at cf
  rw [← hW] at b3 b23 c0 c1
  simp only [← hW] at cf
  refine ⟨⟨b1.trans (b23.mono b1.size), by omega, Nat.lt_succ_self R, by rw [hW]; simp; omega, ⟨_, c0, some ⟨B, 0, none⟩, _, rfl, Nat.le_refl _, by omega, .inr ⟨B, 0, rfl, by omega, by omega, fun j l hj => ?_⟩⟩, c1, cf⟩, fun j hj => ⟨v0 j, ?_⟩, fun j => ?_⟩
  · rw [Nat.zero_add]
    have h1 := box_new (w.alloc (.cells zc t1)) (strs ws).toArray t2 j (.string (bs l)) (by
      rw [← Array.getElem?_toList]
      simp only [strs, List.getElem?_map]
      rw [hj]
      rfl)
    rw [s1, ← hB] at h1
    exact (b3.cell (World.block_lt_of_cell? _ _ h1)).trans h1
  · have h1 := box_new w zc t1 j _ (zc_at j hj)
    exact (b23.cell (World.block_lt_of_cell? _ _ h1)).trans h1
  · exact (b23.frozen (p := ⟨w.heap.size, j, none⟩) (by rw [s1]; simp)).trans (free_new w zc t1 j)
theorem PS.start {w0 w : World} {P R H : Nat} {ls : List (List UInt8)} {bad : Bool} (h : RS w0 w R H ls bad) (hP : w0.heap.size ≤ P) (hPR : P ≠ R) (hPH : P < H) (p : ∀ j, j < 9 → ∃ u, w.cell? ⟨P, j, none⟩ = some u) (pf : ∀ j, w.frozen? ⟨P, j, none⟩ = false) :
    PS w0 (w.alloc (.cells zc 34)) P R H w.heap.size ls bad v0 := by
  have b := (Below.refl _ w).alloc (Nat.le_refl _) (.cells zc 34)
  refine ⟨h.below b, hP, hPR, hPH, h.HW, by simp, fun j hj => ?_, fun j => (b.frozen (p := ⟨P, j, none⟩) (by have := h.HW; show P < _; omega)).trans (pf j), fun j hj => box_new w zc 34 j _ (zc_at j hj), fun j => free_new w zc 34 j⟩
  obtain ⟨u, hu⟩ := p j hj
  exact ⟨u, (b.cell (World.block_lt_of_cell? _ _ hu)).trans hu⟩
theorem res10 (w : World) (tmps : Array Value) (R : Nat) (x0 x1 x2 x3 x4 x5 x6 x7 x8 : Value) (e : Value) (hp : tmps.getD 2 undef = .pointer (some ⟨R, 0, none⟩)) (he : tmps.getD 3 undef = e) (h0 : w.cell? ⟨R, 0, none⟩ = some x0) (h1 : w.cell? ⟨R, 1, none⟩ = some x1) (h2 : w.cell? ⟨R, 2, none⟩ = some x2) (h3 : w.cell? ⟨R, 3, none⟩ = some x3) (h4 : w.cell? ⟨R, 4, none⟩ = some x4) (h5 : w.cell? ⟨R, 5, none⟩ = some x5) (h6 : w.cell? ⟨R, 6, none⟩ = some x6) (h7 : w.cell? ⟨R, 7, none⟩ = some x7) (h8 : w.cell? ⟨R, 8, none⟩ = some x8) :
    (results Tryd.f10 tmps).run Tryd.prog w = .ok (.tuple #[.agg #[x0, x1, x2, x3, x4, x5, x6, x7, x8], e]) w := by
  rw [results_cell_tmp (p := 2) (u := 3) (ty := 34) rfl, hp, he]
  go_simp
theorem res11 (w : World) (tmps : Array Value) (R : Nat) (x0 x1 x2 x3 x4 x5 x6 x7 x8 : Value) (e : Value) (hp : tmps.getD 2 undef = .pointer (some ⟨R, 0, none⟩)) (he : tmps.getD 3 undef = e) (h0 : w.cell? ⟨R, 0, none⟩ = some x0) (h1 : w.cell? ⟨R, 1, none⟩ = some x1) (h2 : w.cell? ⟨R, 2, none⟩ = some x2) (h3 : w.cell? ⟨R, 3, none⟩ = some x3) (h4 : w.cell? ⟨R, 4, none⟩ = some x4) (h5 : w.cell? ⟨R, 5, none⟩ = some x5) (h6 : w.cell? ⟨R, 6, none⟩ = some x6) (h7 : w.cell? ⟨R, 7, none⟩ = some x7) (h8 : w.cell? ⟨R, 8, none⟩ = some x8) :
    (results Tryd.f11 tmps).run Tryd.prog w = .ok (.tuple #[.agg #[x0, x1, x2, x3, x4, x5, x6, x7, x8], e]) w := by
  rw [results_cell_tmp (p := 2) (u := 3) (ty := 34) rfl, hp, he]
  go_simp
/-- Nine stores to a box. -/
def set9 (w : World) (P : Nat) (x0 x1 x2 x3 x4 x5 x6 x7 x8 : Value) : World := (((((((((w.setCell ⟨P, 0, none⟩ x0).setCell ⟨P, 1, none⟩ x1).setCell ⟨P, 2, none⟩ x2).setCell ⟨P, 3, none⟩ x3).setCell ⟨P, 4, none⟩ x4).setCell ⟨P, 5, none⟩ x5).setCell ⟨P, 6, none⟩ x6).setCell ⟨P, 7, none⟩ x7).setCell ⟨P, 8, none⟩ x8)
theorem set9_at {w : World} {P : Nat} (x0 x1 x2 x3 x4 x5 x6 x7 x8 : Value) (h : ∀ j, j < 9 → ∃ u, w.cell? ⟨P, j, none⟩ = some u) :
    (set9 w P x0 x1 x2 x3 x4 x5 x6 x7 x8).cell? ⟨P, 0, none⟩ = some x0 ∧ (set9 w P x0 x1 x2 x3 x4 x5 x6 x7 x8).cell? ⟨P, 1, none⟩ = some x1 ∧ (set9 w P x0 x1 x2 x3 x4 x5 x6 x7 x8).cell? ⟨P, 2, none⟩ = some x2 ∧ (set9 w P x0 x1 x2 x3 x4 x5 x6 x7 x8).cell? ⟨P, 3, none⟩ = some x3 ∧ (set9 w P x0 x1 x2 x3 x4 x5 x6 x7 x8).cell? ⟨P, 4, none⟩ = some x4 ∧ (set9 w P x0 x1 x2 x3 x4 x5 x6 x7 x8).cell? ⟨P, 5, none⟩ = some x5 ∧ (set9 w P x0 x1 x2 x3 x4 x5 x6 x7 x8).cell? ⟨P, 6, none⟩ = some x6 ∧ (set9 w P x0 x1 x2 x3 x4 x5 x6 x7 x8).cell? ⟨P, 7, none⟩ = some x7 ∧ (set9 w P x0 x1 x2 x3 x4 x5 x6 x7 x8).cell? ⟨P, 8, none⟩ = some x8 := by
  have ne : ∀ {i j : Nat}, i ≠ j → (⟨P, i, none⟩ : Addr) ≠ ⟨P, j, none⟩ := fun h e => by injection e with _ e; exact h e
  unfold set9
  obtain ⟨u0, q0⟩ := h 0 (by decide)
  obtain ⟨u1, q1⟩ := h 1 (by decide)
  obtain ⟨u2, q2⟩ := h 2 (by decide)
  obtain ⟨u3, q3⟩ := h 3 (by decide)
  obtain ⟨u4, q4⟩ := h 4 (by decide)
  obtain ⟨u5, q5⟩ := h 5 (by decide)
  obtain ⟨u6, q6⟩ := h 6 (by decide)
  obtain ⟨u7, q7⟩ := h 7 (by decide)
  obtain ⟨u8, q8⟩ := h 8 (by decide)
  have q0 := World.cell?_setCell_same w ⟨P, 0, none⟩ x0 q0
  have q1 := (World.cell?_setCell_other w ⟨P, 0, none⟩ ⟨P, 1, none⟩ x0 (by simp)).trans q1
  have q2 := (World.cell?_setCell_other w ⟨P, 0, none⟩ ⟨P, 2, none⟩ x0 (by simp)).trans q2
  have q3 := (World.cell?_setCell_other w ⟨P, 0, none⟩ ⟨P, 3, none⟩ x0 (by simp)).trans q3
  have q4 := (World.cell?_setCell_other w ⟨P, 0, none⟩ ⟨P, 4, none⟩ x0 (by simp)).trans q4
  have q5 := (World.cell?_setCell_other w ⟨P, 0, none⟩ ⟨P, 5, none⟩ x0 (by simp)).trans q5
  have q6 := (World.cell?_setCell_other w ⟨P, 0, none⟩ ⟨P, 6, none⟩ x0 (by simp)).trans q6
  have q7 := (World.cell?_setCell_other w ⟨P, 0, none⟩ ⟨P, 7, none⟩ x0 (by simp)).trans q7
  have q8 := (World.cell?_setCell_other w ⟨P, 0, none⟩ ⟨P, 8, none⟩ x0 (by simp)).trans q8
  have q0 := (World.cell?_setCell_other (w.setCell ⟨P, 0, none⟩ x0) ⟨P, 1, none⟩ ⟨P, 0, none⟩ x1 (by simp)).trans q0
  have q1 := World.cell?_setCell_same (w.setCell ⟨P, 0, none⟩ x0) ⟨P, 1, none⟩ x1 q1
  have q2 := (World.cell?_setCell_other (w.setCell ⟨P, 0, none⟩ x0) ⟨P, 1, none⟩ ⟨P, 2, none⟩ x1 (by simp)).trans q2
  have q3 := (World.cell?_setCell_other (w.setCell ⟨P, 0, none⟩ x0) ⟨P, 1, none⟩ ⟨P, 3, none⟩ x1 (by simp)).trans q3
  have q4 := (World.cell?_setCell_other (w.setCell ⟨P, 0, none⟩ x0) ⟨P, 1, none⟩ ⟨P, 4, none⟩ x1 (by simp)).trans q4
  have q5 := (World.cell?_setCell_other (w.setCell ⟨P, 0, none⟩ x0) ⟨P, 1, none⟩ ⟨P, 5, none⟩ x1 (by simp)).trans q5
  have q6 := (World.cell?_setCell_other (w.setCell ⟨P, 0, none⟩ x0) ⟨P, 1, none⟩ ⟨P, 6, none⟩ x1 (by simp)).trans q6
  have q7 := (World.cell?_setCell_other (w.setCell ⟨P, 0, none⟩ x0) ⟨P, 1, none⟩ ⟨P, 7, none⟩ x1 (by simp)).trans q7
  have q8 := (World.cell?_setCell_other (w.setCell ⟨P, 0, none⟩ x0) ⟨P, 1, none⟩ ⟨P, 8, none⟩ x1 (by simp)).trans q8
  have q0 := (World.cell?_setCell_other ((w.setCell ⟨P, 0, none⟩ x0).setCell ⟨P, 1, none⟩ x1) ⟨P, 2, none⟩ ⟨P, 0, none⟩ x2 (by simp)).trans q0
  have q1 := (World.cell?_setCell_other ((w.setCell ⟨P, 0, none⟩ x0).setCell ⟨P, 1, none⟩ x1) ⟨P, 2, none⟩ ⟨P, 1, none⟩ x2 (by simp)).trans q1
  have q2 := World.cell?_setCell_same ((w.setCell ⟨P, 0, none⟩ x0).setCell ⟨P, 1, none⟩ x1) ⟨P, 2, none⟩ x2 q2
  have q3 := (World.cell?_setCell_other ((w.setCell ⟨P, 0, none⟩ x0).setCell ⟨P, 1, none⟩ x1) ⟨P, 2, none⟩ ⟨P, 3, none⟩ x2 (by simp)).trans q3
  have q4 := (World.cell?_setCell_other ((w.setCell ⟨P, 0, none⟩ x0).setCell ⟨P, 1, none⟩ x1) ⟨P, 2, none⟩ ⟨P, 4, none⟩ x2 (by simp)).trans q4
  have q5 := (World.cell?_setCell_other ((w.setCell ⟨P, 0, none⟩ x0).setCell ⟨P, 1, none⟩ x1) ⟨P, 2, none⟩ ⟨P, 5, none⟩ x2 (by simp)).trans q5
  have q6 := (World.cell?_setCell_other ((w.setCell ⟨P, 0, none⟩ x0).setCell ⟨P, 1, none⟩ x1) ⟨P, 2, none⟩ ⟨P, 6, none⟩ x2 (by simp)).trans q6
  have q7 := (World.cell?_setCell_other ((w.setCell ⟨P, 0, none⟩ x0).setCell ⟨P, 1, none⟩ x1) ⟨P, 2, none⟩ ⟨P, 7, none⟩ x2 (by simp)).trans q7
  have q8 := (World.cell?_setCell_other ((w.setCell ⟨P, 0, none⟩ x0).setCell ⟨P, 1, none⟩ x1) ⟨P, 2, none⟩ ⟨P, 8, none⟩ x2 (by simp)).trans q8
  have q0 := (World.cell?_setCell_other (((w.setCell ⟨P, 0, none⟩ x0).setCell ⟨P, 1, none⟩ x1).setCell ⟨P, 2, none⟩ x2) ⟨P, 3, none⟩ ⟨P, 0, none⟩ x3 (by simp)).trans q0
  have q1 := (World.cell?_setCell_other (((w.setCell ⟨P, 0, none⟩ x0).setCell ⟨P, 1, none⟩ x1).setCell ⟨P, 2, none⟩ x2) ⟨P, 3, none⟩ ⟨P, 1, none⟩ x3 (by simp)).trans q1
  have q2 := (World.cell?_setCell_other (((w.setCell ⟨P, 0, none⟩ x0).setCell ⟨P, 1, none⟩ x1).setCell ⟨P, 2, none⟩ x2) ⟨P, 3, none⟩ ⟨P, 2, none⟩ x3 (by simp)).trans q2
  have q3 := World.cell?_setCell_same (((w.setCell ⟨P, 0, none⟩ x0).setCell ⟨P, 1, none⟩ x1).setCell ⟨P, 2, none⟩ x2) ⟨P, 3, none⟩ x3 q3
  have q4 := (World.cell?_setCell_other (((w.setCell ⟨P, 0, none⟩ x0).setCell ⟨P, 1, none⟩ x1).setCell ⟨P, 2, none⟩ x2) ⟨P, 3, none⟩ ⟨P, 4, none⟩ x3 (by simp)).trans q4
  have q5 := (World.cell?_setCell_other (((w.setCell ⟨P, 0, none⟩ x0).setCell ⟨P, 1, none⟩ x1).setCell ⟨P, 2, none⟩ x2) ⟨P, 3, none⟩ ⟨P, 5, none⟩ x3 (by simp)).trans q5
  have q6 := (World.cell?_setCell_other (((w.setCell ⟨P, 0, none⟩ x0).setCell ⟨P, 1, none⟩ x1).setCell ⟨P, 2, none⟩ x2) ⟨P, 3, none⟩ ⟨P, 6, none⟩ x3 (by simp)).trans q6
  have q7 := (World.cell?_setCell_other (((w.setCell ⟨P, 0, none⟩ x0).setCell ⟨P, 1, none⟩ x1).setCell ⟨P, 2, none⟩ x2) ⟨P, 3, none⟩ ⟨P, 7, none⟩ x3 (by simp)).trans q7
  have q8 := (World.cell?_setCell_other (((w.setCell ⟨P, 0, none⟩ x0).setCell ⟨P, 1, none⟩ x1).setCell ⟨P, 2, none⟩ x2) ⟨P, 3, none⟩ ⟨P, 8, none⟩ x3 (by simp)).trans q8
  have q0 := (World.cell?_setCell_other ((((w.setCell ⟨P, 0, none⟩ x0).setCell ⟨P, 1, none⟩ x1).setCell ⟨P, 2, none⟩ x2).setCell ⟨P, 3, none⟩ x3) ⟨P, 4, none⟩ ⟨P, 0, none⟩ x4 (by simp)).trans q0
  have q1 := (World.cell?_setCell_other ((((w.setCell ⟨P, 0, none⟩ x0).setCell ⟨P, 1, none⟩ x1).setCell ⟨P, 2, none⟩ x2).setCell ⟨P, 3, none⟩ x3) ⟨P, 4, none⟩ ⟨P, 1, none⟩ x4 (by simp)).trans q1
  have q2 := (World.cell?_setCell_other ((((w.setCell ⟨P, 0, none⟩ x0).setCell ⟨P, 1, none⟩ x1).setCell ⟨P, 2, none⟩ x2).setCell ⟨P, 3, none⟩ x3) ⟨P, 4, none⟩ ⟨P, 2, none⟩ x4 (by simp)).trans q2
  have q3 := (World.cell?_setCell_other ((((w.setCell ⟨P, 0, none⟩ x0).setCell ⟨P, 1, none⟩ x1).setCell ⟨P, 2, none⟩ x2).setCell ⟨P, 3, none⟩ x3) ⟨P, 4, none⟩ ⟨P, 3, none⟩ x4 (by simp)).trans q3
  have q4 := World.cell?_setCell_same ((((w.setCell ⟨P, 0, none⟩ x0).setCell ⟨P, 1, none⟩ x1).setCell ⟨P, 2, none⟩ x2).setCell ⟨P, 3, none⟩ x3) ⟨P, 4, none⟩ x4 q4
  have q5 := (World.cell?_setCell_other ((((w.setCell ⟨P, 0, none⟩ x0).setCell ⟨P, 1, none⟩ x1).setCell ⟨P, 2, none⟩ x2).setCell ⟨P, 3, none⟩ x3) ⟨P, 4, none⟩ ⟨P, 5, none⟩ x4 (by simp)).trans q5
  have q6 := (World.cell?_setCell_other ((((w.setCell ⟨P, 0, none⟩ x0).setCell ⟨P, 1, none⟩ x1).setCell ⟨P, 2, none⟩ x2).setCell ⟨P, 3, none⟩ x3) ⟨P, 4, none⟩ ⟨P, 6, none⟩ x4 (by simp)).trans q6
  have q7 := (World.cell?_setCell_other ((((w.setCell ⟨P, 0, none⟩ x0).setCell ⟨P, 1, none⟩ x1).setCell ⟨P, 2, none⟩ x2).setCell ⟨P, 3, none⟩ x3) ⟨P, 4, none⟩ ⟨P, 7, none⟩ x4 (by simp)).trans q7
  have q8 := (World.cell?_setCell_other ((((w.setCell ⟨P, 0, none⟩ x0).setCell ⟨P, 1, none⟩ x1).setCell ⟨P, 2, none⟩ x2).setCell ⟨P, 3, none⟩ x3) ⟨P, 4, none⟩ ⟨P, 8, none⟩ x4 (by simp)).trans q8
  have q0 := (World.cell?_setCell_other (((((w.setCell ⟨P, 0, none⟩ x0).setCell ⟨P, 1, none⟩ x1).setCell ⟨P, 2, none⟩ x2).setCell ⟨P, 3, none⟩ x3).setCell ⟨P, 4, none⟩ x4) ⟨P, 5, none⟩ ⟨P, 0, none⟩ x5 (by simp)).trans q0
  have q1 := (World.cell?_setCell_other (((((w.setCell ⟨P, 0, none⟩ x0).setCell ⟨P, 1, none⟩ x1).setCell ⟨P, 2, none⟩ x2).setCell ⟨P, 3, none⟩ x3).setCell ⟨P, 4, none⟩ x4) ⟨P, 5, none⟩ ⟨P, 1, none⟩ x5 (by simp)).trans q1
  have q2 := (World.cell?_setCell_other (((((w.setCell ⟨P, 0, none⟩ x0).setCell ⟨P, 1, none⟩ x1).setCell ⟨P, 2, none⟩ x2).setCell ⟨P, 3, none⟩ x3).setCell ⟨P, 4, none⟩ x4) ⟨P, 5, none⟩ ⟨P, 2, none⟩ x5 (by simp)).trans q2
  have q3 := (World.cell?_setCell_other (((((w.setCell ⟨P, 0, none⟩ x0).setCell ⟨P, 1, none⟩ x1).setCell ⟨P, 2, none⟩ x2).setCell ⟨P, 3, none⟩ x3).setCell ⟨P, 4, none⟩ x4) ⟨P, 5, none⟩ ⟨P, 3, none⟩ x5 (by simp)).trans q3
  have q4 := (World.cell?_setCell_other (((((w.setCell ⟨P, 0, none⟩ x0).setCell ⟨P, 1, none⟩ x1).setCell ⟨P, 2, none⟩ x2).setCell ⟨P, 3, none⟩ x3).setCell ⟨P, 4, none⟩ x4) ⟨P, 5, none⟩ ⟨P, 4, none⟩ x5 (by simp)).trans q4
  have q5 := World.cell?_setCell_same (((((w.setCell ⟨P, 0, none⟩ x0).setCell ⟨P, 1, none⟩ x1).setCell ⟨P, 2, none⟩ x2).setCell ⟨P, 3, none⟩ x3).setCell ⟨P, 4, none⟩ x4) ⟨P, 5, none⟩ x5 q5
  have q6 := (World.cell?_setCell_other (((((w.setCell ⟨P, 0, none⟩ x0).setCell ⟨P, 1, none⟩ x1).setCell ⟨P, 2, none⟩ x2).setCell ⟨P, 3, none⟩ x3).setCell ⟨P, 4, none⟩ x4) ⟨P, 5, none⟩ ⟨P, 6, none⟩ x5 (by simp)).trans q6
  have q7 := (World.cell?_setCell_other (((((w.setCell ⟨P, 0, none⟩ x0).setCell ⟨P, 1, none⟩ x1).setCell ⟨P, 2, none⟩ x2).setCell ⟨P, 3, none⟩ x3).setCell ⟨P, 4, none⟩ x4) ⟨P, 5, none⟩ ⟨P, 7, none⟩ x5 (by simp)).trans q7
  have q8 := (World.cell?_setCell_other (((((w.setCell ⟨P, 0, none⟩ x0).setCell ⟨P, 1, none⟩ x1).setCell ⟨P, 2, none⟩ x2).setCell ⟨P, 3, none⟩ x3).setCell ⟨P, 4, none⟩ x4) ⟨P, 5, none⟩ ⟨P, 8, none⟩ x5 (by simp)).trans q8
  have q0 := (World.cell?_setCell_other ((((((w.setCell ⟨P, 0, none⟩ x0).setCell ⟨P, 1, none⟩ x1).setCell ⟨P, 2, none⟩ x2).setCell ⟨P, 3, none⟩ x3).setCell ⟨P, 4, none⟩ x4).setCell ⟨P, 5, none⟩ x5) ⟨P, 6, none⟩ ⟨P, 0, none⟩ x6 (by simp)).trans q0
  have q1 := (World.cell?_setCell_other ((((((w.setCell ⟨P, 0, none⟩ x0).setCell ⟨P, 1, none⟩ x1).setCell ⟨P, 2, none⟩ x2).setCell ⟨P, 3, none⟩ x3).setCell ⟨P, 4, none⟩ x4).setCell ⟨P, 5, none⟩ x5) ⟨P, 6, none⟩ ⟨P, 1, none⟩ x6 (by simp)).trans q1
  have q2 := (World.cell?_setCell_other ((((((w.setCell ⟨P, 0, none⟩ x0).setCell ⟨P, 1, none⟩ x1).setCell ⟨P, 2, none⟩ x2).setCell ⟨P, 3, none⟩ x3).setCell ⟨P, 4, none⟩ x4).setCell ⟨P, 5, none⟩ x5) ⟨P, 6, none⟩ ⟨P, 2, none⟩ x6 (by simp)).trans q2
  have q3 := (World.cell?_setCell_other ((((((w.setCell ⟨P, 0, none⟩ x0).setCell ⟨P, 1, none⟩ x1).setCell ⟨P, 2, none⟩ x2).setCell ⟨P, 3, none⟩ x3).setCell ⟨P, 4, none⟩ x4).setCell ⟨P, 5, none⟩ x5) ⟨P, 6, none⟩ ⟨P, 3, none⟩ x6 (by simp)).trans q3
  have q4 := (World.cell?_setCell_other ((((((w.setCell ⟨P, 0, none⟩ x0).setCell ⟨P, 1, none⟩ x1).setCell ⟨P, 2, none⟩ x2).setCell ⟨P, 3, none⟩ x3).setCell ⟨P, 4, none⟩ x4).setCell ⟨P, 5, none⟩ x5) ⟨P, 6, none⟩ ⟨P, 4, none⟩ x6 (by simp)).trans q4
  have q5 := (World.cell?_setCell_other ((((((w.setCell ⟨P, 0, none⟩ x0).setCell ⟨P, 1, none⟩ x1).setCell ⟨P, 2, none⟩ x2).setCell ⟨P, 3, none⟩ x3).setCell ⟨P, 4, none⟩ x4).setCell ⟨P, 5, none⟩ x5) ⟨P, 6, none⟩ ⟨P, 5, none⟩ x6 (by simp)).trans q5
  have q6 := World.cell?_setCell_same ((((((w.setCell ⟨P, 0, none⟩ x0).setCell ⟨P, 1, none⟩ x1).setCell ⟨P, 2, none⟩ x2).setCell ⟨P, 3, none⟩ x3).setCell ⟨P, 4, none⟩ x4).setCell ⟨P, 5, none⟩ x5) ⟨P, 6, none⟩ x6 q6
  have q7 := (World.cell?_setCell_other ((((((w.setCell ⟨P, 0, none⟩ x0).setCell ⟨P, 1, none⟩ x1).setCell ⟨P, 2, none⟩ x2).setCell ⟨P, 3, none⟩ x3).setCell ⟨P, 4, none⟩ x4).setCell ⟨P, 5, none⟩ x5) ⟨P, 6, none⟩ ⟨P, 7, none⟩ x6 (by simp)).trans q7
  have q8 := (World.cell?_setCell_other ((((((w.setCell ⟨P, 0, none⟩ x0).setCell ⟨P, 1, none⟩ x1).setCell ⟨P, 2, none⟩ x2).setCell ⟨P, 3, none⟩ x3).setCell ⟨P, 4, none⟩ x4).setCell ⟨P, 5, none⟩ x5) ⟨P, 6, none⟩ ⟨P, 8, none⟩ x6 (by simp)).trans q8
  have q0 := (World.cell?_setCell_other (((((((w.setCell ⟨P, 0, none⟩ x0).setCell ⟨P, 1, none⟩ x1).setCell ⟨P, 2, none⟩ x2).setCell ⟨P, 3, none⟩ x3).setCell ⟨P, 4, none⟩ x4).setCell ⟨P, 5, none⟩ x5).setCell ⟨P, 6, none⟩ x6) ⟨P, 7, none⟩ ⟨P, 0, none⟩ x7 (by simp)).trans q0
  have q1 := (World.cell?_setCell_other (((((((w.setCell ⟨P, 0, none⟩ x0).setCell ⟨P, 1, none⟩ x1).setCell ⟨P, 2, none⟩ x2).setCell ⟨P, 3, none⟩ x3).setCell ⟨P, 4, none⟩ x4).setCell ⟨P, 5, none⟩ x5).setCell ⟨P, 6, none⟩ x6) ⟨P, 7, none⟩ ⟨P, 1, none⟩ x7 (by simp)).trans q1
  have q2 := (World.cell?_setCell_other (((((((w.setCell ⟨P, 0, none⟩ x0).setCell ⟨P, 1, none⟩ x1).setCell ⟨P, 2, none⟩ x2).setCell ⟨P, 3, none⟩ x3).setCell ⟨P, 4, none⟩ x4).setCell ⟨P, 5, none⟩ x5).setCell ⟨P, 6, none⟩ x6) ⟨P, 7, none⟩ ⟨P, 2, none⟩ x7 (by simp)).trans q2
  have q3 := (World.cell?_setCell_other (((((((w.setCell ⟨P, 0, none⟩ x0).setCell ⟨P, 1, none⟩ x1).setCell ⟨P, 2, none⟩ x2).setCell ⟨P, 3, none⟩ x3).setCell ⟨P, 4, none⟩ x4).setCell ⟨P, 5, none⟩ x5).setCell ⟨P, 6, none⟩ x6) ⟨P, 7, none⟩ ⟨P, 3, none⟩ x7 (by simp)).trans q3
  have q4 := (World.cell?_setCell_other (((((((w.setCell ⟨P, 0, none⟩ x0).setCell ⟨P, 1, none⟩ x1).setCell ⟨P, 2, none⟩ x2).setCell ⟨P, 3, none⟩ x3).setCell ⟨P, 4, none⟩ x4).setCell ⟨P, 5, none⟩ x5).setCell ⟨P, 6, none⟩ x6) ⟨P, 7, none⟩ ⟨P, 4, none⟩ x7 (by simp)).trans q4
  have q5 := (World.cell?_setCell_other (((((((w.setCell ⟨P, 0, none⟩ x0).setCell ⟨P, 1, none⟩ x1).setCell ⟨P, 2, none⟩ x2).setCell ⟨P, 3, none⟩ x3).setCell ⟨P, 4, none⟩ x4).setCell ⟨P, 5, none⟩ x5).setCell ⟨P, 6, none⟩ x6) ⟨P, 7, none⟩ ⟨P, 5, none⟩ x7 (by simp)).trans q5
  have q6 := (World.cell?_setCell_other (((((((w.setCell ⟨P, 0, none⟩ x0).setCell ⟨P, 1, none⟩ x1).setCell ⟨P, 2, none⟩ x2).setCell ⟨P, 3, none⟩ x3).setCell ⟨P, 4, none⟩ x4).setCell ⟨P, 5, none⟩ x5).setCell ⟨P, 6, none⟩ x6) ⟨P, 7, none⟩ ⟨P, 6, none⟩ x7 (by simp)).trans q6
  have q7 := World.cell?_setCell_same (((((((w.setCell ⟨P, 0, none⟩ x0).setCell ⟨P, 1, none⟩ x1).setCell ⟨P, 2, none⟩ x2).setCell ⟨P, 3, none⟩ x3).setCell ⟨P, 4, none⟩ x4).setCell ⟨P, 5, none⟩ x5).setCell ⟨P, 6, none⟩ x6) ⟨P, 7, none⟩ x7 q7
  have q8 := (World.cell?_setCell_other (((((((w.setCell ⟨P, 0, none⟩ x0).setCell ⟨P, 1, none⟩ x1).setCell ⟨P, 2, none⟩ x2).setCell ⟨P, 3, none⟩ x3).setCell ⟨P, 4, none⟩ x4).setCell ⟨P, 5, none⟩ x5).setCell ⟨P, 6, none⟩ x6) ⟨P, 7, none⟩ ⟨P, 8, none⟩ x7 (by simp)).trans q8
  have q0 := (World.cell?_setCell_other ((((((((w.setCell ⟨P, 0, none⟩ x0).setCell ⟨P, 1, none⟩ x1).setCell ⟨P, 2, none⟩ x2).setCell ⟨P, 3, none⟩ x3).setCell ⟨P, 4, none⟩ x4).setCell ⟨P, 5, none⟩ x5).setCell ⟨P, 6, none⟩ x6).setCell ⟨P, 7, none⟩ x7) ⟨P, 8, none⟩ ⟨P, 0, none⟩ x8 (by simp)).trans q0
  have q1 := (World.cell?_setCell_other ((((((((w.setCell ⟨P, 0, none⟩ x0).setCell ⟨P, 1, none⟩ x1).setCell ⟨P, 2, none⟩ x2).setCell ⟨P, 3, none⟩ x3).setCell ⟨P, 4, none⟩ x4).setCell ⟨P, 5, none⟩ x5).setCell ⟨P, 6, none⟩ x6).setCell ⟨P, 7, none⟩ x7) ⟨P, 8, none⟩ ⟨P, 1, none⟩ x8 (by simp)).trans q1
  have q2 := (World.cell?_setCell_other ((((((((w.setCell ⟨P, 0, none⟩ x0).setCell ⟨P, 1, none⟩ x1).setCell ⟨P, 2, none⟩ x2).setCell ⟨P, 3, none⟩ x3).setCell ⟨P, 4, none⟩ x4).setCell ⟨P, 5, none⟩ x5).setCell ⟨P, 6, none⟩ x6).setCell ⟨P, 7, none⟩ x7) ⟨P, 8, none⟩ ⟨P, 2, none⟩ x8 (by simp)).trans q2
  have q3 := (World.cell?_setCell_other ((((((((w.setCell ⟨P, 0, none⟩ x0).setCell ⟨P, 1, none⟩ x1).setCell ⟨P, 2, none⟩ x2).setCell ⟨P, 3, none⟩ x3).setCell ⟨P, 4, none⟩ x4).setCell ⟨P, 5, none⟩ x5).setCell ⟨P, 6, none⟩ x6).setCell ⟨P, 7, none⟩ x7) ⟨P, 8, none⟩ ⟨P, 3, none⟩ x8 (by simp)).trans q3
  have q4 := (World.cell?_setCell_other ((((((((w.setCell ⟨P, 0, none⟩ x0).setCell ⟨P, 1, none⟩ x1).setCell ⟨P, 2, none⟩ x2).setCell ⟨P, 3, none⟩ x3).setCell ⟨P, 4, none⟩ x4).setCell ⟨P, 5, none⟩ x5).setCell ⟨P, 6, none⟩ x6).setCell ⟨P, 7, none⟩ x7) ⟨P, 8, none⟩ ⟨P, 4, none⟩ x8 (by simp)).trans q4
  have q5 := (World.cell?_setCell_other ((((((((w.setCell ⟨P, 0, none⟩ x0).setCell ⟨P, 1, none⟩ x1).setCell ⟨P, 2, none⟩ x2).setCell ⟨P, 3, none⟩ x3).setCell ⟨P, 4, none⟩ x4).setCell ⟨P, 5, none⟩ x5).setCell ⟨P, 6, none⟩ x6).setCell ⟨P, 7, none⟩ x7) ⟨P, 8, none⟩ ⟨P, 5, none⟩ x8 (by simp)).trans q5
  have q6 := (World.cell?_setCell_other ((((((((w.setCell ⟨P, 0, none⟩ x0).setCell ⟨P, 1, none⟩ x1).setCell ⟨P, 2, none⟩ x2).setCell ⟨P, 3, none⟩ x3).setCell ⟨P, 4, none⟩ x4).setCell ⟨P, 5, none⟩ x5).setCell ⟨P, 6, none⟩ x6).setCell ⟨P, 7, none⟩ x7) ⟨P, 8, none⟩ ⟨P, 6, none⟩ x8 (by simp)).trans q6
  have q7 := (World.cell?_setCell_other ((((((((w.setCell ⟨P, 0, none⟩ x0).setCell ⟨P, 1, none⟩ x1).setCell ⟨P, 2, none⟩ x2).setCell ⟨P, 3, none⟩ x3).setCell ⟨P, 4, none⟩ x4).setCell ⟨P, 5, none⟩ x5).setCell ⟨P, 6, none⟩ x6).setCell ⟨P, 7, none⟩ x7) ⟨P, 8, none⟩ ⟨P, 7, none⟩ x8 (by simp)).trans q7
  have q8 := World.cell?_setCell_same ((((((((w.setCell ⟨P, 0, none⟩ x0).setCell ⟨P, 1, none⟩ x1).setCell ⟨P, 2, none⟩ x2).setCell ⟨P, 3, none⟩ x3).setCell ⟨P, 4, none⟩ x4).setCell ⟨P, 5, none⟩ x5).setCell ⟨P, 6, none⟩ x6).setCell ⟨P, 7, none⟩ x7) ⟨P, 8, none⟩ x8 q8
  exact ⟨q0, q1, q2, q3, q4, q5, q6, q7, q8⟩
theorem set9_below {B : Nat} {w0 w : World} {P : Nat} (x0 x1 x2 x3 x4 x5 x6 x7 x8 : Value) (h : Below B w0 w) (hP : B ≤ P) : Below B w0 (set9 w P x0 x1 x2 x3 x4 x5 x6 x7 x8) :=
  (((((((((h.setCell (show B ≤ (⟨P, 0, none⟩ : Addr).block from hP) x0).setCell (show B ≤ (⟨P, 1, none⟩ : Addr).block from hP) x1).setCell (show B ≤ (⟨P, 2, none⟩ : Addr).block from hP) x2).setCell (show B ≤ (⟨P, 3, none⟩ : Addr).block from hP) x3).setCell (show B ≤ (⟨P, 4, none⟩ : Addr).block from hP) x4).setCell (show B ≤ (⟨P, 5, none⟩ : Addr).block from hP) x5).setCell (show B ≤ (⟨P, 6, none⟩ : Addr).block from hP) x6).setCell (show B ≤ (⟨P, 7, none⟩ : Addr).block from hP) x7).setCell (show B ≤ (⟨P, 8, none⟩ : Addr).block from hP) x8)
theorem close10 {w0 wr : World} {P R H E : Nat} {ls : List (List UInt8)} {bad : Bool} {v : Nat → Value} (h : PS w0 wr P R H E ls bad v) {tm : Array Value} {V : Value} {er : Int} {x0 x1 x2 x3 x4 x5 x6 x7 x8 : Value} (h1 : tm.getD 2 undef = .pointer (some ⟨P, 0, none⟩)) (h2 : tm.getD 3 undef = .int .i64 er) (hV : V = .agg #[x0, x1, x2, x3, x4, x5, x6, x7, x8]) :
    bodyPost Tryd.prog Tryd.f10 (fun e' w' => e' = .returned (.tuple #[V, .int .i64 er]) ∧ Below w0.heap.size w0 w') .ret { tmps := tm, defers := [] } (set9 wr P x0 x1 x2 x3 x4 x5 x6 x7 x8) := by
  obtain ⟨r0, r1, r2, r3, r4, r5, r6, r7, r8⟩ := set9_at x0 x1 x2 x3 x4 x5 x6 x7 x8 h.p
  subst hV
  exact bodyPost_ret (res10 _ _ P _ _ _ _ _ _ _ _ _ _ h1 h2 r0 r1 r2 r3 r4 r5 r6 r7 r8) rfl ⟨rfl, set9_below _ _ _ _ _ _ _ _ _ h.rs.hb h.hP⟩
theorem Ed0_val : Ed0.val = .agg zc := by
  unfold Ed.val Ed.cells Ed0
  rw [fi_zero]
  rfl
/-- Numbers that are read one behind the other. -/
def Rd : List Int → List (List UInt8) → Bool → List (List UInt8) → Bool → Prop
  | [], ls, b, l2, b2 => l2 = ls ∧ b2 = b
  | n :: ns, ls, b, l2, b2 => ∃ b1, RI ls b n b1 ∧ Rd ns ls.tail b1 l2 b2
theorem Rd.ok : ∀ (ns : List Int) {ls l2 : List (List UInt8)} {b b2 : Bool}, Rd ns ls b l2 b2 → b2 = false → b = false ∧ (∀ n ∈ ns, I64 n) ∧ ls = ns.map itoa ++ l2
  | [], ls, l2, b, b2, h, hb => ⟨h.2 ▸ hb, fun _ h => (nomatch h), by rw [h.1]; rfl⟩
  | n :: ns, ls, l2, b, b2, h, hb => by
    obtain ⟨b1, h1, h2⟩ := h
    obtain ⟨g1, g2, g3⟩ := Rd.ok ns h2 hb
    obtain ⟨g4, g5, g6⟩ := h1.1 g1
    refine ⟨g4, fun m hm => ?_, ?_⟩
    · rcases List.mem_cons.1 hm with rfl | hm
      · exact g5
      · exact g2 m hm
    · rw [cons_head g6, g3]
      rfl
theorem Rd.back : ∀ (ns ms : List Int) {ls l2 r : List (List UInt8)} {b b2 : Bool}, Rd ns ls b l2 b2 → b = false → ms.length = ns.length → (∀ m ∈ ms, I64 m) → ls = ms.map itoa ++ r → b2 = false ∧ l2 = r
  | [], [], ls, l2, r, b, b2, h, hb, _, _, e => ⟨by rw [h.2]; exact hb, by rw [h.1, e]; rfl⟩
  | [], _ :: _, _, _, _, _, _, _, _, hl, _, _ => by simp at hl
  | _ :: _, [], _, _, _, _, _, _, _, hl, _, _ => by simp at hl
  | n :: ns, m :: ms, ls, l2, r, b, b2, h, hb, hl, hm, e => by
    obtain ⟨b1, h1, h2⟩ := h
    have hb1 := h1.2 m (hm m List.mem_cons_self) hb (by rw [e]; rfl)
    exact Rd.back ns ms h2 hb1 (by simpa using hl) (fun x hx => hm x (List.mem_cons_of_mem _ hx)) (by rw [e]; rfl)
theorem empty_and {l : List (List UInt8)} {b : Bool} (h : (l.isEmpty && !b) = true) : l = [] ∧ b = false := by
  simpa using h
theorem GE.inv_drop {rest : List (List UInt8)} {e : Ed} (h : GE (W 2 :: rest) e) : ∃ a : Int, I64 a ∧ rest = [a].map itoa := by
  have hk : e.k = 2 := by
    obtain ⟨r, h1, h2, h3, _⟩ := h.head
    injection h1 with h1 _
    exact (W_inj (by decide) (by decide) h3 h2 h1).symm
  generalize hws : W 2 :: rest = ws at h
  cases h <;> simp only at hk <;> (try omega)
  all_goals
    injection hws with hq hr
  rename_i ha
  exact ⟨_, ha, hr⟩
theorem GE.inv_over {rest : List (List UInt8)} {e : Ed} (h : GE (W 3 :: rest) e) : ∃ (a : Int) (f : Bool), I64 a ∧ rest = [itoa a, flL f] := by
  have hk : e.k = 3 := by
    obtain ⟨r, h1, h2, h3, _⟩ := h.head
    injection h1 with h1 _
    exact (W_inj (by decide) (by decide) h3 h2 h1).symm
  generalize hws : W 3 :: rest = ws at h
  cases h <;> simp only at hk <;> (try omega)
  all_goals
    injection hws with hq hr
  rename_i ha
  exact ⟨_, _, ha, hr⟩
theorem GE.inv_link {rest : List (List UInt8)} {e : Ed} (h : GE (W 4 :: rest) e) : ∃ a b c d : Int, (I64 a ∧ I64 b ∧ I64 c ∧ I64 d) ∧ rest = [a, b, c, d].map itoa := by
  have hk : e.k = 4 := by
    obtain ⟨r, h1, h2, h3, _⟩ := h.head
    injection h1 with h1 _
    exact (W_inj (by decide) (by decide) h3 h2 h1).symm
  generalize hws : W 4 :: rest = ws at h
  cases h <;> simp only at hk <;> (try omega)
  all_goals
    injection hws with hq hr
  rename_i ha hb hc hd
  exact ⟨_, _, _, _, ⟨ha, hb, hc, hd⟩, hr⟩
theorem GE.inv_cut {rest : List (List UInt8)} {e : Ed} (h : GE (W 5 :: rest) e) : ∃ a b : Int, (I64 a ∧ I64 b) ∧ rest = [a, b].map itoa := by
  have hk : e.k = 5 := by
    obtain ⟨r, h1, h2, h3, _⟩ := h.head
    injection h1 with h1 _
    exact (W_inj (by decide) (by decide) h3 h2 h1).symm
  generalize hws : W 5 :: rest = ws at h
  cases h <;> simp only at hk <;> (try omega)
  all_goals
    injection hws with hq hr
  rename_i ha hb
  exact ⟨_, _, ⟨ha, hb⟩, hr⟩
theorem GE.inv_cost {rest : List (List UInt8)} {e : Ed} (h : GE (W 6 :: rest) e) : ∃ a b c : Int, (I64 a ∧ I64 b ∧ I64 c) ∧ rest = [a, b, c].map itoa := by
  have hk : e.k = 6 := by
    obtain ⟨r, h1, h2, h3, _⟩ := h.head
    injection h1 with h1 _
    exact (W_inj (by decide) (by decide) h3 h2 h1).symm
  generalize hws : W 6 :: rest = ws at h
  cases h <;> simp only at hk <;> (try omega)
  all_goals
    injection hws with hq hr
  rename_i ha hb hc
  exact ⟨_, _, _, ⟨ha, hb, hc⟩, hr⟩
theorem GE.inv_delay {rest : List (List UInt8)} {e : Ed} (h : GE (W 7 :: rest) e) : ∃ a b c : Int, (I64 a ∧ I64 b ∧ I64 c) ∧ rest = [a, b, c].map itoa := by
  have hk : e.k = 7 := by
    obtain ⟨r, h1, h2, h3, _⟩ := h.head
    injection h1 with h1 _
    exact (W_inj (by decide) (by decide) h3 h2 h1).symm
  generalize hws : W 7 :: rest = ws at h
  cases h <;> simp only at hk <;> (try omega)
  all_goals
    injection hws with hq hr
  rename_i ha hb hc
  exact ⟨_, _, _, ⟨ha, hb, hc⟩, hr⟩
theorem GE.inv_pin {rest : List (List UInt8)} {e : Ed} (h : GE (W 9 :: rest) e) : ∃ (a c : Int) (pa : Nat) (pn : Int), (I64 a ∧ I64 c ∧ pa < 4294967296 ∧ snd pa pn = true) ∧ rest = [itoa a, pfxL pa pn, itoa c] := by
  have hk : e.k = 9 := by
    obtain ⟨r, h1, h2, h3, _⟩ := h.head
    injection h1 with h1 _
    exact (W_inj (by decide) (by decide) h3 h2 h1).symm
  generalize hws : W 9 :: rest = ws at h
  cases h <;> simp only at hk <;> (try omega)
  all_goals
    injection hws with hq hr
  rename_i ha hc hp hs
  exact ⟨_, _, _, _, ⟨ha, hc, hp, hs⟩, hr⟩
theorem GE.inv_unpin {rest : List (List UInt8)} {e : Ed} (h : GE (W 10 :: rest) e) : ∃ (a : Int) (pa : Nat) (pn : Int), (I64 a ∧ pa < 4294967296 ∧ snd pa pn = true) ∧ rest = [itoa a, pfxL pa pn] := by
  have hk : e.k = 10 := by
    obtain ⟨r, h1, h2, h3, _⟩ := h.head
    injection h1 with h1 _
    exact (W_inj (by decide) (by decide) h3 h2 h1).symm
  generalize hws : W 10 :: rest = ws at h
  cases h <;> simp only at hk <;> (try omega)
  all_goals
    injection hws with hq hr
  rename_i ha hp hs
  exact ⟨_, _, _, ⟨ha, hp, hs⟩, hr⟩
theorem GE.inv_spot1 {rest : List (List UInt8)} {e : Ed} (h : GE (W 1 :: rest) e) : ∃ a x y : Int, (I64 a ∧ P20 x ∧ P20 y) ∧ rest = [itoa a, itoa x, itoa y] := by
  have hk : e.k = 1 := by
    obtain ⟨r, h1, h2, h3, _⟩ := h.head
    injection h1 with h1 _
    exact (W_inj (by decide) (by decide) h3 h2 h1).symm
  generalize hws : W 1 :: rest = ws at h
  cases h <;> simp only at hk <;> (try omega)
  all_goals
    injection hws with hq hr
  rename_i hk' ha hx hy
  exact ⟨_, _, _, ⟨ha, hx, hy⟩, hr⟩
theorem GE.inv_spot8 {rest : List (List UInt8)} {e : Ed} (h : GE (W 8 :: rest) e) : ∃ a x y : Int, (I64 a ∧ P20 x ∧ P20 y) ∧ rest = [itoa a, itoa x, itoa y] := by
  have hk : e.k = 8 := by
    obtain ⟨r, h1, h2, h3, _⟩ := h.head
    injection h1 with h1 _
    exact (W_inj (by decide) (by decide) h3 h2 h1).symm
  generalize hws : W 8 :: rest = ws at h
  cases h <;> simp only at hk <;> (try omega)
  all_goals
    injection hws with hq hr
  rename_i hk' ha hx hy
  exact ⟨_, _, _, ⟨ha, hx, hy⟩, hr⟩
end Go.Proofs.YtcociflljbaicaaDoor
