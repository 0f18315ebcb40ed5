/- Places, edits as lines, texts of numbers -/
import Derived.Test.YtcociflljbaicaaDoorFS
import Derived.Test.YtcociflljbaicaaDoorProg
import Derived.Test.YtcociflljbaicaaDoorL
import Derived.WalkLawsBesides
import Derived.BigQuiet
import Derived.Test.YtcociflljbaicaaDoorZA
import Derived.Test.YtcociflljbaicaaDoorQ
import Derived.Test.YtcociflljbaicaaDoorZB
import Derived.Test.YtcociflljbaicaaDoorYJ
import Derived.Test.YtcociflljbaicaaDoorV
import Derived.BigRegion
namespace Go.Proofs.YtcociflljbaicaaDoor
open Go.RowKit

def I64 (n : Int) : Prop := -9223372036854775808 ≤ n ∧ n < 9223372036854775808
def P20 (n : Int) : Prop := -1048576 ≤ n ∧ n ≤ 1048576
theorem fM_eq : fM = 4697254411347427328 := by decide +kernel
theorem fm_eq : fm = 13920626448202203136 := by decide +kernel
theorem fi_zero : fi 0 = 0 := by decide +kernel
theorem back_fi (n : Int) : floatOfInt .f64 n = fi n := rfl
theorem geq_fi (n : Int) (h : I64 n) : (FloatKind.f64.format.order (fi n) 13920626448202203136 == some .gt || FloatKind.f64.format.order (fi n) 13920626448202203136 == some .eq) = decide (-1048576 ≤ n) := by
  have e := (fi_bound n h.1 h.2).2
  rw [fm_eq] at e
  rw [show FloatKind.f64.format.order (fi n) 13920626448202203136 = _ from e]
  rcases Int.lt_trichotomy n (-1048576) with g | g | g
  · rw [Int.compare_eq_lt.2 g, decide_eq_false (by omega)]; decide
  · rw [Int.compare_eq_eq.2 g, decide_eq_true (by omega)]; decide
  · rw [Int.compare_eq_gt.2 g, decide_eq_true (by omega)]; decide
theorem leq_fi (n : Int) (h : I64 n) : (FloatKind.f64.format.order (fi n) 4697254411347427328 == some .lt || FloatKind.f64.format.order (fi n) 4697254411347427328 == some .eq) = decide (n ≤ 1048576) := by
  have e := (fi_bound n h.1 h.2).1
  rw [fM_eq] at e
  rw [show FloatKind.f64.format.order (fi n) 4697254411347427328 = _ from e]
  rcases Int.lt_trichotomy n 1048576 with g | g | g
  · rw [Int.compare_eq_lt.2 g, decide_eq_true (by omega)]; decide
  · rw [Int.compare_eq_eq.2 g, decide_eq_true (by omega)]; decide
  · rw [Int.compare_eq_gt.2 g, decide_eq_false (by omega)]; decide
theorem gtr_fi (n : Int) (h : I64 n) : (FloatKind.f64.format.order (fi n) 4697254411347427328 == some .gt) = decide (1048576 < n) := by
  have e := (fi_bound n h.1 h.2).1
  rw [fM_eq] at e
  rw [show FloatKind.f64.format.order (fi n) 4697254411347427328 = _ from e]
  rcases Int.lt_trichotomy n 1048576 with g | g | g
  · rw [Int.compare_eq_lt.2 g, decide_eq_false (by omega)]; decide
  · rw [Int.compare_eq_eq.2 g, decide_eq_false (by omega)]; decide
  · rw [Int.compare_eq_gt.2 g, decide_eq_true (by omega)]; decide
theorem P20.small {n : Int} (h : P20 n) : -9007199254740992 < n ∧ n < 9007199254740992 := by
  unfold P20 at h
  omega
theorem P20.i64 {n : Int} (h : P20 n) : I64 n := by
  unfold P20 at h
  unfold I64
  omega
theorem conv_fi (n : Int) (h : P20 n) (w : World) : (convert 62 3 (.float .f64 (fi n))).run Tryd.prog w = .ok (.int .i64 n) w :=
  run_convert_float_int w 62 3 .f64 .i64 (fi n) n (by kernel_rfl) Tryd.underlying3 (fi_toInt n h.small.1 h.small.2)
theorem self_fi (n : Int) (h : P20 n) : (FloatKind.f64.format.order (fi n) (fi n) == some .eq) = true := by
  rw [show FloatKind.f64.format.order (fi n) (fi n) = _ from fi_order n n h.small.1 h.small.2 h.small.1 h.small.2, Int.compare_eq_eq.2 rfl]
  decide
set_option maxHeartbeats 4000000 in
set_option maxRecDepth 100000 in
theorem whole_fi (n : Int) (h : P20 n) (w : World) : Calls Tryd.prog 41 #[.float .f64 (fi n)] w fun e w' => e = .returned (.bool true) ∧ w = w' := by
  have h1 := geq_fi n h.i64
  have h2 := leq_fi n h.i64
  rw [decide_eq_true h.1] at h1
  rw [decide_eq_true h.2] at h2
  have h3 := conv_fi n h
  have h4 := back_fi n
  have h5 := self_fi n h
  go_enter Tryd.func41, Tryd.ntmps41
  go_wp2_with fail
  go_ret
  exact ⟨rfl, rfl⟩
set_option maxHeartbeats 4000000 in
set_option maxRecDepth 100000 in
theorem Ok_fi (x y : Int) (hx : P20 x) (hy : P20 y) (w : World) : Calls Tryd.prog 30 #[.complex .f64 (fi x) (fi y)] w fun e w' => e = .returned (.bool true) ∧ w = w' := by
  go_enter Tryd.func30, Tryd.ntmps30
  go_wp2_with fail
  refine (whole_fi x hx _).mono ?_
  rintro e w' ⟨rfl, rfl⟩
  go_wp2_with fail
  refine (whole_fi y hy _).mono ?_
  rintro e w' ⟨rfl, rfl⟩
  go_wp2_with fail
  go_ret
  exact ⟨rfl, rfl⟩
/-- In the bounds of a place's part? -/
def p20 (n : Int) : Bool := decide (-1048576 ≤ n) && decide (n ≤ 1048576)
theorem p20_iff {n : Int} : p20 n = true ↔ P20 n := by
  unfold p20 P20
  simp
set_option maxHeartbeats 4000000 in
set_option maxRecDepth 100000 in
theorem part_fi (n : Int) (h : I64 n) (w : World) : Calls Tryd.prog 71 #[.float .f64 (fi n)] w fun e w' => e = .returned (.tuple #[.int .i64 (if p20 n then n else 0), .bool (p20 n)]) ∧ w = w' := by
  have h1 := geq_fi n h
  have h2 := gtr_fi n h
  by_cases hp : P20 n
  · rw [decide_eq_true hp.1] at h1
    rw [decide_eq_false (Int.not_lt.2 hp.2)] at h2
    have h3 := conv_fi n hp
    have h4 := back_fi n
    have h5 := self_fi n hp
    have hq := p20_iff.2 hp
    rw [hq]
    go_enter Tryd.func71, Tryd.ntmps71
    go_wp2_with fail
    go_ret2
    exact ⟨rfl, rfl⟩
  · have hq : p20 n = false := Bool.eq_false_iff.2 fun e => hp (p20_iff.1 e)
    rw [hq]
    by_cases hl : -1048576 ≤ n
    · rw [decide_eq_true hl] at h1
      rw [decide_eq_true (by unfold P20 at hp; omega)] at h2
      go_enter Tryd.func71, Tryd.ntmps71
      go_wp2_with fail
      go_ret2
      exact ⟨rfl, rfl⟩
    · rw [decide_eq_false hl] at h1
      clear h2
      go_enter Tryd.func71, Tryd.ntmps71
      go_wp2_with fail
      go_ret2
      exact ⟨rfl, rfl⟩
end Go.Proofs.YtcociflljbaicaaDoor
namespace Go.Proofs.YtcociflljbaicaaDoor
open Go.RowKit Go.Lib

theorem box_new (w : World) (cs : Array Value) (t : TypeId) (i : Nat) (v : Value) (h : cs[i]? = some v) : (w.alloc (.cells cs t)).cell? ⟨w.heap.size, i, none⟩ = some v := by
  have h1 := heap_alloc_new w (.cells cs t)
  simp only [World.cell?, h1]
  exact h
theorem free_new (w : World) (cs : Array Value) (t : TypeId) (i : Nat) : (w.alloc (.cells cs t)).frozen? ⟨w.heap.size, i, none⟩ = false := by
  have h1 := heap_alloc_new w (.cells cs t)
  simp only [World.frozen?, h1]
  simp
theorem res53 (w : World) (tmps : Array Value) (R : Nat) (x y : Value) (e : Value) (hp : tmps.getD 2 undef = .pointer (some ⟨R, 0, none⟩)) (he : tmps.getD 3 undef = e) (h0 : w.cell? ⟨R, 0, none⟩ = some x) (h1 : w.cell? ⟨R, 1, none⟩ = some y) :
    (results Tryd.f53 tmps).run Tryd.prog w = .ok (.tuple #[.agg #[x, y], e]) w := by
  rw [results_cell_tmp (p := 2) (u := 3) (ty := 82) rfl, hp, he]
  go_simp
set_option maxHeartbeats 4000000 in
set_option maxRecDepth 100000 in
theorem Of_fi (x y : Int) (hx : I64 x) (hy : I64 y) (w : World) : Calls Tryd.prog 53 #[.complex .f64 (fi x) (fi y)] w fun e w' =>
    e = .returned (.tuple #[.agg #[.int .i64 (if p20 x && p20 y then x else 0), .int .i64 (if p20 x && p20 y then y else 0)], .bool (p20 x && p20 y)]) ∧ Below w.heap.size w w' := by
  have fx := part_fi x hx
  have fy := part_fi y hy
  cases hpx : p20 x <;> cases hpy : p20 y <;> (
    rw [hpx] at fx
    rw [hpy] at fy
    simp only [Bool.false_eq_true, if_false, if_true, Bool.and_false, Bool.false_and, Bool.and_true] at fx fy ⊢
    go_enter Tryd.func53, Tryd.ntmps53
    go_wp2_with fail
    refine (fx _).mono ?_
    rintro e w' ⟨rfl, rfl⟩
    go_wp2_with fail
    refine (fy _).mono ?_
    rintro e w' ⟨rfl, rfl⟩
    go_wp2_with fail
    exact bodyPost_ret (res53 _ _ w.heap.size _ _ _ rfl rfl (box_new _ _ _ _ _ rfl) (box_new _ _ _ _ _ rfl)) rfl ⟨rfl, (Below.refl _ w).alloc (Nat.le_refl _) _⟩)
set_option maxHeartbeats 4000000 in
set_option maxRecDepth 100000 in
theorem refOk_fi (x y : Int) (hx : I64 x) (hy : I64 y) (w : World) : Calls Tryd.prog 39 #[.complex .f64 (fi x) (fi y)] w fun e w' => e = .returned (.bool (p20 x && p20 y)) ∧ Below w.heap.size w w' := by
  go_enter Tryd.func39, Tryd.ntmps39
  go_wp2_with fail
  refine (Of_fi x y hx hy _).mono ?_
  rintro e w1 ⟨rfl, hb1⟩
  go_wp2_with fail
  all_goals
    go_ret
    exact ⟨rfl, hb1.trans (((Below.refl _ w1).alloc (Nat.le_refl _) _).mono hb1.size)⟩
/-- A place's text. -/
def spL (x y : Int) : List UInt8 := itoa x ++ [32] ++ itoa y
set_option maxHeartbeats 4000000 in
set_option maxRecDepth 100000 in
theorem refSpot_fi (x y : Int) (hx : P20 x) (hy : P20 y) (w : World) : Calls Tryd.prog 40 #[.complex .f64 (fi x) (fi y)] w fun e w' => e = .returned (.string (bs (spL x y))) ∧ Below w.heap.size w w' := by
  have hx6 := hx.i64
  have hy6 := hy.i64
  have hz3 : (bs (itoa x)).size ≤ 21 := by rw [bs_size]; exact itoa_len x hx6.1 (by have := hx6.2; omega)
  have hz4 : (bs (itoa y)).size ≤ 21 := by rw [bs_size]; exact itoa_len y hy6.1 (by have := hy6.2; omega)
  go_enter Tryd.func40, Tryd.ntmps40
  go_wp2_with fail
  refine (Of_fi x y hx6 hy6 _).mono ?_
  rintro e w1 ⟨rfl, hb1⟩
  rw [p20_iff.2 hx, p20_iff.2 hy]
  go_wp2_with fail
  have c0 := box_new w1 #[.int .i64 x, .int .i64 y] 82 0 _ rfl
  have c1 := box_new w1 #[.int .i64 x, .int .i64 y] 82 1 _ rfl
  have hb2 := hb1.trans (((Below.refl _ w1).alloc (Nat.le_refl _) (.cells #[.int .i64 x, .int .i64 y] 82)).mono hb1.size)
  generalize w1.alloc (.cells #[.int .i64 x, .int .i64 y] 82) = w2 at *
  have x1 : ∀ m : ExtW w2, (exw m).cell? ⟨w1.heap.size, 1, none⟩ = some (.int .i64 y) := exw_cell c1
  have x0 : ∀ m : ExtW w2, (exw m).cell? ⟨w1.heap.size, 0, none⟩ = some (.int .i64 x) := exw_cell c0
  refine region_ext (by kernel_rfl) (by kernel_rfl) ?_
  repeat (go_big_quiet_step (first | (go_at_call 16; exact ext_call (refD_any _ hx6.1 hx6.2 _)) | (go_at_call 16; exact ext_call (refD_any _ hy6.1 hy6.2 _))))
  refine wpQuiet_nil ?_
  rintro w3 ⟨m, rfl⟩
  go_wp2_with fail
  go_ret
  refine ⟨?_, hb2.trans ((exw_below m).mono hb2.size)⟩
  unfold spL
  simp only [← bs_append]
  rfl
end Go.Proofs.YtcociflljbaicaaDoor
namespace Go.Proofs.YtcociflljbaicaaDoor
open Go.Lib

/-- The first words. -/
def W : Nat → List UInt8
  | 1 => [110, 111, 100, 101]
  | 2 => [100, 114, 111, 112]
  | 3 => [111, 118, 101, 114]
  | 4 => [108, 105, 110, 107]
  | 5 => [99, 117, 116]
  | 6 => [99, 111, 115, 116]
  | 7 => [100, 101, 108, 97, 121]
  | 8 => [109, 111, 118, 101]
  | 9 => [112, 105, 110]
  | 10 => [117, 110, 112, 105, 110]
  | _ => []
def onL : List UInt8 := [111, 110]
def offL : List UInt8 := [111, 102, 102]
def flL (f : Bool) : List UInt8 := if f then onL else offL
/-- An edit. -/
structure Ed where
  k : Nat
  a : Int
  b : Int
  c : Int
  d : Int
  x : Int
  y : Int
  pa : Nat
  pn : Int
  fl : Bool
def Ed0 : Ed := ⟨0, 0, 0, 0, 0, 0, 0, 0, 0, false⟩
/-- The words that write an edit. -/
inductive GE : List (List UInt8) → Ed → Prop where
  | spot (k : Nat) (a x y : Int) (hk : k = 1 ∨ k = 8) (ha : I64 a) (hx : P20 x) (hy : P20 y) : GE [W k, itoa a, itoa x, itoa y] ⟨k, a, 0, 0, 0, x, y, 0, 0, false⟩
  | drop (a : Int) (ha : I64 a) : GE [W 2, itoa a] ⟨2, a, 0, 0, 0, 0, 0, 0, 0, false⟩
  | over (a : Int) (f : Bool) (ha : I64 a) : GE [W 3, itoa a, flL f] ⟨3, a, 0, 0, 0, 0, 0, 0, 0, f⟩
  | link (a b c d : Int) (ha : I64 a) (hb : I64 b) (hc : I64 c) (hd : I64 d) : GE [W 4, itoa a, itoa b, itoa c, itoa d] ⟨4, a, b, c, d, 0, 0, 0, 0, false⟩
  | cut (a b : Int) (ha : I64 a) (hb : I64 b) : GE [W 5, itoa a, itoa b] ⟨5, a, b, 0, 0, 0, 0, 0, 0, false⟩
  | cost (a b c : Int) (ha : I64 a) (hb : I64 b) (hc : I64 c) : GE [W 6, itoa a, itoa b, itoa c] ⟨6, a, b, c, 0, 0, 0, 0, 0, false⟩
  | delay (a b d : Int) (ha : I64 a) (hb : I64 b) (hd : I64 d) : GE [W 7, itoa a, itoa b, itoa d] ⟨7, a, b, 0, d, 0, 0, 0, 0, false⟩
  | pin (a c : Int) (pa : Nat) (pn : Int) (ha : I64 a) (hc : I64 c) (hp : pa < 4294967296) (hs : snd pa pn = true) : GE [W 9, itoa a, pfxL pa pn, itoa c] ⟨9, a, 0, c, 0, 0, 0, pa, pn, false⟩
  | unpin (a : Int) (pa : Nat) (pn : Int) (ha : I64 a) (hp : pa < 4294967296) (hs : snd pa pn = true) : GE [W 10, itoa a, pfxL pa pn] ⟨10, a, 0, 0, 0, 0, 0, pa, pn, false⟩
theorem W_inj {i j : Nat} (hi : i ≤ 10) (hi0 : 0 < i) (hj : j ≤ 10) (hj0 : 0 < j) (h : W i = W j) : i = j := by
  have : ∀ i, i < 11 → 0 < i → ∀ j, j < 11 → 0 < j → W i = W j → i = j := by decide
  exact this i (by omega) hi0 j (by omega) hj0 h
theorem GE.head {ws : List (List UInt8)} {e : Ed} (h : GE ws e) : ∃ r, ws = W e.k :: r ∧ 0 < e.k ∧ e.k ≤ 10 ∧ r.length ≤ 4 := by
  cases h with
  | spot k a x y hk ha hx hy => exact ⟨_, rfl, by rcases hk with rfl | rfl <;> simp, by rcases hk with rfl | rfl <;> simp, by simp⟩
  | _ => exact ⟨_, rfl, by simp, by simp, by simp⟩
theorem flL_inj {f g : Bool} (h : flL f = flL g) : f = g := by
  revert h
  cases f <;> cases g <;> decide
theorem GE.unique {ws : List (List UInt8)} {e e' : Ed} (h : GE ws e) (h' : GE ws e') : e = e' := by
  have hk : e.k = e'.k := by
    obtain ⟨r, h1, h2, h3, _⟩ := h.head
    obtain ⟨r', h1', h2', h3', _⟩ := h'.head
    rw [h1] at h1'
    injection h1' with h4 _
    exact W_inj h3 h2 h3' h2' h4
  generalize hws : ws = ws' at h'
  cases h <;> cases h' <;> simp only at hk <;> (try omega) <;> (try (exfalso; simp only [List.cons.injEq] at hws; omega)) <;> simp only [List.cons.injEq, and_true] at hws
  · subst hk
    obtain ⟨_, h1, h2, h3⟩ := hws
    rw [itoa_inj h1, itoa_inj h2, itoa_inj h3]
  · rw [itoa_inj hws.2]
  · rw [itoa_inj hws.2.1, flL_inj hws.2.2]
  · rw [itoa_inj hws.2.1, itoa_inj hws.2.2.1, itoa_inj hws.2.2.2.1, itoa_inj hws.2.2.2.2]
  · rw [itoa_inj hws.2.1, itoa_inj hws.2.2]
  · rw [itoa_inj hws.2.1, itoa_inj hws.2.2.1, itoa_inj hws.2.2.2]
  · rw [itoa_inj hws.2.1, itoa_inj hws.2.2.1, itoa_inj hws.2.2.2]
  · rename_i hp hs _ _ _ _ _ _ hp' hs'
    have := pfx_inj hp hp' hs hs' hws.2.2.1
    rw [itoa_inj hws.2.1, itoa_inj hws.2.2.2, this.1, this.2]
  · rename_i hp hs _ _ _ _ hp' hs'
    have := pfx_inj hp hp' hs hs' hws.2.2
    rw [itoa_inj hws.2.1, this.1, this.2]
/-- No blank in a word. -/
def NB (l : List UInt8) : Prop := ∀ c ∈ l, c ≠ 32
theorem itoa_nb (n : Int) : NB (itoa n) := by
  have h : ∀ v : Nat, NB (decDigits v) := by
    intro v c hc e
    subst e
    have := decDigits_dig _ _ hc
    revert this
    unfold dig
    decide
  intro c hc
  unfold itoa at hc
  split at hc
  · rcases List.mem_cons.1 hc with rfl | hc
    · decide
    · exact h _ c hc
  · exact h _ c hc
theorem W_nb : ∀ i, NB (W i) := by
  intro i
  by_cases h : i < 11
  · have : ∀ i, i < 11 → ∀ c ∈ W i, c ≠ 32 := by decide
    exact this i h
  · have : W i = [] := by
      unfold W
      split <;> first | rfl | omega
    rw [this]
    intro c hc
    cases hc
theorem flL_nb (f : Bool) : NB (flL f) := by
  unfold NB
  cases f <;> decide
theorem pfx_nb (a : Nat) (n : Int) : NB (pfxL a n) := by
  intro c hc
  simp only [pfxL, List.mem_append, List.mem_cons, List.not_mem_nil, or_false] at hc
  rcases hc with (((((((h | rfl) | h) | rfl) | h) | rfl) | h) | rfl) | h
  any_goals decide
  any_goals exact oct_no _ _ 32 (by decide) c h
  exact itoa_nb n c h
theorem GE.nb {ws : List (List UInt8)} {e : Ed} (h : GE ws e) : ∀ l ∈ ws, NB l := by
  cases h <;> (
    intro l hl
    simp only [List.mem_cons, List.not_mem_nil, or_false] at hl
    rcases hl with rfl | rfl | rfl | rfl | rfl <;> first | exact W_nb _ | exact itoa_nb _ | exact flL_nb _ | exact pfx_nb _ _)
theorem joinA_cons (b : UInt8) (x y : List UInt8) (r : List (List UInt8)) : joinA b (x :: y :: r) = x ++ b :: joinA b (y :: r) := rfl
theorem cutA_joinA (b : UInt8) : ∀ (ws : List (List UInt8)), ws ≠ [] → (∀ l ∈ ws, ∀ c ∈ l, c ≠ b) → cutA b [] (joinA b ws) = ws
  | [], h, _ => absurd rfl h
  | [x], _, h => by
    rw [joinA, cutA_plain b x [] (h x List.mem_cons_self)]
    simp
  | x :: y :: r, _, h => by
    rw [joinA_cons, cutA_hit b _ x [] (h x List.mem_cons_self), cutA_joinA b (y :: r) (by simp) fun l hl => h l (List.mem_cons_of_mem _ hl)]
    simp
theorem GE.cut_join {ws : List (List UInt8)} {e : Ed} (h : GE ws e) : cutA 32 [] (joinA 32 ws) = ws := by
  refine cutA_joinA 32 ws ?_ (fun l hl => h.nb l hl)
  obtain ⟨r, h1, _⟩ := h.head
  rw [h1]
  simp
/-- What a line's words read as. -/
def RE (ws : List (List UInt8)) (e : Ed) (err : Int) : Prop := (err = 0 ∧ GE ws e) ∨ (err = 11 ∧ e = Ed0 ∧ ∀ e', ¬ GE ws e')
theorem RE.unique {ws : List (List UInt8)} {e e' : Ed} {r r' : Int} (h : RE ws e r) (h' : RE ws e' r') : e = e' ∧ r = r' := by
  rcases h with ⟨h1, h2⟩ | ⟨h1, h2, h3⟩ <;> rcases h' with ⟨k1, k2⟩ | ⟨k1, k2, k3⟩
  · exact ⟨h2.unique k2, by omega⟩
  · exact absurd h2 (k3 _)
  · exact absurd k2 (h3 _)
  · exact ⟨by rw [h2, k2], by omega⟩
theorem RE.total (ws : List (List UInt8)) : ∃ e r, RE ws e r := by
  by_cases h : ∃ e, GE ws e
  · obtain ⟨e, h⟩ := h
    exact ⟨e, 0, .inl ⟨rfl, h⟩⟩
  · exact ⟨Ed0, 11, .inr ⟨rfl, rfl, fun e' h' => h ⟨e', h'⟩⟩⟩
end Go.Proofs.YtcociflljbaicaaDoor
namespace Go.Proofs.YtcociflljbaicaaDoor
open Go.RowKit Go.Lib

theorem info9 : (Tryd.prog.info? 9).map (fun i => (i.zero, i.size, i.bytes)) = some (some (.string ⟨#[]⟩), 1, 16) := by kernel_rfl
def kOi : Value → Int
  | .int _ n => n
  | _ => 0
/-- Texts as values. -/
def strs (ls : List (List UInt8)) : List Value := ls.map fun l => .string (bs l)
theorem strs_append (a b : List (List UInt8)) : strs (a ++ b) = strs a ++ strs b := by simp [strs]
theorem strs_one (ls : List (List UInt8)) : ∀ u ∈ strs ls, u.oneCell' = true := by
  intro u hu
  obtain ⟨l, _, rfl⟩ := List.mem_map.1 hu
  rfl
theorem strs_length (ls : List (List UInt8)) : (strs ls).length = ls.length := by simp [strs]
/-- A list of texts that grows in a row of its own. -/
def RowS (w : World) (base : Nat) (v : Value) (ls : List (List UInt8)) : Prop := w.ownsRow base 9 1 v ls.length (strs ls)
theorem RowS.below {w w' : World} {base : Nat} {v : Value} {ls : List (List UInt8)} (h : RowS w base v ls) (hb : Below w.heap.size w w') : RowS w' base v ls := (Keep.of_below (S := fun _ => False) hb).owns h (by simp)
theorem RowS.of_append {w : World} {base : Nat} {v : Value} {ls : List (List UInt8)} {l : List UInt8} (h : w.ownsRow base 9 1 v (ls.length + 1) (strs ls ++ strs [l])) : RowS w base v (ls ++ [l]) := by
  unfold RowS
  rw [strs_append, List.length_append]
  exact h
theorem rows_below {w w1 w2 : World} {base B : Nat} {v : Value} {ls : List (List UInt8)} (h : RowS w1 base v ls) (hb : Below B w w1) (hg : w1.grownBy w2 v.ownBlock) (hB : B ≤ base) (hs : B ≤ w1.heap.size) : Below B w w2 :=
  hb.grown hg hs (fun k hk => Nat.le_trans hB (World.ownsRow.lt h k hk).1)
theorem map_data (ls : List (List UInt8)) : (ls.map bs).map (·.data.toList) = ls := by
  rw [List.map_map]
  conv => rhs; rw [← List.map_id ls]
  rfl
theorem ints_take (xs : List Int) (i : Nat) (h : i < xs.length) : (xs.take (i + 1)).map itoa = (xs.take i).map itoa ++ [itoa xs[i]] := by
  rw [List.take_succ_eq_append_getElem h, List.map_append]
  rfl
theorem join_size : ∀ (ls : List (List UInt8)), (∀ l ∈ ls, l.length ≤ 21) → (join ls [32]).length ≤ 22 * ls.length
  | [], _ => by simp [join_nil]
  | [x], h => by
    have := h x List.mem_cons_self
    rw [join_one]
    simp
    omega
  | x :: y :: r, h => by
    have h1 := h x List.mem_cons_self
    have ih := join_size (y :: r) fun l hl => h l (List.mem_cons_of_mem _ hl)
    rw [join_cons] at ih ⊢
    simp only [joinTail, List.map_cons, List.flatten_cons, List.length_append, List.length_cons, List.length_nil] at ih ⊢
    omega
set_option maxHeartbeats 4000000 in
set_option maxRecDepth 100000 in
theorem ints_any (v : Value) (xs : List Int) (hx : ∀ x ∈ xs, I64 x) (hl : xs.length ≤ 4) (h0 : 0 < xs.length) (w : World) (h : SlR w 1 v xs.length (ints xs)) (hv : VarsW w) :
    Calls Tryd.prog 31 #[v] w fun e w' => e = .returned (.string (bs (join (xs.map itoa) [32]))) ∧ Below w.heap.size w w' := by
  obtain ⟨a, cap, rfl, hm, hc⟩ := h.form
  go_enter Tryd.func31, Tryd.ntmps31
  go_wp2_with fail
  go_loopw [3, 8] (fun x3 x8 wr => ∃ i : Nat, x8 = .int .i64 i ∧ i ≤ xs.length ∧ RowS wr w.heap.size x3 ((xs.take i).map itoa) ∧ Below w.heap.size w wr) (fun _ x8 _ => xs.length - (kOi x8).toNat)
  case atStart => exact ⟨0, rfl, Nat.zero_le _, by simpa [RowS, strs] using World.ownsRow_nil _ _ _ _, Below.refl _ _⟩
  case round =>
    obtain ⟨i, rfl, hi, hrow, hb⟩ := hrel
    by_cases hlt : i < xs.length
    · obtain ⟨b, off, rfl, hcell⟩ := (hc.below hb).int_at i hlt
      have hxi := hx _ (List.getElem_mem hlt)
      have hlen := ints_take xs i hlt
      have hll : ((xs.take i).map itoa).length = i := by simp; omega
      generalize xs[i] = n at hcell hxi hlen
      go_wp2_with fail
      refine (Itoa_any n hxi.1 (by have := hxi.2; omega) _ (hv.below hb)).mono ?_
      rintro e w2 ⟨rfl, hb2⟩
      have hrow3 : RowS (w2.alloc (.cells #[.string (bs (itoa n))] 9)) w.heap.size u3 ((xs.take i).map itoa) := (hrow.below hb2).below ((Below.refl _ _).alloc (Nat.le_refl _) _)
      have hsl : SlR (w2.alloc (.cells #[.string (bs (itoa n))] 9)) 1 (.slice (some ⟨w2.heap.size, 0, none⟩) 1 1) 1 (strs [itoa n]) :=
        SlR.of_owns (World.ownsRow_lit (base := 0) (e := 9) (size := 1) w2 #[.string (bs (itoa n))] 1 (Nat.zero_le _) (by simp [maxLen]) rfl)
      have hB2 := hb.trans (hb2.mono hb.size)
      go_wp2_with (at_builtin; refine wpList_append_sl rfl _ _ 43 9 rfl w.heap.size (.string ⟨#[]⟩) 1 16 Tryd.underlying43 info9 rfl (by decide) (by decide) u3 _ _ rfl hrow3 _ 1 (strs [itoa n]) rfl hsl (strs_one _) (by rw [hll]; omega) (by simp; have := hB2.size; omega) ?_; intro v1 w3 hown3 hg hat)
      go_roundw
      case rel => exact ⟨i + 1, by go_num, by omega, hlen.symm ▸ RowS.of_append hown3, rows_below hrow3 (hB2.alloc (by have := hB2.size; omega) _) hg (Nat.le_refl _) (by simp; have := hB2.size; omega)⟩
      case measure => simp [kOi]; omega
    · have hin : i = xs.length := by omega
      subst hin
      rw [List.take_length] at hrow
      rcases hrow.2 with ⟨_, h1⟩ | ⟨g, cp, cur, rfl, hg, hcur, h1, h2, h3, h4⟩
      · rw [List.length_map] at h1
        omega
      · have hgl := (World.ownsRow.lt hrow g rfl).2
        have hcs := World.ownsRow.cells hrow (g := g) rfl
        have hJ := Tryd.strings_Join g 0 cp ((xs.map itoa).map bs) (bs [32]) wr (fun j x hj => by
          have := hcs j (.string x) (by rw [strs, List.getElem?_map]; rw [List.getElem?_map] at hj; cases hq : (xs.map itoa)[j]? with
            | none => rw [hq] at hj; cases hj
            | some q => rw [hq] at hj; injection hj with hj; subst hj; rfl)
          rw [Addr.add_at] at this
          exact this) hgl (by simp; omega) (by rw [List.length_map]; exact h1) (by
            rw [map_data]
            have := join_size (xs.map itoa) (fun l hl => by
              obtain ⟨n, hn, rfl⟩ := List.mem_map.1 hl
              have := hx n hn
              exact itoa_len n this.1 (by have := this.2; omega))
            rw [List.length_map] at this
            have e : (bs [32]).data.toList = [32] := rfl
            rw [e]
            omega)
        rw [map_data, List.length_map, List.length_map] at hJ
        go_wp2_with (go_at_call 42; refine hJ.mono ?_; rintro e w4 ⟨rfl, hb4⟩)
        go_ret
        exact ⟨rfl, hb.trans (hb4.mono hb.size)⟩
theorem ints_new (w : World) (xs : List Int) (cs : Array Value) (h : cs.toList = ints xs) (hl : xs.length ≤ 4) : SlR (w.alloc (.cells cs 3)) 1 (.slice (some ⟨w.heap.size, 0, none⟩) xs.length xs.length) xs.length (ints xs) := by
  refine ⟨by rw [ints_length, Nat.mul_one], by simp only [maxLen]; omega, _, _, rfl, nofun, .inr ⟨_, _, rfl, fun j u hu => ?_⟩⟩
  rw [Nat.zero_add]
  refine box_new w _ 3 j u ?_
  rw [← Array.getElem?_toList, h]
  exact hu
set_option maxHeartbeats 4000000 in
set_option maxRecDepth 100000 in
theorem spot_any (x y : Int) (hx : P20 x) (hy : P20 y) (w : World) (hv : VarsW w) : Calls Tryd.prog 32 #[.complex .f64 (fi x) (fi y)] w fun e w' => e = .returned (.string (bs (join ([x, y].map itoa) [32]))) ∧ Below w.heap.size w w' := by
  have c1 := conv_fi x hx
  have c2 := conv_fi y hy
  have hA := (Below.refl _ w).alloc (Nat.le_refl _) (.cells #[.int .i64 x, .int .i64 y] 3)
  go_enter Tryd.func32, Tryd.ntmps32
  go_wp2_with fail
  refine (ints_any _ [x, y] (by intro z hz; simp at hz; rcases hz with rfl | rfl; exact hx.i64; exact hy.i64) (by simp) (by simp) _ (ints_new w [x, y] #[.int .i64 x, .int .i64 y] rfl (by simp)) (hv.below hA)).mono ?_
  rintro e w2 ⟨rfl, hb2⟩
  go_wp2_with fail
  go_ret
  exact ⟨rfl, hA.trans (hb2.mono hA.size)⟩
/-- The first words, in their order. -/
def WL : List (List UInt8) := (List.range 11).map W
theorem words_any (w : World) : Calls Tryd.prog 23 #[] w fun e w' => e = .returned (.slice (some ⟨w.heap.size, 0, none⟩) 11 11) ∧ w' = w.alloc (.cells (strs WL).toArray 9) := by
  go_enter Tryd.func23, Tryd.ntmps23
  go_wp2_with fail
  go_ret
  exact ⟨rfl, rfl⟩
end Go.Proofs.YtcociflljbaicaaDoor
namespace Go.Proofs.YtcociflljbaicaaDoor
open Go.RowKit Go.Lib

/-- An edit in cells. -/
def Ed.cells (e : Ed) : Array Value := #[.int .i64 (e.k : Nat), .int .i64 e.a, .int .i64 e.b, .int .i64 e.c, .int .i64 e.d, .complex .f64 (fi e.x) (fi e.y), .int .u32 e.pa, .int .i64 e.pn, .bool e.fl]
def Ed.val (e : Ed) : Value := .agg e.cells
/-- An edit in a box B. -/
structure E9 (w : World) (B : Nat) (e : Ed) : Prop where
  lt : B < w.heap.size
  c0 : w.cell? ⟨B, 0, none⟩ = some (.int .i64 (e.k : Nat))
  c1 : w.cell? ⟨B, 1, none⟩ = some (.int .i64 e.a)
  c2 : w.cell? ⟨B, 2, none⟩ = some (.int .i64 e.b)
  c3 : w.cell? ⟨B, 3, none⟩ = some (.int .i64 e.c)
  c4 : w.cell? ⟨B, 4, none⟩ = some (.int .i64 e.d)
  c5 : w.cell? ⟨B, 5, none⟩ = some (.complex .f64 (fi e.x) (fi e.y))
  c6 : w.cell? ⟨B, 6, none⟩ = some (.int .u32 e.pa)
  c7 : w.cell? ⟨B, 7, none⟩ = some (.int .i64 e.pn)
  c8 : w.cell? ⟨B, 8, none⟩ = some (.bool e.fl)
theorem E9.new (w : World) (e : Ed) : E9 (w.alloc (.cells e.cells 34)) w.heap.size e :=
  ⟨by simp, box_new _ _ _ _ _ rfl, box_new _ _ _ _ _ rfl, box_new _ _ _ _ _ rfl, box_new _ _ _ _ _ rfl, box_new _ _ _ _ _ rfl, box_new _ _ _ _ _ rfl, box_new _ _ _ _ _ rfl, box_new _ _ _ _ _ rfl, box_new _ _ _ _ _ rfl⟩
theorem E9.below {w w2 : World} {B : Nat} {e : Ed} (h : E9 w B e) (hb : Below w.heap.size w w2) : E9 w2 B e :=
  have hx : ∀ {i : Nat} {u : Value}, w.cell? ⟨B, i, none⟩ = some u → w2.cell? ⟨B, i, none⟩ = some u := fun e => (hb.cell h.lt).trans e
  ⟨Nat.lt_of_lt_of_le h.lt hb.size, hx h.c0, hx h.c1, hx h.c2, hx h.c3, hx h.c4, hx h.c5, hx h.c6, hx h.c7, hx h.c8⟩
theorem word_at (w : World) (k : Nat) (h : k < 11) : (w.alloc (.cells (strs WL).toArray 9)).cell? ⟨w.heap.size, k, none⟩ = some (.string (bs (W k))) := by
  refine box_new w _ 9 k _ ?_
  have : ∀ k, k < 11 → WL[k]? = some (W k) := by decide
  rw [← Array.getElem?_toList]
  simp only [strs, List.getElem?_map]
  rw [this k h]
  rfl
theorem ints_at (w : World) (B : Nat) (hB : B = w.heap.size) (xs : List Int) (cs : Array Value) (h : cs.toList = ints xs) (hl : xs.length ≤ 4) (n : Nat) (hn : n = xs.length) : SlR (w.alloc (.cells cs 3)) 1 (.slice (some ⟨B, 0, none⟩) n n) xs.length (ints xs) := by
  subst hB hn
  exact ints_new w xs cs h hl
theorem word_of {B : Nat} {W1 w2 : World} (_ : Below B W1 w2) (k : Nat) (h : k < 11) : (w2.alloc (.cells (strs WL).toArray 9)).cell? ⟨w2.heap.size, k, none⟩ = some (.string (bs (W k))) := word_at w2 k h
theorem kind_of {w2 : World} {B : Nat} {ed : Ed} (h : E9 w2 B ed) (k : Int) (hk : ((ed.k : Nat) : Int) = k) : (w2.alloc (.cells (strs WL).toArray 9)).cell? ⟨B, 0, none⟩ = some (.int .i64 k) := hk ▸ (World.cell?_alloc_old w2 (.cells (strs WL).toArray 9) _ (Nat.ne_of_lt h.lt)).trans h.c0

theorem fin (k : Nat) (l : List UInt8) (ws : List (List UInt8)) (s : ByteArray) (hs : s = bs l) (h : W k ++ [32] ++ l = joinA 32 ws) :
    Ending.returned (.tuple #[.string (bs (W k) ++ ⟨#[32]⟩ ++ s), .int .i64 0]) = .returned (.tuple #[.string (bs (joinA 32 ws)), .int .i64 0]) := by
  rw [← h, hs, ← bs_append, ← bs_append]
  rfl
theorem W_size (k : Nat) (h : k < 11) : (bs (W k)).size ≤ 10 := by
  have : ∀ k, k < 11 → (W k).length ≤ 10 := by decide
  rw [bs_size]
  exact this k h
theorem itoa_21 {n : Int} (h : I64 n) : (itoa n).length ≤ 21 := itoa_len n h.1 (by have := h.2; omega)
theorem ints_size (xs : List Int) (hx : ∀ x ∈ xs, I64 x) (hl : xs.length ≤ 4) : (bs (join (xs.map itoa) [32])).size ≤ 100 := by
  rw [bs_size]
  have := join_size (xs.map itoa) (fun l hl => by
    obtain ⟨n, hn, rfl⟩ := List.mem_map.1 hl
    exact itoa_21 (hx n hn))
  rw [List.length_map] at this
  omega
theorem i64_1 {a : Int} (ha : I64 a) : ∀ x ∈ [a], I64 x := by intro x hx; simp at hx; subst hx; exact ha
theorem i64_2 {a b : Int} (ha : I64 a) (hb : I64 b) : ∀ x ∈ [a, b], I64 x := by intro x hx; simp at hx; rcases hx with rfl | rfl <;> assumption
theorem i64_3 {a b c : Int} (ha : I64 a) (hb : I64 b) (hc : I64 c) : ∀ x ∈ [a, b, c], I64 x := by intro x hx; simp at hx; rcases hx with rfl | rfl | rfl <;> assumption
theorem i64_4 {a b c d : Int} (ha : I64 a) (hb : I64 b) (hc : I64 c) (hd : I64 d) : ∀ x ∈ [a, b, c, d], I64 x := by intro x hx; simp at hx; rcases hx with rfl | rfl | rfl | rfl <;> assumption
end Go.Proofs.YtcociflljbaicaaDoor
