/- The law TextReadEdits. -/
import Derived.Test.YtcociflljbaicaaDoorRJ
import Derived.Test.YtcociflljbaicaaDoorZF
import Derived.Test.YtcociflljbaicaaDoorEB
import Derived.Test.YtcociflljbaicaaDoorEC
import Derived.Test.YtcociflljbaicaaDoorS
import Derived.Test.YtcociflljbaicaaDoorSE
namespace Go.Proofs.YtcociflljbaicaaDoor
open Go.RowKit Go.Lib

theorem Edit_any {ws : List (List UInt8)} {e : Ed} (h : GE ws e) (w : World) (hv : VarsW w) :
    Calls Tryd.prog 12 #[e.val] w fun e' w' => e' = .returned (.tuple #[.string (bs (joinA 32 ws)), .int .i64 0]) ∧ Below w.heap.size w w' := by
  cases h with
  | spot k a x y hk ha hx hy =>
    rcases hk with rfl | rfl
    · exact Edit_spot1 a x y ha hx hy w hv
    · exact Edit_spot8 a x y ha hx hy w hv
  | drop a ha => exact Edit_drop a ha w hv
  | over a f ha => exact Edit_over a f ha w hv
  | link a b c d ha hb hc hd => exact Edit_link a b c d ha hb hc hd w hv
  | cut a b ha hb => exact Edit_cut a b ha hb w hv
  | cost a b c ha hb hc => exact Edit_cost a b c ha hb hc w hv
  | delay a b d ha hb hd => exact Edit_delay a b d ha hb hd w hv
  | pin a c pa pn ha hc hp hs => exact Edit_pin a c pa pn ha hc hp hs w hv
  | unpin a pa pn ha hp hs => exact Edit_unpin a pa pn ha hp hs w hv
theorem P20_zero : P20 0 := by unfold P20; omega
theorem RE.place {ws : List (List UInt8)} {e : Ed} {r : Int} (h : RE ws e r) : P20 e.x ∧ P20 e.y := by
  rcases h with ⟨_, h⟩ | ⟨_, rfl, _⟩
  · cases h with
    | spot k a x y hk ha hx hy => exact ⟨hx, hy⟩
    | _ => exact ⟨P20_zero, P20_zero⟩
  · exact ⟨P20_zero, P20_zero⟩
theorem eq_cc0 {P : Program} (w : World) (d : Nat) (t : TypeId) (p q : Nat) (h : P.underlying t = some (.complex .f64)) (h1 : (FloatKind.f64.format.order p p == some .eq) = true) (h2 : (FloatKind.f64.format.order q q == some .eq) = true) :
    (Op.equalIn (d + 1) t (.complex .f64 p q) (.complex .f64 p q)).run P w = .ok true w := by
  have h1' : Op.floatEq .f64 p p = true := h1
  have h2' : Op.floatEq .f64 q q = true := h2
  simp [Op.equalIn, run_underlying h, h1', h2']
theorem eq_cc (w : World) (p q : Nat) (h1 : (FloatKind.f64.format.order p p == some .eq) = true) (h2 : (FloatKind.f64.format.order q q == some .eq) = true) :
    (Op.equalIn 9999 32 (.complex .f64 p q) (.complex .f64 p q)).run Tryd.prog w = .ok true w := eq_cc0 w 9998 32 p q Tryd.underlying32 h1 h2
/-- A box of cells. -/
structure Box (w : World) (B : Nat) (cs : Array Value) : Prop where
  lt : B < w.heap.size
  c : ∀ (j : Nat) u, cs[j]? = some u → w.cell? ⟨B, j, none⟩ = some u
theorem Box.new (w : World) (cs : Array Value) (t : TypeId) : Box (w.alloc (.cells cs t)) w.heap.size cs := ⟨by simp, fun j u h => box_new w cs t j u h⟩
theorem Box.below {w w2 : World} {B : Nat} {cs : Array Value} (h : Box w B cs) (b : Below w.heap.size w w2) : Box w2 B cs := ⟨Nat.lt_of_lt_of_le h.lt b.size, fun j u hu => (b.cell h.lt).trans (h.c j u hu)⟩
theorem Box.at {w : World} {B : Nat} {cs : Array Value} (h : Box w B cs) (j : Nat) {u : Value} (hu : cs[j]? = some u) : w.cell? ⟨B, j, none⟩ = some u := h.c j u hu
set_option maxHeartbeats 8000000 in
set_option maxRecDepth 100000 in
theorem TextReadEdits_walk' (href : ∀ (s : ByteArray) (ed : Ed) (er : Int), RE (cutA 32 [] s.data.toList) ed er → ∀ w : World, Calls Tryd.prog 11 #[.string s] w fun e' w' => e' = .returned (.tuple #[ed.val, .int .i64 er]) ∧ Below w.heap.size w w')
    (s : ByteArray) (hz : s.size ≤ 1048576) (w : World) (hv : VarsW w) :
    Calls Tryd.prog 4 #[.string s] w fun e w' => e = .returned (.bool true) ∧ Below w.heap.size w w' := by
  obtain ⟨ed, er, hE⟩ := RE.total (cutA 32 [] s.data.toList)
  have hpl := hE.place
  have s1 := self_fi _ hpl.1
  have s2 := self_fi _ hpl.2
  have hA := ReadEdit_any s hz ed er hE
  have hB := href s ed er hE
  have hEd : er = 0 → ∀ w, VarsW w → Calls Tryd.prog 12 #[ed.val] w fun e' w' => e' = .returned (.tuple #[.string s, .int .i64 0]) ∧ Below w.heap.size w w' := by
    intro h0 w hv
    rcases hE with ⟨_, hg⟩ | ⟨h1, _⟩
    · have := Edit_any hg w hv
      have e : bs (joinA 32 (cutA 32 [] s.data.toList)) = s := by
        rw [cutA_join]
        exact bs_self s
      rwa [e] at this
    · omega
  have her : er = 0 ∨ er = 11 := by
    rcases hE with ⟨h, _⟩ | ⟨h, _⟩
    · exact .inl h
    · exact .inr h
  clear hE hpl
  have tt := str_same s
  have hcx := store_cc
  have hcq := fun w => eq_cc w _ _ s1 s2
  obtain ⟨k, a, b, c, d, x, y, pa, pn, fl⟩ := ed
  simp only [Ed.val, Ed.cells] at *
  go_enter Tryd.func4, Tryd.ntmps4
  go_wp2_with fail
  refine (hA _ hv).mono ?_
  rintro e w1 ⟨rfl, hb1⟩
  generalize fi x = p at *
  generalize fi y = q at *
  generalize ((k : Nat) : Int) = k' at *
  have hA1 := (Below.refl _ w1).alloc (Nat.le_refl _) (.cells #[.int .i64 k', .int .i64 a, .int .i64 b, .int .i64 c, .int .i64 d, .complex .f64 p q, .int .u32 pa, .int .i64 pn, .bool fl] 34)
  have hc1 := hb1.trans (hA1.mono hb1.size)
  have bx := Box.new w1 #[.int .i64 k', .int .i64 a, .int .i64 b, .int .i64 c, .int .i64 d, .complex .f64 p q, .int .u32 pa, .int .i64 pn, .bool fl] 34
  go_wp2_with fail
  generalize w1.alloc _ = W1 at *
  generalize w1.heap.size = X at *
  refine (hB _).mono ?_
  rintro e w2 ⟨rfl, hb2⟩
  have hc2 := hc1.trans (hb2.mono hc1.size)
  have bx2 := bx.below hb2
  have hA2 := (Below.refl _ w2).alloc (Nat.le_refl _) (.cells #[.int .i64 k', .int .i64 a, .int .i64 b, .int .i64 c, .int .i64 d, .complex .f64 p q, .int .u32 pa, .int .i64 pn, .bool fl] 34)
  have hc3 := hc2.trans (hA2.mono hc2.size)
  have by2 := Box.new w2 #[.int .i64 k', .int .i64 a, .int .i64 b, .int .i64 c, .int .i64 d, .complex .f64 p q, .int .u32 pa, .int .i64 pn, .bool fl] 34
  have bx3 := bx2.below hA2
  go_wp2_with fail
  generalize w2.alloc _ = W2 at *
  generalize w2.heap.size = Y at *
  refine (awake_true _ (hv.below hc3)).mono ?_
  rintro e w3 ⟨rfl, hb3⟩
  have hc4 := hc3.trans (hb3.mono hc3.size)
  have bx4 := bx3.below hb3
  have by4 := by2.below hb3
  have x0 : w3.cell? ⟨X, 0, none⟩ = some (Value.int .i64 k') := bx4.at 0 rfl
  have x1 : w3.cell? ⟨X, 1, none⟩ = some (Value.int .i64 a) := bx4.at 1 rfl
  have x2 : w3.cell? ⟨X, 2, none⟩ = some (Value.int .i64 b) := bx4.at 2 rfl
  have x3 : w3.cell? ⟨X, 3, none⟩ = some (Value.int .i64 c) := bx4.at 3 rfl
  have x4 : w3.cell? ⟨X, 4, none⟩ = some (Value.int .i64 d) := bx4.at 4 rfl
  have x5 : w3.cell? ⟨X, 5, none⟩ = some (Value.complex .f64 p q) := bx4.at 5 rfl
  have x6 : w3.cell? ⟨X, 6, none⟩ = some (Value.int .u32 pa) := bx4.at 6 rfl
  have x7 : w3.cell? ⟨X, 7, none⟩ = some (Value.int .i64 pn) := bx4.at 7 rfl
  have x8 : w3.cell? ⟨X, 8, none⟩ = some (Value.bool fl) := bx4.at 8 rfl
  have y0 : w3.cell? ⟨Y, 0, none⟩ = some (Value.int .i64 k') := by4.at 0 rfl
  have y1 : w3.cell? ⟨Y, 1, none⟩ = some (Value.int .i64 a) := by4.at 1 rfl
  have y2 : w3.cell? ⟨Y, 2, none⟩ = some (Value.int .i64 b) := by4.at 2 rfl
  have y3 : w3.cell? ⟨Y, 3, none⟩ = some (Value.int .i64 c) := by4.at 3 rfl
  have y4 : w3.cell? ⟨Y, 4, none⟩ = some (Value.int .i64 d) := by4.at 4 rfl
  have y5 : w3.cell? ⟨Y, 5, none⟩ = some (Value.complex .f64 p q) := by4.at 5 rfl
  have y6 : w3.cell? ⟨Y, 6, none⟩ = some (Value.int .u32 pa) := by4.at 6 rfl
  have y7 : w3.cell? ⟨Y, 7, none⟩ = some (Value.int .i64 pn) := by4.at 7 rfl
  have y8 : w3.cell? ⟨Y, 8, none⟩ = some (Value.bool fl) := by4.at 8 rfl
  clear bx bx2 bx3 by2
  rcases her with rfl | rfl
  · go_wp2_with fail
    have hEd0 := hEd (by first | trivial | rfl) _ (hv.below hc4)
    refine hEd0.mono ?_
    rintro e w5 ⟨rfl, hb5⟩
    go_wp2_with fail
    go_ret
    exact ⟨rfl, hc4.trans (hb5.mono hc4.size)⟩
  · go_wp2_with fail
    go_ret
    exact ⟨rfl, hc4⟩
theorem TextReadEdits_walk (s : ByteArray) (hz : s.size ≤ 1048576) (w : World) (hv : VarsW w) :
    Calls Tryd.prog 4 #[.string s] w fun e w' => e = .returned (.bool true) ∧ Below w.heap.size w w' :=
  TextReadEdits_walk' (fun s ed er h w => refReadEdit_any s ed er h w) s hz w hv
end Go.Proofs.YtcociflljbaicaaDoor
