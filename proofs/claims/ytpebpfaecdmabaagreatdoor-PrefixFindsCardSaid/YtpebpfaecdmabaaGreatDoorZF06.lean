/- Parts of this proof, joined. -/
import Derived.Test.YtpebpfaecdmabaaGreatDoorZF05
import Derived.Test.YtpebpfaecdmabaaGreatDoorZFVA
import Derived.Test.YtpebpfaecdmabaaGreatDoorZF04
import Derived.Test.YtpebpfaecdmabaaGreatDoorZF00
import Derived.StillTail
import Derived.BigQuiet
/- The walks of the lookups. -/
namespace Go.Proofs.YtpebpfaecdmabaaGreatDoor.Bs
open Go.RowKit

/-- A fact that the walk does not see. -/
structure Veil (p : Prop) : Prop where
  out : p

def hasI (s : Bt) (n : Int) : Bool := inN n && hasB s n.toNat

theorem has_word (x : UInt64) (k : Nat) : (bits .and .u64 (u x / 2 ^ k) 1 == 1) = x.toNat.testBit k := by
  have e : u x / 2 ^ k = ((x.toNat / 2 ^ k : Nat) : Int) := by
    unfold u
    simp
  have hlt : x.toNat / 2 ^ k < 18446744073709551616 := Nat.lt_of_le_of_lt (Nat.div_le_self _ _) (UInt64.toNat_lt x)
  have h := u64_and_nat (x.toNat / 2 ^ k) 1 hlt (by decide)
  rw [e, show (1 : Int) = ((1 : Nat) : Int) from rfl, h, Nat.and_one_is_mod, Nat.testBit_eq_decide_div_mod_eq, Bool.eq_iff_iff, beq_iff_eq, decide_eq_true_eq]
  omega
theorem hasI_low (s : Bt) (n : Int) (hin : inN n = true) (h : n < 64) : hasI s n = s.1.toNat.testBit n.toNat := by
  have := inN_lt hin
  unfold hasI hasB
  rw [hin, if_pos (by omega)]
  rfl
theorem hasI_high (s : Bt) (n m : Int) (hin : inN n = true) (h : ¬ n < 64) (hm : n - 64 = m) : hasI s n = s.2.toNat.testBit m.toNat := by
  have := inN_lt hin
  unfold hasI hasB
  rw [hin, if_neg (by omega), show n.toNat - 64 = m.toNat by omega]
  rfl

end Go.Proofs.YtpebpfaecdmabaaGreatDoor.Bs
/- List, and Of by definition. -/
namespace Go.Proofs.YtpebpfaecdmabaaGreatDoor.Bs
open Go.RowKit

theorem info3 : (Tryz.prog.info? 3).map (fun i => (i.zero, i.size, i.bytes)) = some (some (.int .i64 0), 1, 8) := by kernel_rfl

theorem Arr.keep {w w' : World} {B : Nat} {s : Bt} {S : Nat → Prop} (h : Arr w B s) (k : Keep S w w') (hS : ¬ S B) : Arr w' B s := by
  obtain ⟨h0, h1, f0, f1⟩ := h
  have hlt := World.block_lt_of_cell? w _ h0
  exact ⟨k.cell h0 hS, k.cell h1 hS, k.unfrozen hlt f0 hS, k.unfrozen hlt f1 hS⟩
theorem Arr.below {w w' : World} {B : Nat} {s : Bt} (h : Arr w B s) (hb : Below w.heap.size w w') : Arr w' B s :=
  h.keep (Keep.of_below (S := fun _ => False) hb) (by simp)
theorem owns_below {w w' : World} {base : Nat} {e : TypeId} {size : Nat} {v : Value} {n : Nat} {xs : List Value} (h : w.ownsRow base e size v n xs) (hb : Below w.heap.size w w') : w'.ownsRow base e size v n xs :=
  (Keep.of_below (S := fun _ => False) hb).owns h (by simp)

/-- A list that grows in a row of its own. -/
def Row (w : World) (base : Nat) (v : Value) (L : List Int) : Prop := w.ownsRow base 3 1 v L.length (ints L)
theorem Row.below {w w' : World} {base : Nat} {v : Value} {L : List Int} (h : Row w base v L) (hb : Below w.heap.size w w') : Row w' base v L := owns_below h hb
theorem Row.form {w : World} {base : Nat} {v : Value} {L : List Int} (h : Row w base v L) : ∃ a cap, v = .slice a L.length cap ∧ SlR w 1 (.slice a L.length cap) L.length (ints L) := by
  have h1 := SlR.of_owns h
  obtain ⟨a, cap, rfl, _, h2⟩ := h1.form
  exact ⟨a, cap, rfl, h2⟩

theorem ints_append (a b : List Int) : ints (a ++ b) = ints a ++ ints b := by simp [ints]

theorem Row.of_append {w : World} {base : Nat} {v : Value} {L : List Int} {n : Int} (h : w.ownsRow base 3 1 v (L.length + 1) (ints L ++ ints [n])) : Row w base v (L ++ [n]) := by
  unfold Row
  rw [ints_append, List.length_append]
  exact h
theorem row_below {w w1 w2 : World} {base B : Nat} {v : Value} {L : List Int} (h : Row w1 base v L) (hb : Below B w w1) (hg : w1.grownBy w2 v.ownBlock) (hB : B ≤ base) (hs : B ≤ w1.heap.size) : Below B w w2 :=
  hb.grown hg hs (fun k hk => Nat.le_trans hB (h.lt k hk).1)
theorem row_arr {w1 w2 : World} {base B : Nat} {s : Bt} {v : Value} {L : List Int} (h : Row w1 base v L) (ha : Arr w1 B s) (hg : w1.grownBy w2 v.ownBlock) (hB : B < base) : Arr w2 B s :=
  ha.keep ((Keep.refl (fun k => v.ownBlock = some k) w1).grown hg (fun k hk => .inl hk)) (fun hk => by have := (h.lt B hk).1; omega)

theorem add_bit (x : UInt64) (m : Nat) (hm : m < 64) (h : x.toNat.testBit m = false) : IntKind.u64.wrap (u x + u (bit m)) = u (x ||| bit m) := by
  have e : x.toNat + 2 ^ m = x.toNat ||| 2 ^ m := by
    have h1 : ∀ n a b, a < 2 ^ n → b < 2 ^ n → (a ||| b) + (a &&& b) = a + b := by
      intro n
      induction n with
      | zero => intro a b ha hb; have : a = 0 := by omega
                have : b = 0 := by omega
                subst_vars; rfl
      | succ n ih =>
        intro a b ha hb
        have i := ih (a / 2) (b / 2) (by rw [Nat.pow_succ] at ha; omega) (by rw [Nat.pow_succ] at hb; omega)
        have d := dsum_or_and 1 a b
        simp only [dsum] at d
        rw [← Nat.or_div_two, ← Nat.and_div_two] at i
        omega
    have h2 : x.toNat &&& 2 ^ m = 0 := by
      apply Nat.eq_of_testBit_eq
      intro i
      rw [Nat.testBit_and, Nat.testBit_two_pow]
      by_cases hi : m = i
      · subst hi; simp [h]
      · simp [hi]
    have h3 := h1 64 x.toNat (2 ^ m) (UInt64.toNat_lt x) (Nat.pow_lt_pow_right (by decide) hm)
    omega
  unfold u
  rw [UInt64.toNat_or, bit_nat m hm, ← e, ← Int.natCast_add, wrap_nat]
  rw [e]
  have := Nat.or_lt_two_pow (UInt64.toNat_lt x) (Nat.pow_lt_pow_right (a := 2) (by decide) hm)
  simpa using this

end Go.Proofs.YtpebpfaecdmabaaGreatDoor.Bs
/- choose: the set that a test takes; printed by genG.py. -/
namespace Go.Proofs.YtpebpfaecdmabaaGreatDoor.Bs
open Go.RowKit

/-- The cells of the way's box. -/
structure Way (w : World) (B : Nat) (a b : Bt) (n way : Int) : Prop where
  a0 : w.cell? ⟨B, 0, none⟩ = some (.int .u64 (u a.1))
  a1 : w.cell? ⟨B, 1, none⟩ = some (.int .u64 (u a.2))
  b0 : w.cell? ⟨B, 2, none⟩ = some (.int .u64 (u b.1))
  b1 : w.cell? ⟨B, 3, none⟩ = some (.int .u64 (u b.2))
  n0 : w.cell? ⟨B, 4, none⟩ = some (.int .i64 n)
  w0 : w.cell? ⟨B, 5, none⟩ = some (.int .i64 way)
theorem Way.keep {w w' : World} {B : Nat} {a b : Bt} {n way : Int} {S : Nat → Prop} (h : Way w B a b n way) (k : Keep S w w') (hS : ¬ S B) : Way w' B a b n way :=
  ⟨k.cell h.a0 hS, k.cell h.a1 hS, k.cell h.b0 hS, k.cell h.b1 hS, k.cell h.n0 hS, k.cell h.w0 hS⟩
theorem Way.below {w w' : World} {B : Nat} {a b : Bt} {n way : Int} (h : Way w B a b n way) (hb : Below w.heap.size w w') : Way w' B a b n way :=
  h.keep (Keep.of_below (S := fun _ => False) hb) (by simp)
theorem row_way {w1 w2 : World} {base B : Nat} {a b : Bt} {n way : Int} {v : Value} {L : List Int} (h : Row w1 base v L) (ha : Way w1 B a b n way) (hg : w1.grownBy w2 v.ownBlock) (hB : B < base) : Way w2 B a b n way :=
  ha.keep ((Keep.refl (fun k => v.ownBlock = some k) w1).grown hg (fun k hk => .inl hk)) (fun hk => by have := (h.lt B hk).1; omega)
theorem hasI_nat (s : Bt) (k : Nat) (h : k ≤ 127) : hasI s (k : Int) = hasB s k := by simp [hasI, inN]; omega

end Go.Proofs.YtpebpfaecdmabaaGreatDoor.Bs
/- With, Without, and the law BitsOnes; printed by genH.py. -/
namespace Go.Proofs.YtpebpfaecdmabaaGreatDoor.Bs
open Go.RowKit

theorem withR_in {s : Bt} {n : Int} (h : inN n = true) : withR s n = (addB s n.toNat, 0) := by simp [withR, h]
theorem withR_out {s : Bt} {n : Int} (h : inN n = false) : withR s n = ((0, 0), 2) := by simp [withR, h]
theorem withoutR_in {s : Bt} {n : Int} (h : inN n = true) : withoutR s n = (minusB s (addB (0, 0) n.toNat), 0) := by simp [withoutR, h]
theorem withoutR_out {s : Bt} {n : Int} (h : inN n = false) : withoutR s n = ((0, 0), 2) := by simp [withoutR, h]

theorem of_one_row (n : Int) (a : Option Addr) (cap : Nat) (w : World) (h : SlR w 1 (.slice a 1 cap) 1 (ints [n])) : Calls Tryz.prog 41 #[.slice a 1 cap] w fun e w' => e = .returned (.tuple #[bv (withR (0,0) n).1, .int .i64 (withR (0,0) n).2]) ∧ Below w.heap.size w w' := by
  have := Of_any a cap [n] _ h
  rwa [of_one] at this
theorem one_row (n : Int) (w : World) (B : Nat) (hB : w.heap.size = B) : SlR (w.alloc (.cells #[.int .i64 n] 3)) 1 (.slice (some ⟨B, 0, none⟩) 1 1) 1 (ints [n]) := by
  subst hB
  exact SlR.of_owns (World.ownsRow_lit (base := 0) (e := 3) (size := 1) w #[.int .i64 n] 1 (Nat.zero_le _) (by simp [maxLen]) rfl)

set_option maxHeartbeats 1000000 in
set_option maxRecDepth 100000 in
theorem With_in (s : Bt) (n : Int) (hin : inN n = true) (w : World) :
    Calls Tryz.prog 31 #[bv s, .int .i64 n] w fun e w' => e = .returned (.tuple #[bv (withR s n).1, .int .i64 (withR s n).2]) ∧ Below w.heap.size w w' := by
  rw [withR_in hin]
  have ha := (Arr.new w s).alloc (by simp) (.cells #[.int .u64 0, .int .u64 0] 28)
  have hr : Arr ((w.alloc (.cells #[.int .u64 (u s.1), .int .u64 (u s.2)] 28)).alloc (.cells #[.int .u64 0, .int .u64 0] 28)) (w.heap.size + 1) (0, 0) := by
    have := Arr.new (w.alloc (.cells #[.int .u64 (u s.1), .int .u64 (u s.2)] 28)) (0, 0)
    rwa [World.size_alloc] at this
  go_enter Tryz.func31, Tryz.ntmps31
  go_wp2_with fail
  have hsl := one_row n ((w.alloc (.cells #[.int .u64 (u s.1), .int .u64 (u s.2)] 28)).alloc (.cells #[.int .u64 0, .int .u64 0] 28)) (w.heap.size + 1 + 1) (by simp)
  refine (of_one_row n _ _ _ hsl).mono ?_
  rintro e w4 ⟨rfl, hb4⟩
  have hB0 : Below w.heap.size w w4 := ((((Below.refl _ _).alloc (Nat.le_refl _) _).alloc (by simp) _).alloc (by simp; omega) _).trans (hb4.mono (by simp; omega))
  have hs4 : w.heap.size + 1 < w4.heap.size := Nat.lt_of_lt_of_le (by simp) hb4.size
  replace ha := (ha.alloc (by simp; omega) (.cells #[.int .i64 n] 3)).below hb4
  replace hr := (hr.alloc (by simp) (.cells #[.int .i64 n] 3)).below hb4
  rw [withR_in hin]
  replace ha := ha.alloc (by omega) (.cells #[.int .u64 (u (addB (0,0) n.toNat).1), .int .u64 (u (addB (0,0) n.toNat).2)] 28)
  replace hr := hr.alloc (by omega) (.cells #[.int .u64 (u (addB (0,0) n.toNat).1), .int .u64 (u (addB (0,0) n.toNat).2)] 28)
  have hB1 := hB0.alloc (by omega) (.cells #[.int .u64 (u (addB (0,0) n.toNat).1), .int .u64 (u (addB (0,0) n.toNat).2)] 28)
  obtain ⟨a0, a1, af0, af1⟩ := id ha
  have b0 := (Arr.new w4 (addB (0,0) n.toNat)).1
  have b1 := (Arr.new w4 (addB (0,0) n.toNat)).2.1
  clear hb4 hsl
  go_wp2_with fail
  refine (Or_any s (addB (0,0) n.toNat) _).mono ?_
  rintro e w5 ⟨rfl, hb5⟩
  rw [or_add]
  replace hr := hr.below hb5
  have hB5 := hB1.trans (hb5.mono (by simp; omega))
  clear ha a0 a1 af0 af1 b0 b1 hb5 hB1 hB0
  obtain ⟨a0, a1, af0, af1⟩ := id hr
  go_wp2
  exact bodyPost_ret (v := .tuple #[bv (addB s n.toNat), .int .i64 0]) (by simp [results, Tryz.results31, go_sem, a0, a1]) rfl ⟨rfl, (hB5.setCell (Nat.le_add_right _ _) _).setCell (Nat.le_add_right _ _) _⟩

set_option maxHeartbeats 1000000 in
set_option maxRecDepth 100000 in
theorem With_out (s : Bt) (n : Int) (hin : inN n = false) (w : World) :
    Calls Tryz.prog 31 #[bv s, .int .i64 n] w fun e w' => e = .returned (.tuple #[bv (withR s n).1, .int .i64 (withR s n).2]) ∧ Below w.heap.size w w' := by
  rw [withR_out hin]
  have ha := (Arr.new w s).alloc (by simp) (.cells #[.int .u64 0, .int .u64 0] 28)
  have hr : Arr ((w.alloc (.cells #[.int .u64 (u s.1), .int .u64 (u s.2)] 28)).alloc (.cells #[.int .u64 0, .int .u64 0] 28)) (w.heap.size + 1) (0, 0) := by
    have := Arr.new (w.alloc (.cells #[.int .u64 (u s.1), .int .u64 (u s.2)] 28)) (0, 0)
    rwa [World.size_alloc] at this
  go_enter Tryz.func31, Tryz.ntmps31
  go_wp2_with fail
  have hsl := one_row n ((w.alloc (.cells #[.int .u64 (u s.1), .int .u64 (u s.2)] 28)).alloc (.cells #[.int .u64 0, .int .u64 0] 28)) (w.heap.size + 1 + 1) (by simp)
  refine (of_one_row n _ _ _ hsl).mono ?_
  rintro e w4 ⟨rfl, hb4⟩
  have hB0 : Below w.heap.size w w4 := ((((Below.refl _ _).alloc (Nat.le_refl _) _).alloc (by simp) _).alloc (by simp; omega) _).trans (hb4.mono (by simp; omega))
  have hs4 : w.heap.size + 1 < w4.heap.size := Nat.lt_of_lt_of_le (by simp) hb4.size
  replace ha := (ha.alloc (by simp; omega) (.cells #[.int .i64 n] 3)).below hb4
  replace hr := (hr.alloc (by simp) (.cells #[.int .i64 n] 3)).below hb4
  rw [withR_out hin]
  obtain ⟨x0, x1, xf0, xf1⟩ := id hr
  have hB1 := ((hB0.setCell (p := ⟨w.heap.size + 1, 0, none⟩) (Nat.le_add_right _ _) (.int .u64 0)).setCell (p := ⟨w.heap.size + 1, 1, none⟩) (Nat.le_add_right _ _) (.int .u64 0)).alloc (by simp; omega) (.cells #[.int .u64 0, .int .u64 0] 28)
  have hy := Arr.alloc ((hr.set0 0).set1 0) (by simpa using hs4) (.cells #[.int .u64 0, .int .u64 0] 28)
  obtain ⟨a0, a1, af0, af1⟩ := hr.alloc (by omega) (.cells #[.int .u64 0, .int .u64 0] 28)
  clear hb4 hsl
  have e0 : u 0 = 0 := rfl
  go_wp2
  obtain ⟨y0, y1, _, _⟩ := hy
  exact bodyPost_ret (v := .tuple #[bv (0, 0), .int .i64 2]) (by rw [e0] at y0 y1; simp [results, Tryz.results31, go_sem, e0, y0, y1]) rfl ⟨rfl, hB1⟩
theorem With_any (s : Bt) (n : Int) (w : World) :
    Calls Tryz.prog 31 #[bv s, .int .i64 n] w fun e w' => e = .returned (.tuple #[bv (withR s n).1, .int .i64 (withR s n).2]) ∧ Below w.heap.size w w' := by
  by_cases hin : inN n = true
  · exact With_in s n hin w
  · exact With_out s n (by simpa using hin) w

end Go.Proofs.YtpebpfaecdmabaaGreatDoor.Bs
/- awake's graph: Tree: its state, and the heap's contracts at one node. -/
namespace Go.Proofs.YtpebpfaecdmabaaGreatDoor
open Go.RowKit

def zerosI : Array Value := Array.replicate 128 (.int .i64 0)
def zerosB : Array Value := Array.replicate 256 (.int .u64 0)
theorem mk59 (w : World) : (Instr.makeSlice 67 (.int .i64 128) (.int .i64 128)).run Tryz.prog w = .ok (.slice (some ⟨w.heap.size, 0, none⟩) 128 128) (w.alloc (.cells zerosI 3)) := by kernel_rfl
theorem mk60 (w : World) : (Instr.makeSlice 68 (.int .i64 128) (.int .i64 128)).run Tryz.prog w = .ok (.slice (some ⟨w.heap.size, 0, none⟩) 128 128) (w.alloc (.cells zerosB 28)) := by kernel_rfl
theorem zerosI_at (j : Nat) (h : j < 128) : zerosI[j]? = some (.int .i64 0) := by unfold zerosI; rw [Array.getElem?_replicate]; simp [h]
theorem zerosB_at (j : Nat) (h : j < 256) : zerosB[j]? = some (.int .u64 0) := by unfold zerosB; rw [Array.getElem?_replicate]; simp [h]

/-- A slice of 128 elements. -/
abbrev sl128 (D : Nat) : Value := .slice (some ⟨D, 0, none⟩) 128 128
/-- The tree while it is reckoned: the result's box R, the struct's box T, its rows D, Pp, Qq; all below B0. -/
structure TS (w wr : World) (B0 R T D Pp Qq : Nat) (ds : Nat → Int) (ps : Nat → Bt) : Prop where
  hb : Below w.heap.size w wr
  bd : w.heap.size ≤ R ∧ R < D ∧ R < Pp ∧ R < Qq ∧ R < T ∧ T < B0 ∧ D < B0 ∧ Pp < B0 ∧ Qq < B0 ∧ B0 ≤ wr.heap.size
  ne : T ≠ D ∧ T ≠ Pp ∧ T ≠ Qq ∧ D ≠ Pp ∧ D ≠ Qq ∧ Pp ≠ Qq
  r : ∀ j, j < 4 → ∃ v, wr.cell? ⟨R, j, none⟩ = some v
  rf : ∀ j, wr.frozen? ⟨R, j, none⟩ = false
  t0 : wr.cell? ⟨T, 0, none⟩ = some (.int .i64 1)
  t1 : wr.cell? ⟨T, 1, none⟩ = some (sl128 D)
  t2 : wr.cell? ⟨T, 2, none⟩ = some (sl128 Pp)
  t3 : wr.cell? ⟨T, 3, none⟩ = some (sl128 Qq)
  d : ∀ j, j < 128 → wr.cell? ⟨D, j, none⟩ = some (.int .i64 (ds j))
  p : ∀ j, j < 128 → wr.cell? ⟨Pp, j * 2, none⟩ = some (.int .u64 (Go.Proofs.YtpebpfaecdmabaaGreatDoor.u (ps j).1)) ∧ wr.cell? ⟨Pp, j * 2 + 1, none⟩ = some (.int .u64 (Go.Proofs.YtpebpfaecdmabaaGreatDoor.u (ps j).2))
  q : ∀ j, j < 256 → wr.cell? ⟨Qq, j, none⟩ = some (.int .u64 0)
  fd : ∀ j, wr.frozen? ⟨D, j, none⟩ = false
  fp : ∀ j, wr.frozen? ⟨Pp, j, none⟩ = false
variable {w wr w2 : World} {B0 R T D Pp Qq : Nat} {ds : Nat → Int} {ps : Nat → Bt}
theorem TS.frame (h : TS w wr B0 R T D Pp Qq ds ps) (b : Below B0 wr w2) : TS w w2 B0 R T D Pp Qq ds ps := by
  obtain ⟨b1, b2, b3, b4, b5, b6, b7, b8, b9, b10⟩ := h.bd
  have hx : ∀ {k i : Nat} {u : Value}, k < B0 → wr.cell? ⟨k, i, none⟩ = some u → w2.cell? ⟨k, i, none⟩ = some u := fun {k i u} hk e => (b.cell (p := ⟨k, i, none⟩) hk).trans e
  have hf : ∀ {k i : Nat}, k < B0 → wr.frozen? ⟨k, i, none⟩ = false → w2.frozen? ⟨k, i, none⟩ = false := fun {k i} hk e => (b.frozen (p := ⟨k, i, none⟩) hk).trans e
  exact ⟨h.hb.trans (b.mono (by omega)), ⟨b1, b2, b3, b4, b5, b6, b7, b8, b9, Nat.le_trans b10 b.size⟩, h.ne, fun j hj => by obtain ⟨v, e⟩ := h.r j hj; exact ⟨v, hx (by omega) e⟩, fun j => hf (by omega) (h.rf j),
    hx b6 h.t0, hx b6 h.t1, hx b6 h.t2, hx b6 h.t3, fun j hj => hx b7 (h.d j hj), fun j hj => ⟨hx b8 (h.p j hj).1, hx b8 (h.p j hj).2⟩, fun j hj => hx b9 (h.q j hj), fun j => hf b7 (h.fd j), fun j => hf b8 (h.fp j)⟩
theorem TS.below (h : TS w wr B0 R T D Pp Qq ds ps) (b : Below wr.heap.size wr w2) : TS w w2 B0 R T D Pp Qq ds ps := h.frame (b.mono h.bd.2.2.2.2.2.2.2.2.2)
theorem TS.keep {S : Nat → Prop} (h : TS w wr B0 R T D Pp Qq ds ps) (k : Keep S wr w2) (hs : ∀ i, S i → B0 ≤ i) : TS w w2 B0 R T D Pp Qq ds ps :=
  h.frame (k.below fun i hi => ⟨Nat.lt_of_lt_of_le hi h.bd.2.2.2.2.2.2.2.2.2, fun hS => by have := hs i hS; omega⟩)
theorem TS.setD (h : TS w wr B0 R T D Pp Qq ds ps) (j : Nat) (hj : j < 128) (x : Int) : TS w (wr.setCell ⟨D, j, none⟩ (.int .i64 x)) B0 R T D Pp Qq (fun i => if i = j then x else ds i) ps := by
  obtain ⟨b1, b2, b3, b4, b5, b6, b7, b8, b9, b10⟩ := h.bd
  obtain ⟨n1, n2, n3, n4, n5, n6⟩ := h.ne
  have k : Keep (fun i => i = D) wr (wr.setCell ⟨D, j, none⟩ (.int .i64 x)) := (Keep.refl _ wr).setCell ⟨D, j, none⟩ _ (.inl rfl)
  refine ⟨h.hb.setCell (show w.heap.size ≤ D by omega) _, ⟨b1, b2, b3, b4, b5, b6, b7, b8, b9, by rw [World.size_setCell]; exact b10⟩, h.ne, fun j hj => by obtain ⟨v, e⟩ := h.r j hj; exact ⟨v, k.cell e (by show ¬ R = D; omega)⟩,
    fun j => by rw [World.frozen?_setCell]; exact h.rf j, k.cell h.t0 n1, k.cell h.t1 n1, k.cell h.t2 n1, k.cell h.t3 n1, fun i hi => ?_, fun i hi => ⟨k.cell (h.p i hi).1 (Ne.symm n4), k.cell (h.p i hi).2 (Ne.symm n4)⟩, fun i hi => k.cell (h.q i hi) (Ne.symm n5), fun i => by rw [World.frozen?_setCell]; exact h.fd i, fun i => by rw [World.frozen?_setCell]; exact h.fp i⟩
  by_cases e : i = j
  · subst e; rw [if_pos rfl]; exact World.cell?_setCell_same _ _ _ (h.d i hi)
  · rw [if_neg e, World.cell?_setCell_other _ _ _ _ (by intro e'; injection e' with e1 e2; omega)]; exact h.d i hi
theorem TS.setP (h : TS w wr B0 R T D Pp Qq ds ps) (j : Nat) (hj : j < 128) (x : Bt) : TS w ((wr.setCell ⟨Pp, j * 2, none⟩ (.int .u64 (Go.Proofs.YtpebpfaecdmabaaGreatDoor.u x.1))).setCell ⟨Pp, j * 2 + 1, none⟩ (.int .u64 (Go.Proofs.YtpebpfaecdmabaaGreatDoor.u x.2))) B0 R T D Pp Qq ds (fun i => if i = j then x else ps i) := by
  obtain ⟨b1, b2, b3, b4, b5, b6, b7, b8, b9, b10⟩ := h.bd
  obtain ⟨n1, n2, n3, n4, n5, n6⟩ := h.ne
  have k : Keep (fun i => i = Pp) wr ((wr.setCell ⟨Pp, j * 2, none⟩ (.int .u64 (Go.Proofs.YtpebpfaecdmabaaGreatDoor.u x.1))).setCell ⟨Pp, j * 2 + 1, none⟩ (.int .u64 (Go.Proofs.YtpebpfaecdmabaaGreatDoor.u x.2))) := ((Keep.refl (fun i => i = Pp) wr).setCell ⟨Pp, j * 2, none⟩ _ (.inl rfl)).setCell ⟨Pp, j * 2 + 1, none⟩ _ (.inl rfl)
  refine ⟨(h.hb.setCell (show w.heap.size ≤ Pp by omega) _).setCell (show w.heap.size ≤ Pp by omega) _, ⟨b1, b2, b3, b4, b5, b6, b7, b8, b9, by rw [World.size_setCell, World.size_setCell]; exact b10⟩, h.ne, fun j hj => by obtain ⟨v, e⟩ := h.r j hj; exact ⟨v, k.cell e (by show ¬ R = Pp; omega)⟩,
    fun j => by rw [World.frozen?_setCell, World.frozen?_setCell]; exact h.rf j, k.cell h.t0 n2, k.cell h.t1 n2, k.cell h.t2 n2, k.cell h.t3 n2, fun i hi => k.cell (h.d i hi) n4, fun i hi => ?_, fun i hi => k.cell (h.q i hi) (Ne.symm n6), fun i => by rw [World.frozen?_setCell, World.frozen?_setCell]; exact h.fd i, fun i => by rw [World.frozen?_setCell, World.frozen?_setCell]; exact h.fp i⟩
  have hp := h.p i hi
  by_cases e : i = j
  · subst e
    simp only [if_true]
    refine ⟨?_, ?_⟩
    · rw [World.cell?_setCell_other _ _ _ _ (by intro e'; injection e' with e1 e2; omega)]; exact World.cell?_setCell_same _ _ _ hp.1
    · exact World.cell?_setCell_same _ _ _ ((World.cell?_setCell_other _ _ _ _ (by intro e'; injection e' with e1 e2; omega)).trans hp.2)
  · simp only [if_neg e]
    refine ⟨?_, ?_⟩
    · rw [World.cell?_setCell_other _ _ _ _ (by intro e'; injection e' with e1 e2; omega), World.cell?_setCell_other _ _ _ _ (by intro e'; injection e' with e1 e2; omega)]; exact hp.1
    · rw [World.cell?_setCell_other _ _ _ _ (by intro e'; injection e' with e1 e2; omega), World.cell?_setCell_other _ _ _ _ (by intro e'; injection e' with e1 e2; omega)]; exact hp.2
theorem TS.same {ds' : Nat → Int} {ps' : Nat → Bt} (h : TS w wr B0 R T D Pp Qq ds ps) (hd : ∀ j, j < 128 → ds j = ds' j) (hp : ∀ j, j < 128 → ps j = ps' j) : TS w wr B0 R T D Pp Qq ds' ps' :=
  ⟨h.hb, h.bd, h.ne, h.r, h.rf, h.t0, h.t1, h.t2, h.t3, fun j hj => by rw [← hd j hj]; exact h.d j hj, fun j hj => by rw [← hp j hj]; exact h.p j hj, h.q, h.fd, h.fp⟩

theorem heap5 (w : World) (a b c d e : Obj) : (((((w.alloc a).alloc b).alloc c).alloc d).alloc e).drew.heap[w.heap.size]? = some a ∧ (((((w.alloc a).alloc b).alloc c).alloc d).alloc e).drew.heap[w.heap.size + 1]? = some b ∧
    (((((w.alloc a).alloc b).alloc c).alloc d).alloc e).drew.heap[w.heap.size + 1 + 1]? = some c ∧ (((((w.alloc a).alloc b).alloc c).alloc d).alloc e).drew.heap[w.heap.size + 1 + 1 + 1]? = some d ∧ (((((w.alloc a).alloc b).alloc c).alloc d).alloc e).drew.heap[w.heap.size + 1 + 1 + 1 + 1]? = some e := by
  show (((((w.heap.push a).push b).push c).push d).push e)[_]? = _ ∧ (((((w.heap.push a).push b).push c).push d).push e)[_]? = _ ∧ (((((w.heap.push a).push b).push c).push d).push e)[_]? = _ ∧ (((((w.heap.push a).push b).push c).push d).push e)[_]? = _ ∧ (((((w.heap.push a).push b).push c).push d).push e)[_]? = _
  refine ⟨?_, ?_, ?_, ?_, ?_⟩ <;> (simp only [Array.getElem?_push, Array.size_push]; (repeat' split) <;> first | rfl | (exfalso; omega) | contradiction)
theorem cell_at {w : World} {b i : Nat} {cs : Array Value} {t : TypeId} {v : Value} (h : w.heap[b]? = some (.cells cs t)) (hv : cs[i]? = some v) : w.cell? ⟨b, i, none⟩ = some v := by simp only [World.cell?, h]; exact hv
theorem free_at {w : World} {b i : Nat} {cs : Array Value} {t : TypeId} (h : w.heap[b]? = some (.cells cs t)) : w.frozen? ⟨b, i, none⟩ = false := by simp [World.frozen?, h]
theorem TS.start {W : World} {t : TypeId} {r0 r1 r2 r3 : Value} (hb : Below w.heap.size w W) (hs : W.heap.size = B0)
    (hR : W.heap[R]? = some (.cells #[r0, r1, r2, r3] t)) (hT : W.heap[T]? = some (.cells #[.int .i64 1, sl128 D, sl128 Pp, sl128 Qq] 70)) (hD : W.heap[D]? = some (.cells zerosI 3)) (hP : W.heap[Pp]? = some (.cells zerosB 28)) (hQ : W.heap[Qq]? = some (.cells zerosB 28))
    (bd : w.heap.size ≤ R ∧ R < D ∧ R < Pp ∧ R < Qq ∧ R < T ∧ T < B0 ∧ D < B0 ∧ Pp < B0 ∧ Qq < B0) (ne : T ≠ D ∧ T ≠ Pp ∧ T ≠ Qq ∧ D ≠ Pp ∧ D ≠ Qq ∧ Pp ≠ Qq) : TS w W B0 R T D Pp Qq (fun _ => 0) (fun _ => (0, 0)) := by
  obtain ⟨b1, b2, b3, b4, b5, b6, b7, b8, b9⟩ := bd
  refine ⟨hb, ⟨b1, b2, b3, b4, b5, b6, b7, b8, b9, by omega⟩, ne, fun j hj => ?_, fun j => free_at hR, cell_at hT rfl, cell_at hT rfl, cell_at hT rfl, cell_at hT rfl, fun j hj => cell_at hD (zerosI_at j hj), fun j hj => ⟨cell_at hP (zerosB_at _ (by omega)), cell_at hP (zerosB_at _ (by omega))⟩, fun j hj => cell_at hQ (zerosB_at j hj), fun j => free_at hD, fun j => free_at hP⟩
  have : j = 0 ∨ j = 1 ∨ j = 2 ∨ j = 3 := by omega
  rcases this with rfl | rfl | rfl | rfl
  · exact ⟨_, cell_at hR rfl⟩
  · exact ⟨_, cell_at hR rfl⟩
  · exact ⟨_, cell_at hR rfl⟩
  · exact ⟨_, cell_at hR rfl⟩

/-! The heap, empty and with one node. -/
def HE (w : World) (H : Nat) (v : Value) : Prop := ∃ po, Hp.HW w H v [] po ∧ ∀ n, po n = 0
def H1 (w : World) (H : Nat) (v : Value) (k : Int) (n : Nat) : Prop := ∃ po, Hp.HW w H v [(k, n)] po ∧ ∀ m, m ≠ n → po m = 0
theorem HE.below {H : Nat} {v : Value} (h : HE wr H v) (b : Below wr.heap.size wr w2) : HE w2 H v := by obtain ⟨po, h1, h2⟩ := h; exact ⟨po, h1.below b, h2⟩
theorem H1.below {H n : Nat} {v : Value} {k : Int} (h : H1 wr H v k n) (b : Below wr.heap.size wr w2) : H1 w2 H v k n := by obtain ⟨po, h1, h2⟩ := h; exact ⟨po, h1.below b, h2⟩
theorem HE.keep {S : Nat → Prop} {H : Nat} {v : Value} (h : HE wr H v) (k : Keep S wr w2) (hH : ¬ S H) (hG : ∀ G, v.ownBlock = some G → ¬ S G) : HE w2 H v := by obtain ⟨po, h1, h2⟩ := h; exact ⟨po, h1.keep k hH hG, h2⟩
theorem H1.keep {S : Nat → Prop} {H n : Nat} {v : Value} {k : Int} (h : H1 wr H v k n) (kk : Keep S wr w2) (hH : ¬ S H) (hG : ∀ G, v.ownBlock = some G → ¬ S G) : H1 w2 H v k n := by obtain ⟨po, h1, h2⟩ := h; exact ⟨po, h1.keep kk hH hG, h2⟩
theorem HE.own {H : Nat} {v : Value} (h : HE wr H v) : ∀ g, v.ownBlock = some g → g < wr.heap.size := by obtain ⟨po, h1, _⟩ := h; exact fun g hg => (h1.own.lt g hg).2
theorem H1.own {H n : Nat} {v : Value} {k : Int} (h : H1 wr H v k n) : ∀ g, v.ownBlock = some g → g < wr.heap.size := by obtain ⟨po, h1, _⟩ := h; exact fun g hg => (h1.own.lt g hg).2
theorem up0 (s : Hp.HS) : Hp.upS s 0 = s := by
  rw [Hp.upS]
  split
  · simp
  · rfl
theorem new0 (w : World) : Calls Tryz.prog 67 #[] w fun e w' => e = .returned (.pointer (some ⟨w.heap.size, 0, none⟩)) ∧ HE w' w.heap.size (.slice none 0 0) ∧ Below w.heap.size w w' :=
  (Hp.new_any w).mono fun _ _ ⟨h1, h2, h3⟩ => ⟨h1, ⟨_, h2, fun _ => rfl⟩, h3⟩
theorem push1 {w : World} {H : Nat} {v : Value} (h : HE w H v) (n : Nat) (k : Int) (hn : n < 128) : Calls Tryz.prog 68 #[.pointer (some ⟨H, 0, none⟩), .int .i64 n, .int .i64 k] w fun e w' =>
    e = .returned (.int .i64 0) ∧ ∃ v', H1 w' H v' k n ∧ Keep (fun k => k = H ∨ v.ownBlock = some k) w w' ∧ (v'.ownBlock = v.ownBlock ∨ ∃ g, v'.ownBlock = some g ∧ w.heap.size ≤ g) := by
  obtain ⟨po, h1, h2⟩ := h
  refine (Hp.push_new H v ([], po) n k w h1 hn (h2 n) (by simp)).mono ?_
  rintro e w' ⟨rfl, v', h3, h4, h5⟩
  simp only [List.nil_append, List.length_nil, Nat.zero_add, up0] at h3
  exact ⟨rfl, v', ⟨_, h3, fun m hm => by simp [Hp.upd, hm, h2]⟩, h4, h5⟩
theorem pop1 {w : World} {H n : Nat} {v : Value} {k : Int} (h : H1 w H v k n) : Calls Tryz.prog 69 #[.pointer (some ⟨H, 0, none⟩)] w fun e w' =>
    e = .returned (.tuple #[.int .i64 n, .int .i64 k, .int .i64 0]) ∧ ∃ v', HE w' H v' ∧ Keep (fun k => k = H ∨ v.ownBlock = some k) w w' ∧ v'.ownBlock = v.ownBlock := by
  obtain ⟨po, h1, h2⟩ := h
  refine (Hp.pop_some H v ([(k, n)], po) (k, n) (k, n) w h1 rfl rfl).mono ?_
  rintro e w' ⟨rfl, v', h3, h4, h5⟩
  refine ⟨rfl, v', ⟨_, h3, fun m => ?_⟩, h5, h4⟩
  simp only [Hp.takeS, List.length_singleton, Nat.sub_self, Nat.lt_irrefl, if_false, Hp.upd]
  by_cases e : m = n
  · simp [e]
  · simp only [if_neg e, Hp.swS, Hp.upd]; exact h2 m e
theorem pop0 {w : World} {H : Nat} {v : Value} (h : HE w H v) : Calls Tryz.prog 69 #[.pointer (some ⟨H, 0, none⟩)] w fun e w' => e = .returned (.tuple #[.int .i64 0, .int .i64 0, .int .i64 8]) ∧ ∃ n, w' = w.drewN n := by
  obtain ⟨po, h1, _⟩ := h
  exact Hp.pop_none H v ([], po) w h1 rfl
theorem HE.ex {H : Nat} {v : Value} (h : HE wr H v) : wr.cell? ⟨H, 0, none⟩ = some v := by obtain ⟨po, h1, _⟩ := h; exact h1.c0
end Go.Proofs.YtpebpfaecdmabaaGreatDoor
/- Drawn regions whose head reads (its callees at most make memory) and whose tail stands in one order: one walk. No program stands in it. -/
namespace Go.Proofs.YtpebpfaecdmabaaGreatDoor
open Go Go.RowKit

/-- Whatever order the head is picked in, in worlds of a class. -/
def wpAnyLQ (P : Program) (md : Region.Mode) (ops : Array Oper) (C : World → Prop) (n : Nat) (L : Array Bool → Act → Prop) : Nat → Array Bool → Act → Prop
  | 0, listed, a => L listed a
  | f + 1, listed, a =>
    Region.ready md ops listed ≠ [] ∧ ∀ i ∈ Region.ready md ops listed, i < n ∧ qOp P ops C i (wpAnyLQ P md ops C n L f (listed.setIfInBounds i true)) a

theorem wpAny_of_headQ {P : Program} {ops : Array Oper} {md : Region.Mode} {C : World → Prop} {n g : Nat} {L : Array Bool → Act → Prop} {Q' : Exit → Act → World → Prop} (hL : ∀ listed a w, C w → L listed a → wpAny P md ops Q' g listed a w) :
    ∀ (f : Nat) (listed : Array Bool) (a : Act) (w : World), C w → wpAnyLQ P md ops C n L f listed a → wpAny P md ops Q' (f + g) listed a w
  | 0, _, _, _, hw, h => by rw [Nat.zero_add]; exact hL _ _ _ hw h
  | f + 1, listed, a, w, hw, h => by
    rw [show f + 1 + g = (f + g) + 1 by omega]
    exact ⟨fun h0 => absurd h0 h.1, fun i hi => wpOp_of_qOp hw (fun a' w' hw' h' => wpAny_of_headQ hL f _ a' w' hw' h') (h.2 i hi).2⟩

theorem wpAnyLQ_first {P : Program} {ops : Array Oper} {md : Region.Mode} {C : World → Prop} {n i : Nat} {oi : Oper} {v : Value} {L : Array Bool → Act → Prop} (hi : ops[i]? = some oi) (hsel : ∀ (j : Nat) (o : Oper) cs b, ops[j]? = some o → o.op ≠ .select cs b)
    (hs : Region.sinkB md ops n = true) (hc : Region.chainB md ops n = true) (hn : n < ops.size) (hin : i < n)
    (hdone : ∀ listed a, L listed a → ∀ j ∈ Region.ready md ops listed, n ≤ j) :
    ∀ (f : Nat) (listed : Array Bool) (a : Act), HeadInv md ops n listed →
      (∀ j oj, ops[j]? = some oj → j ≠ i → listed.getD j true = false → (∀ e ∈ oj.after, Region.binds md e = true → e.on ≠ i) → oi.apart ops oj = true) →
      i ∈ Region.ready md ops listed → YieldsIn P ops C oi v a →
      wpAnyLQ P md ops C n L f (listed.setIfInBounds i true) (a.put oi.dst v) → wpAnyLQ P md ops C n L (f + 1) listed a := by
  intro f
  induction f with
  | zero =>
    intro listed a inv _ hr hy H
    have hun := (mem_ready.1 hr).1
    refine ⟨fun h => (by rw [h] at hr; cases hr), fun j hj => ?_⟩
    have hjn : j < n := by
      rcases Nat.lt_or_ge j n with h | h
      · exact h
      · exact absurd hj (tail_waits hs hc hn inv _ i rfl hin hun j h)
    refine ⟨hjn, ?_⟩
    by_cases hji : j = i
    · subst hji; exact hy.qOp hi H
    · have := hdone _ _ H j (ready_mono hj hji)
      omega
  | succ f ih =>
    intro listed a inv hfree hr hy H
    have hun := (mem_ready.1 hr).1
    refine ⟨fun h => (by rw [h] at hr; cases hr), fun j hj => ?_⟩
    have hjn : j < n := by
      rcases Nat.lt_or_ge j n with h | h
      · exact h
      · exact absurd hj (tail_waits hs hc hn inv _ i rfl hin hun j h)
    refine ⟨hjn, ?_⟩
    by_cases hji : j = i
    · subst hji; exact hy.qOp hi H
    · have h1 := (H.2 j (ready_mono hj hji)).2
      obtain ⟨hjun, oj, hoj, hall⟩ := mem_ready.1 hj
      have hnot : ∀ e ∈ oj.after, Region.binds md e = true → e.on ≠ i := fun e he hb heq => by
        have h1 := hall e he hb
        rw [heq, getD_both hun] at h1
        cases h1
      have h2 := qOp_put hoj (hfree j oj hoj hji hjun hnot) (fun cs b => hsel i oi cs b hi) (fun cs b => hsel j oj cs b hoj) hy h1
      have hfree' : ∀ k ok, ops[k]? = some ok → k ≠ i → (listed.setIfInBounds j true).getD k true = false →
          (∀ e ∈ ok.after, Region.binds md e = true → e.on ≠ i) → oi.apart ops ok = true := fun k ok hk hki hun hno => by
        refine hfree k ok hk hki ?_ hno
        by_cases hjk : j = k
        · subst hjk; exact hjun
        · rw [getD_set_ne true hjk] at hun; exact hun
      refine qOp_mono (fun a' h3 => ih (listed.setIfInBounds j true) a' (inv.set hj hjn) hfree' (ready_mono hr (Ne.symm hji)) h3.1 ?_) h2
      rw [Array.setIfInBounds_comm _ _ hji]
      exact h3.2

theorem wpAnyLQ_lex {P : Program} {ops : Array Oper} {md : Region.Mode} {C : World → Prop} {n g : Nat} {Lq : Act → Prop} (hsel : Region.noSelect ops = true) (hs : Region.sinkB md ops n = true) (hc : Region.chainB md ops n = true) (hn : n < ops.size) :
    ∀ (l : List Oper) (k : Nat) (listed : Array Bool) (a : Act), (∀ j, j < l.length → l[j]? = ops[k + j]?) → k + l.length = n → HeadInv md ops n listed →
    Region.lexHead md ops g l.length k listed = true → wpQuiet P ops C Lq l a →
    wpAnyLQ P md ops C n (fun listed' a' => Region.seqB md ops g n listed' = true ∧ Lq a') l.length listed a
  | [], k, listed, a, _, hk, _, hB, h => by
    have : k = n := by simpa using hk
    subst this
    exact ⟨by simpa [Region.lexHead] using hB, h⟩
  | o :: l, k, listed, a, hl, hk, inv, hB, h => by
    have h0 : ops[k]? = some o := by simpa using (hl 0 (by simp)).symm
    simp only [List.length_cons, Region.lexHead, Bool.and_eq_true] at hB
    obtain ⟨⟨hr, hf⟩, hB'⟩ := hB
    have hkn : k < n := by simp only [List.length_cons] at hk; omega
    have hr' : k ∈ Region.ready md ops listed := by simpa using hr
    have hst : qOp P ops C k (wpQuiet P ops C Lq l) a := by unfold qOp; simp only [h0]; exact h
    obtain ⟨v, hy, hK⟩ := yieldsIn_of_qOp h0 hst
    exact wpAnyLQ_first h0 (Region.noSelect_spec hsel) hs hc hn hkn (fun listed' a' hL => seqB_ready hL.1) l.length listed a inv (Region.free_spec h0 hf) hr' hy
      (wpAnyLQ_lex hsel hs hc hn l (k + 1) _ _ (fun j hj => by have := hl (j + 1) (by simp; omega); simpa [Nat.add_assoc, Nat.add_comm 1 j] using this) (by simp only [List.length_cons] at hk; omega) (inv.set hr' hkn) hB' hK)

/-- A quiet head in a class of worlds, then a tail in one order. -/
theorem region_quiet_tail {P : Program} {C : World → Prop} {id : Nat} {Q : Exit → Act → World → Prop} {a : Act} {w : World} {l : List Oper} (n : Nat) (hm : P.follows .mixedOrders = true) (hB : Region.lexTailB .any l.toArray n = true) (hC : C w.drew)
    (h : wpQuiet P l.toArray C (fun a' => ∀ w', C w' → wpList P l.toArray Q (l.drop n) a' w') (l.take n) a) : (Code.region id l.toArray true).wp P Q a w := by
  simp only [Region.lexTailB, Bool.and_eq_true, decide_eq_true_eq] at hB
  obtain ⟨⟨⟨⟨hsel, hn⟩, hs⟩, hc⟩, hlex⟩ := hB
  have hn' : n < l.length := by simpa using hn
  have htl : (l.take n).length = n := by simp; omega
  have hdl : (l.drop n).length = l.toArray.size - n := by simp
  have inv0 : HeadInv .any l.toArray n (Array.replicate l.toArray.size false) :=
    ⟨by simp, fun j oj _ hl => (by rw [getD_replicate_false] at hl; cases hl), fun t _ ht => getD_in (by simpa using ht) (getD_replicate_false _ _)⟩
  have H := wpAnyLQ_lex (md := .any) (g := l.toArray.size - n) hsel hs hc hn (l.take n) 0 _ a (fun j hj => by
    have hj' : j < n := by rw [htl] at hj; exact hj
    simp [hj']) (by simpa using htl) inv0 (by rw [htl]; exact hlex) h
  refine wp_region_any hm ?_
  have := wpAny_of_headQ (Q' := Q) (g := l.toArray.size - n) (fun listed a' w' hw hL => by
    have := wpAny_of_seq (md := .any) (Q' := Q) (l.drop n) n listed a' w' (fun j => by simp [List.getElem?_drop]) (by rw [hdl]; exact hL.1) (hL.2 w' hw)
    rwa [hdl] at this) _ _ _ w.drew hC H
  rw [htl, show n + (l.toArray.size - n) = l.toArray.size by omega] at this
  exact this

/-- Head of reads and callees that at most make memory; then a tail in one order. -/
theorem region_ext_tail {P : Program} {id : Nat} {Q : Exit → Act → World → Prop} {a : Act} {w : World} {l : List Oper} (n : Nat) (hm : P.follows .mixedOrders = true) (hB : Region.lexTailB .any l.toArray n = true)
    (h : wpQuiet P l.toArray (fun w' => ∃ m : ExtW w, w' = exw m) (fun a' => ∀ w', (∃ m : ExtW w, w' = exw m) → wpList P l.toArray Q (l.drop n) a' w') (l.take n) a) : (Code.region id l.toArray true).wp P Q a w :=
  region_quiet_tail n hm hB ⟨⟨_, (Below.refl _ w).drew⟩, rfl⟩ h
end Go.Proofs.YtpebpfaecdmabaaGreatDoor
