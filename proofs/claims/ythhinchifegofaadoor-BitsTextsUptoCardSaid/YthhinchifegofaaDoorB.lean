/- Len, in, Of. -/
import Derived.Test.YthhinchifegofaaDoorA
import Derived.StillTailTactics
import Derived.BigRegion
import Derived.Deep.RegionHeld3
namespace Go.Proofs.YthhinchifegofaaDoor
open Go.RowKit

def lenB (s : Bt) : Nat := pc s.1 + pc s.2
theorem lenB_le (s : Bt) : lenB s ≤ 128 := by
  have h1 := pc_le s.1
  have h2 := pc_le s.2
  unfold lenB
  omega

set_option maxHeartbeats 1000000 in
theorem Len_any (s : Bt) (w : World) :
    Calls Tryd.prog 17 #[bv s] w fun e w' => e = .returned (.int .i64 (lenB s)) ∧ Below w.heap.size w w' := by
  have h1 := pc_le s.1
  have h2 := pc_le s.2
  have hs : IntKind.i64.wrap ((pc s.1 : Int) + (pc s.2 : Int)) = (pc s.1 : Int) + (pc s.2 : Int) := by
    have := wrap_nat_i (pc s.1 + pc s.2) (by omega)
    simpa using this
  go_enter Tryd.func17, Tryd.ntmps17
  go_wp2
  go_quiet ((go_at_call 28; exact quiet_same (OnesCount_any _ _)))
  go_wp2
  go_ret
  exact ⟨ret_int (by unfold lenB; simp), below_drewN ((Below.refl _ _).alloc (Nat.le_refl _) _) _⟩

def inN (n : Int) : Bool := decide (0 ≤ n) && decide (n ≤ 127)
theorem in_any (n : Int) (w : World) :
    Calls Tryd.prog 31 #[.int .i64 n] w fun e w' => e = .returned (.bool (inN n)) ∧ w = w' := by
  by_cases h : 0 ≤ n
  · have h' : (decide (n ≥ 0)) = true := by simpa using h
    go_enter Tryd.func31, Tryd.ntmps31
    go_wp2
    go_ret
    exact ⟨ret_bool (by simp [inN, h]), rfl⟩
  · have h' : (decide (n ≥ 0)) = false := by simpa using h
    go_enter Tryd.func31, Tryd.ntmps31
    go_wp2
    go_ret
    exact ⟨ret_bool (by simp [inN]; omega), rfl⟩

/-- A node's bit in its word. -/
def bit (k : Nat) : UInt64 := UInt64.ofNat (2 ^ k)
/-- A set and one node more. -/
def addB (s : Bt) (n : Nat) : Bt := if n < 64 then (s.1 ||| bit n, s.2) else (s.1, s.2 ||| bit (n - 64))
/-- The set of a list; a number outside makes an error. -/
def ofB : List Int → Bt → Option Bt
  | [], s => some s
  | n :: r, s => if inN n then ofB r (addB s n.toNat) else none

/-- A set's two cells in a block. -/
def Arr (w : World) (B : Nat) (s : Bt) : Prop :=
  w.cell? ⟨B, 0, none⟩ = some (.int .u64 (u s.1)) ∧ w.cell? ⟨B, 1, none⟩ = some (.int .u64 (u s.2)) ∧ w.frozen? ⟨B, 0, none⟩ = false ∧ w.frozen? ⟨B, 1, none⟩ = false

theorem Arr.set0 {w : World} {B : Nat} {s : Bt} (h : Arr w B s) (x : UInt64) : Arr (w.setCell ⟨B, 0, none⟩ (.int .u64 (u x))) B (x, s.2) := by
  obtain ⟨h0, h1, f0, f1⟩ := h
  exact ⟨World.cell?_setCell_same _ _ _ h0, (World.cell?_setCell_other _ _ _ _ (by simp)).trans h1, by simpa using f0, by simpa using f1⟩
theorem Arr.set1 {w : World} {B : Nat} {s : Bt} (h : Arr w B s) (x : UInt64) : Arr (w.setCell ⟨B, 1, none⟩ (.int .u64 (u x))) B (s.1, x) := by
  obtain ⟨h0, h1, f0, f1⟩ := h
  exact ⟨(World.cell?_setCell_other _ _ _ _ (by simp)).trans h0, World.cell?_setCell_same _ _ _ h1, by simpa using f0, by simpa using f1⟩
theorem Arr.far {w : World} {B : Nat} {s : Bt} (h : Arr w B s) (p : Addr) (v : Value) (hp : p.block ≠ B) : Arr (w.setCell p v) B s := by
  obtain ⟨h0, h1, f0, f1⟩ := h
  exact ⟨(World.cell?_setCell_far w p _ v hp).trans h0, (World.cell?_setCell_far w p _ v hp).trans h1, by simpa using f0, by simpa using f1⟩
theorem Arr.drew {w : World} {B : Nat} {s : Bt} (h : Arr w B s) : Arr w.drew B s := h
theorem Arr.alloc {w : World} {B : Nat} {s : Bt} (h : Arr w B s) (hB : B < w.heap.size) (o : Obj) : Arr (w.alloc o) B s := by
  obtain ⟨h0, h1, f0, f1⟩ := h
  exact ⟨(World.cell?_alloc_past _ _ _ hB).trans h0, (World.cell?_alloc_past _ _ _ hB).trans h1, by rw [World.frozen?_alloc_past _ _ _ hB]; exact f0, by rw [World.frozen?_alloc_past _ _ _ hB]; exact f1⟩
theorem Arr.new (w : World) (s : Bt) : Arr (w.alloc (.cells #[.int .u64 (u s.1), .int .u64 (u s.2)] 24)) w.heap.size s := by
  have h := heap_alloc_new w (.cells #[.int .u64 (u s.1), .int .u64 (u s.2)] 24)
  exact ⟨by simp only [World.cell?, h]; rfl, by simp only [World.cell?, h]; rfl, by simp only [World.frozen?, h]; rfl, by simp only [World.frozen?, h]; rfl⟩

theorem shl_bit (n : Int) (h : n.toNat < 64) : IntKind.u64.wrap (2 ^ n.toNat) = u (bit n.toNat) := by
  have h2 : 2 ^ n.toNat < 18446744073709551616 := by
    have := Nat.pow_lt_pow_right (a := 2) (by decide) h
    simpa using this
  have := wrap_nat (2 ^ n.toNat) h2
  rw [Int.natCast_pow] at this
  unfold u bit
  rw [UInt64.toNat_ofNat', Nat.mod_eq_of_lt h2, Int.natCast_pow]
  exact this

/-- What Of answers, from a set on. -/
def ofR (ns : List Int) (s : Bt) : Bt × Nat := match ofB ns s with
  | some s => (s, 0)
  | none => ((0, 0), 2)
theorem ofR_nil (s : Bt) : ofR [] s = (s, 0) := rfl
theorem ofR_in (n : Int) (r : List Int) (s : Bt) (h : inN n = true) : ofR (n :: r) s = ofR r (addB s n.toNat) := by simp [ofR, ofB, h]
theorem ofR_out (n : Int) (r : List Int) (s : Bt) (h : inN n = false) : ofR (n :: r) s = ((0, 0), 2) := by simp [ofR, ofB, h]

set_option maxHeartbeats 1000000 in
theorem Of_any (a : Option Addr) (cap : Nat) (ns : List Int) (w : World) (h : SlR w 1 (.slice a ns.length cap) ns.length (ints ns)) :
    Calls Tryd.prog 25 #[.slice a ns.length cap] w fun e w' => e = .returned (.tuple #[bv (ofR ns (0,0)).1, .int .i64 (ofR ns (0,0)).2]) ∧ Below w.heap.size w w' := by
  obtain ⟨R, hR⟩ : ∃ R, ofR ns (0,0) = R := ⟨_, rfl⟩
  rw [hR]
  obtain ⟨_, _, _, hlen, _⟩ := h.form
  go_enter Tryd.func25, Tryd.ntmps25
  go_wp2
  go_loopw [9] (fun i wr => ∃ (k : Nat) (s : Bt), k ≤ ns.length ∧ i = .int .i64 k ∧ R = ofR (ns.drop k) s ∧ Below w.heap.size w wr ∧ Arr wr w.heap.size (0,0) ∧ Arr wr (w.heap.size + 1) s ∧ w.heap.size + 1 < wr.heap.size) (fun i _ => ns.length - (intOf i).toNat)
  case atStart => exact ⟨0, (0,0), Nat.zero_le _, rfl, hR.symm, ((Below.refl _ _).alloc (Nat.le_refl _) _).alloc (by simp) _, (Arr.new w (0,0)).alloc (by simp) _, by have := Arr.new (w.alloc (.cells #[.int .u64 0, .int .u64 0] 24)) (0,0); rwa [World.size_alloc] at this, by simp⟩
  case round =>
    obtain ⟨k, s, hk, rfl, hof, hb, ⟨r0, r1, rf0, rf1⟩, ⟨s0, s1, sf0, sf1⟩, hsz⟩ := hrel
    by_cases hlt : k < ns.length
    · obtain ⟨b, off, rfl, hcell⟩ := (h.below hb).int_at k hlt
      have hn : ns.drop k = ns[k] :: ns.drop (k+1) := List.drop_eq_getElem_cons hlt
      generalize ns[k] = n at hcell hn
      by_cases hin : inN n = true
      · have h0 : 0 ≤ n := by simp [inN] at hin; omega
        have h127 : n ≤ 127 := by simp [inN] at hin; omega
        rw [hn, ofR_in _ _ _ hin] at hof
        by_cases h64 : n < 64
        · have hq : n.tdiv 64 = 0 := by rw [Int.tdiv_eq_ediv_of_nonneg h0]; omega
          have hr : n.tmod 64 = n := by rw [Int.tmod_eq_emod_of_nonneg h0]; omega
          have e1 := shl_bit n (by omega)
          have e2 := u_or s.1 (bit n.toNat)
          have ea : addB s n.toNat = (s.1 ||| bit n.toNat, s.2) := by unfold addB; rw [if_pos (by omega)]
          rw [ea] at hof
          go_wp2_with (go_at_call 31; refine (in_any _ _).mono ?_; rintro e w' ⟨rfl, rfl⟩)
          go_region
          go_wp2
          go_roundw
          case rel => exact ⟨k + 1, _, by omega, by go_num, hof, (hb.setCell (Nat.le_add_right _ _) _).drew, Arr.far (s := (0,0)) ⟨r0, r1, rf0, rf1⟩ _ _ (by simp), Arr.set0 ⟨s0, s1, sf0, sf1⟩ _, by simpa using hsz⟩
          case measure => simp [intOf]; omega
        · have hq : n.tdiv 64 = 1 := by rw [Int.tdiv_eq_ediv_of_nonneg h0]; omega
          have hr : n.tmod 64 = n - 64 := by rw [Int.tmod_eq_emod_of_nonneg h0]; omega
          obtain ⟨m, hm⟩ : ∃ m, n - 64 = m := ⟨_, rfl⟩
          rw [hm] at hr
          have hm0 : 0 ≤ m := by omega
          have hm1 : m ≤ 63 := by omega
          have e1 := shl_bit m (by omega)
          have e2 := u_or s.2 (bit m.toNat)
          have ea : addB s n.toNat = (s.1, s.2 ||| bit m.toNat) := by
            unfold addB; rw [if_neg (by omega)]
            have : n.toNat - 64 = m.toNat := by omega
            rw [this]
          rw [ea] at hof
          go_wp2_with (go_at_call 31; refine (in_any _ _).mono ?_; rintro e w' ⟨rfl, rfl⟩)
          go_region
          go_wp2
          go_roundw
          case rel => exact ⟨k + 1, _, by omega, by go_num, hof, (hb.setCell (Nat.le_add_right _ _) _).drew, Arr.far (s := (0,0)) ⟨r0, r1, rf0, rf1⟩ _ _ (by simp), Arr.set1 ⟨s0, s1, sf0, sf1⟩ _, by simpa using hsz⟩
          case measure => simp [intOf]; omega
      · have hin' : inN n = false := by simpa using hin
        rw [hn, ofR_out _ _ _ hin'] at hof
        subst hof
        go_wp2_with (go_at_call 31; refine (in_any _ _).mono ?_; rintro e w' ⟨rfl, rfl⟩)
        exact bodyPost_ret (v := .tuple #[bv (0, 0), .int .i64 2]) (by simp [results, Tryd.results25, go_sem, r0, r1]; rfl) rfl ⟨rfl, (hb.setCell (Nat.le_refl _) _).setCell (Nat.le_refl _) _⟩
    · go_wp2
      have hd : ns.drop k = [] := List.drop_eq_nil_of_le (by omega)
      rw [hd, ofR_nil]
      exact bodyPost_ret (v := .tuple #[bv s, .int .i64 0]) (by simp [results, Tryd.results25, go_sem, r0, r1]) rfl ⟨rfl, (hb.setCell (Nat.le_refl _) _).setCell (Nat.le_refl _) _⟩
end Go.Proofs.YthhinchifegofaaDoor
