/- List, and Of by definition. -/
import Derived.Test.YthhinchifegofaaDoorE
namespace Go.Proofs.YthhinchifegofaaDoor
open Go.RowKit

theorem info3 : (Tryd.prog.info? 3).map (fun i => (i.zero, i.size, i.bytes)) = some (some (.int .i64 0), 1, 8) := by kernel_rfl

theorem Arr.keep {w w' : World} {B : Nat} {s : Bt} {S : Nat → Prop} (h : Arr w B s) (k : Keep S w w') (hS : ¬ S B) : Arr w' B s := by
  obtain ⟨h0, h1, f0, f1⟩ := h
  have hlt := World.block_lt_of_cell? w _ h0
  exact ⟨k.cell h0 hS, k.cell h1 hS, k.unfrozen hlt f0 hS, k.unfrozen hlt f1 hS⟩
theorem Arr.below {w w' : World} {B : Nat} {s : Bt} (h : Arr w B s) (hb : Below w.heap.size w w') : Arr w' B s :=
  h.keep (Keep.of_below (S := fun _ => False) hb) (by simp)
theorem owns_below {w w' : World} {base : Nat} {e : TypeId} {size : Nat} {v : Value} {n : Nat} {xs : List Value} (h : w.ownsRow base e size v n xs) (hb : Below w.heap.size w w') : w'.ownsRow base e size v n xs :=
  (Keep.of_below (S := fun _ => False) hb).owns h (by simp)

/-- A list that grows in a row of its own. -/
def Row (w : World) (base : Nat) (v : Value) (L : List Int) : Prop := w.ownsRow base 3 1 v L.length (ints L)
theorem Row.below {w w' : World} {base : Nat} {v : Value} {L : List Int} (h : Row w base v L) (hb : Below w.heap.size w w') : Row w' base v L := owns_below h hb
theorem Row.form {w : World} {base : Nat} {v : Value} {L : List Int} (h : Row w base v L) : ∃ a cap, v = .slice a L.length cap ∧ SlR w 1 (.slice a L.length cap) L.length (ints L) := by
  have h1 := SlR.of_owns h
  obtain ⟨a, cap, rfl, _, h2⟩ := h1.form
  exact ⟨a, cap, rfl, h2⟩

theorem ints_append (a b : List Int) : ints (a ++ b) = ints a ++ ints b := by simp [ints]

theorem Row.of_append {w : World} {base : Nat} {v : Value} {L : List Int} {n : Int} (h : w.ownsRow base 3 1 v (L.length + 1) (ints L ++ ints [n])) : Row w base v (L ++ [n]) := by
  unfold Row
  rw [ints_append, List.length_append]
  exact h
theorem row_below {w w1 w2 : World} {base B : Nat} {v : Value} {L : List Int} (h : Row w1 base v L) (hb : Below B w w1) (hg : w1.grownBy w2 v.ownBlock) (hB : B ≤ base) (hs : B ≤ w1.heap.size) : Below B w w2 :=
  hb.grown hg hs (fun k hk => Nat.le_trans hB (h.lt k hk).1)
theorem row_arr {w1 w2 : World} {base B : Nat} {s : Bt} {v : Value} {L : List Int} (h : Row w1 base v L) (ha : Arr w1 B s) (hg : w1.grownBy w2 v.ownBlock) (hB : B < base) : Arr w2 B s :=
  ha.keep ((Keep.refl (fun k => v.ownBlock = some k) w1).grown hg (fun k hk => .inl hk)) (fun hk => by have := (h.lt B hk).1; omega)

set_option maxHeartbeats 1000000 in
set_option maxRecDepth 100000 in
theorem refList_any (s : Bt) (w : World) :
    Calls Tryd.prog 8 #[bv s] w fun e w' => ∃ v, e = .returned v ∧ Row w' (w.heap.size + 1) v (listP (hasB s) 128) ∧ Below w.heap.size w w' := by
  go_enter Tryd.func8, Tryd.ntmps8
  go_wp2
  go_loopw [3, 4] (fun v i wr => ∃ k : Nat, k ≤ 128 ∧ i = .int .i64 k ∧ Row wr (w.heap.size + 1) v (listP (hasB s) k) ∧ Below w.heap.size w wr ∧ Arr wr w.heap.size s ∧ w.heap.size < wr.heap.size) (fun _ i _ => 128 - (intOf i).toNat)
  case atStart => exact ⟨0, by omega, rfl, by have := World.ownsRow_made (base := w.heap.size + 1) (e := 3) (size := 1) (w.alloc (.cells #[.int .u64 (u s.1), .int .u64 (u s.2)] 24)) #[] 0 (by simp) (by simp [maxLen]) rfl; simpa [Row, listP, ints] using this, ((Below.refl _ _).alloc (Nat.le_refl _) _).alloc (by simp) _, (Arr.new w s).alloc (by simp) _, by simp; omega⟩
  case round =>
    obtain ⟨k, hk, rfl, hrow, hb, ha, hsz⟩ := hrel
    obtain ⟨a0, a1, f0, f1⟩ := ha
    by_cases hlt : k ≤ 127
    · go_wp2_with fail
      refine (refHas_any s k _).mono ?_
      rintro e w2 ⟨rfl, hb2⟩
      have e1 : hasI s (k : Int) = hasB s k := by simp [hasI, inN]; omega
      rw [e1]
      have hrow2 := hrow.below hb2
      have ha2 := Arr.below (⟨a0, a1, f0, f1⟩ : Arr _ _ s) hb2
      have hB2 := hb.trans (hb2.mono hb.size)
      have hs2 : w.heap.size < w2.heap.size := Nat.lt_of_lt_of_le hsz hb2.size
      have hls := listP_succ (hasB s) k
      have hll := listP_len (hasB s) k
      by_cases hp : hasB s k = true
      · rw [if_pos hp] at hls
        have hrow3 : Row (w2.alloc (.cells #[.int .i64 k] 3)) (w.heap.size + 1) u3 (listP (hasB s) k) := hrow2.below ((Below.refl _ _).alloc (Nat.le_refl _) _)
        have hsl : SlR (w2.alloc (.cells #[.int .i64 k] 3)) 1 (.slice (some ⟨w2.heap.size, 0, none⟩) 1 1) 1 (ints [(k : Int)]) :=
          SlR.of_owns (World.ownsRow_lit (base := 0) (e := 3) (size := 1) w2 #[.int .i64 k] 1 (Nat.zero_le _) (by simp [maxLen]) rfl)
        clear a0 a1 f0 f1
        go_wp2_with (at_builtin; refine wpList_append_sl rfl _ _ 29 3 rfl (w.heap.size + 1) (.int .i64 0) 1 8 Tryd.underlying29 info3 rfl (by decide) (by decide) u3 _ _ rfl hrow3 _ 1 (ints [(k : Int)]) rfl hsl (ints_one _) (by omega) (by simp; omega) ?_; intro v1 w3 hown3 hg hat)
        go_roundw
        case rel => exact ⟨k + 1, by omega, by go_num, hls.symm ▸ Row.of_append hown3, row_below hrow3 (hB2.alloc (by omega) _) hg (by omega) (by simp; omega), row_arr hrow3 (ha2.alloc hs2 _) hg (by omega), Nat.lt_of_lt_of_le hs2 (Nat.le_trans (by simp) hg.size)⟩
        case measure => simp [intOf]; omega
      · rw [if_neg hp, List.append_nil] at hls
        have hp' : hasB s k = false := by simpa using hp
        clear a0 a1 f0 f1
        go_wp2
        go_roundw
        case rel => exact ⟨k + 1, by omega, by go_num, hls.symm ▸ hrow2, hB2, ha2, hs2⟩
        case measure => simp [intOf]; omega
    · have hk8 : k = 128 := by omega
      subst hk8
      go_wp2
      go_ret
      exact ⟨_, rfl, hrow, hb⟩
theorem add_bit (x : UInt64) (m : Nat) (hm : m < 64) (h : x.toNat.testBit m = false) : IntKind.u64.wrap (u x + u (bit m)) = u (x ||| bit m) := by
  have e : x.toNat + 2 ^ m = x.toNat ||| 2 ^ m := by
    have h1 : ∀ n a b, a < 2 ^ n → b < 2 ^ n → (a ||| b) + (a &&& b) = a + b := by
      intro n
      induction n with
      | zero => intro a b ha hb; have : a = 0 := by omega
                have : b = 0 := by omega
                subst_vars; rfl
      | succ n ih =>
        intro a b ha hb
        have i := ih (a / 2) (b / 2) (by rw [Nat.pow_succ] at ha; omega) (by rw [Nat.pow_succ] at hb; omega)
        have d := dsum_or_and 1 a b
        simp only [dsum] at d
        rw [← Nat.or_div_two, ← Nat.and_div_two] at i
        omega
    have h2 : x.toNat &&& 2 ^ m = 0 := by
      apply Nat.eq_of_testBit_eq
      intro i
      rw [Nat.testBit_and, Nat.testBit_two_pow]
      by_cases hi : m = i
      · subst hi; simp [h]
      · simp [hi]
    have h3 := h1 64 x.toNat (2 ^ m) (UInt64.toNat_lt x) (Nat.pow_lt_pow_right (by decide) hm)
    omega
  unfold u
  rw [UInt64.toNat_or, bit_nat m hm, ← e, ← Int.natCast_add, wrap_nat]
  rw [e]
  have := Nat.or_lt_two_pow (UInt64.toNat_lt x) (Nat.pow_lt_pow_right (a := 2) (by decide) hm)
  simpa using this

set_option maxHeartbeats 2000000 in
set_option maxRecDepth 100000 in
theorem refOf_any (a : Option Addr) (cap : Nat) (ns : List Int) (w : World) (h : SlR w 1 (.slice a ns.length cap) ns.length (ints ns)) :
    Calls Tryd.prog 33 #[.slice a ns.length cap] w fun e w' => e = .returned (.tuple #[bv (ofR ns (0,0)).1, .int .i64 (ofR ns (0,0)).2]) ∧ Below w.heap.size w w' := by
  obtain ⟨R, hR⟩ : ∃ R, ofR ns (0,0) = R := ⟨_, rfl⟩
  rw [hR]
  obtain ⟨_, _, _, hlen, _⟩ := h.form
  go_enter Tryd.func33, Tryd.ntmps33
  go_wp2
  go_loopw [5] (fun i wr => ∃ (k : Nat) (s : Bt), k ≤ ns.length ∧ i = .int .i64 k ∧ R = ofR (ns.drop k) s ∧ Below w.heap.size w wr ∧ Arr wr w.heap.size (0,0) ∧ Arr wr (w.heap.size + 1) s ∧ w.heap.size + 1 < wr.heap.size) (fun i _ => ns.length - (intOf i).toNat)
  case atStart => exact ⟨0, (0,0), Nat.zero_le _, rfl, hR.symm, ((Below.refl _ _).alloc (Nat.le_refl _) _).alloc (by simp) _, (Arr.new w (0,0)).alloc (by simp) _, by have := Arr.new (w.alloc (.cells #[.int .u64 0, .int .u64 0] 24)) (0,0); rwa [World.size_alloc] at this, by simp⟩
  case round =>
    obtain ⟨k, s, hk, rfl, hof, hb, hA0, hA1, hsz⟩ := hrel
    obtain ⟨r0, r1, rf0, rf1⟩ := id hA0
    obtain ⟨s0, s1, sf0, sf1⟩ := id hA1
    by_cases hlt : k < ns.length
    · obtain ⟨b, off, rfl, hcell⟩ := (h.below hb).int_at k hlt
      have hn : ns.drop k = ns[k] :: ns.drop (k+1) := List.drop_eq_getElem_cons hlt
      generalize ns[k] = n at hcell hn
      by_cases hin : inN n = true
      · have h0 : 0 ≤ n := by simp [inN] at hin; omega
        have h127 : n ≤ 127 := by simp [inN] at hin; omega
        have hd0 : decide (n < 0) = false := by simpa using h0
        rw [hn, ofR_in _ _ _ hin] at hof
        by_cases hp : hasI s n = true
        · go_wp2_with fail
          have qa0 := fun n : ExtW wr => exw_cell s0 n
          have qa1 := fun n : ExtW wr => exw_cell s1 n
          have qc := fun n : ExtW wr => exw_cell hcell n
          refine region_ext (by kernel_rfl) (by kernel_rfl) ?_
          repeat (go_big_quiet_step ((first | (go_at_call 26; exact ext_call (refHas_any _ _ _)))))
          refine wpQuiet_nil ?_
          intro _ hw'
          obtain ⟨nq, hw''⟩ := hw'
          subst hw''
          replace hA0 := hA0.below (exw_below nq)
          replace hA1 := hA1.below (exw_below nq)
          have hcell2 := exw_cell hcell nq
          have hB2 := hb.trans ((exw_below nq).mono hb.size)
          have hs2 : w.heap.size + 1 < (exw nq).heap.size := Nat.lt_of_lt_of_le hsz (exw_below nq).size
          clear qa0 qa1 qc
          generalize exw nq = W2 at hA0 hA1 hcell2 hB2 hs2 ⊢
          clear r0 r1 rf0 rf1 s0 s1 sf0 sf1 hcell hb hsz
          obtain ⟨r0, r1, rf0, rf1⟩ := id hA0
          obtain ⟨s0, s1, sf0, sf1⟩ := id hA1
          have hb1 : hasB s n.toNat = true := by simp [hasI] at hp; exact hp.2
          rw [add_has s n.toNat (by omega) hb1] at hof
          go_wp2
          go_roundw
          case rel => exact ⟨k + 1, s, by omega, by go_num, hof, hB2, hA0, hA1, hs2⟩
          case measure => simp [intOf]; omega
        have hp' : hasI s n = false := by simpa using hp
        go_wp2_with fail
        have qa0 := fun n : ExtW wr => exw_cell s0 n
        have qa1 := fun n : ExtW wr => exw_cell s1 n
        have qc := fun n : ExtW wr => exw_cell hcell n
        refine region_ext (by kernel_rfl) (by kernel_rfl) ?_
        repeat (go_big_quiet_step ((first | (go_at_call 26; exact ext_call (refHas_any _ _ _)))))
        refine wpQuiet_nil ?_
        intro _ hw'
        obtain ⟨nq, hw''⟩ := hw'
        subst hw''
        replace hA0 := hA0.below (exw_below nq)
        replace hA1 := hA1.below (exw_below nq)
        have hcell2 := exw_cell hcell nq
        have hB2 := hb.trans ((exw_below nq).mono hb.size)
        have hs2 : w.heap.size + 1 < (exw nq).heap.size := Nat.lt_of_lt_of_le hsz (exw_below nq).size
        clear qa0 qa1 qc
        generalize exw nq = W2 at hA0 hA1 hcell2 hB2 hs2 ⊢
        clear r0 r1 rf0 rf1 s0 s1 sf0 sf1 hcell hb hsz
        obtain ⟨r0, r1, rf0, rf1⟩ := id hA0
        obtain ⟨s0, s1, sf0, sf1⟩ := id hA1
        go_wp2_with fail
        by_cases h64 : n < 64
        · have hq : n.tdiv 64 = 0 := by rw [Int.tdiv_eq_ediv_of_nonneg h0]; omega
          obtain ⟨m, hm⟩ : ∃ m, n - 0 = m := ⟨_, rfl⟩
          have hr : n.tmod 64 = m := by rw [Int.tmod_eq_emod_of_nonneg h0]; omega
          have hm0 : 0 ≤ m := by omega
          have hm1 : m ≤ 63 := by omega
          have e1 := shl_bit m (by omega)
          have e2 : IntKind.u64.wrap (u s.1 + u (bit m.toNat)) = u (s.1 ||| bit m.toNat) := by
            refine add_bit _ _ (by omega) ?_
            rw [← hp', hasI_low s n hin h64, show n.toNat = m.toNat by omega]
          have ea : addB s n.toNat = (s.1 ||| bit m.toNat, s.2) := by
            unfold addB; rw [if_pos (by omega), show n.toNat = m.toNat by omega]
          rw [ea] at hof
          go_region
          go_wp2
          go_roundw
          case rel => exact ⟨k + 1, _, by omega, by go_num, hof, (hB2.setCell (Nat.le_add_right _ _) _).drew, Arr.far hA0 _ _ (by simp), Arr.set0 hA1 _, by simpa using hs2⟩
          case measure => simp [intOf]; omega
        · have hq : n.tdiv 64 = 1 := by rw [Int.tdiv_eq_ediv_of_nonneg h0]; omega
          obtain ⟨m, hm⟩ : ∃ m, n - 64 = m := ⟨_, rfl⟩
          have hr : n.tmod 64 = m := by rw [Int.tmod_eq_emod_of_nonneg h0]; omega
          have hm0 : 0 ≤ m := by omega
          have hm1 : m ≤ 63 := by omega
          have e1 := shl_bit m (by omega)
          have e2 : IntKind.u64.wrap (u s.2 + u (bit m.toNat)) = u (s.2 ||| bit m.toNat) := by
            refine add_bit _ _ (by omega) ?_
            rw [← hp', hasI_high s n m hin h64 hm]
          have ea : addB s n.toNat = (s.1, s.2 ||| bit m.toNat) := by
            unfold addB; rw [if_neg (by omega), show n.toNat - 64 = m.toNat by omega]
          rw [ea] at hof
          go_region
          go_wp2
          go_roundw
          case rel => exact ⟨k + 1, _, by omega, by go_num, hof, (hB2.setCell (Nat.le_add_right _ _) _).drew, Arr.far hA0 _ _ (by simp), Arr.set1 hA1 _, by simpa using hs2⟩
          case measure => simp [intOf]; omega
      · have hin' : inN n = false := by simpa using hin
        rw [hn, ofR_out _ _ _ hin'] at hof
        subst hof
        by_cases h0 : 0 ≤ n
        · have hd0 : decide (n < 0) = false := by simpa using h0
          have hd1 : 127 < n := by simp [inN] at hin'; omega
          go_wp2
          exact bodyPost_ret (v := .tuple #[bv (0, 0), .int .i64 2]) (by simp [results, Tryd.results33, go_sem, r0, r1]; rfl) rfl ⟨rfl, (hb.setCell (Nat.le_refl _) _).setCell (Nat.le_refl _) _⟩
        · have hd0 : decide (n < 0) = true := by simp; omega
          go_wp2
          exact bodyPost_ret (v := .tuple #[bv (0, 0), .int .i64 2]) (by simp [results, Tryd.results33, go_sem, r0, r1]; rfl) rfl ⟨rfl, (hb.setCell (Nat.le_refl _) _).setCell (Nat.le_refl _) _⟩
    · go_wp2
      have hd : ns.drop k = [] := List.drop_eq_nil_of_le (by omega)
      rw [hd, ofR_nil]
      exact bodyPost_ret (v := .tuple #[bv s, .int .i64 0]) (by simp [results, Tryd.results33, go_sem, r0, r1]) rfl ⟨rfl, (hb.setCell (Nat.le_refl _) _).setCell (Nat.le_refl _) _⟩
end Go.Proofs.YthhinchifegofaaDoor
