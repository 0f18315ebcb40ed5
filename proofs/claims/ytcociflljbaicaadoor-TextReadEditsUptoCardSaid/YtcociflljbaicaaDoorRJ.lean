/- ReadEdit answers as its words say. -/
import Derived.Test.YtcociflljbaicaaDoorZD
namespace Go.Proofs.YtcociflljbaicaaDoor
open Go.RowKit Go.Lib

theorem bs_lit (y : List UInt8) : ((bs y).toList == y) = true := by
  rw [Lib.toList_data]
  exact beq_self_eq_true y
theorem bs_nlit {x y : List UInt8} (h : x ≠ y) : ((bs x).toList == y) = false := by
  rw [beq_eq_false_iff_ne, Lib.toList_data]
  exact h
theorem store_cc (w : World) (a : Addr) (p q : Nat) : (store a (.complex .f64 p q)).run Tryd.prog w = stored Tryd.prog w a (.complex .f64 p q) .plain := run_store Tryd.prog w a _ _ rfl
set_option maxHeartbeats 8000000 in
set_option maxRecDepth 100000 in
theorem ReadEdit_any (s : ByteArray) (hs : s.size ≤ 1048576) (ed : Ed) (er : Int) (hE : RE (cutA 32 [] s.data.toList) ed er) (w : World) (hv : VarsW w) :
    Calls Tryd.prog 10 #[.string s] w fun e' w' => e' = .returned (.tuple #[ed.val, .int .i64 er]) ∧ Below w.heap.size w w' := by
  obtain ⟨m, hm⟩ := hv.ml
  have hlen : ∀ l ∈ cutA 32 [] s.data.toList, l.length ≤ 1048576 := fun l hl => by
    have := cutA_len 32 _ _ l hl
    have e := Lib.size_eq s
    simp at this e
    omega
  have hcc := cutA_ne 32 s.data.toList []
  obtain ⟨hw1, hw2, hw3⟩ := split_words s
  generalize cutA 32 [] s.data.toList = ws at *
  have hcx := store_cc
  go_enter Tryd.func10, Tryd.ntmps10
  go_wp2_with fail
  refine (Tryd.strings_Split s (bs [32]) m _ (by omega) (by rw [World.cell?_alloc_old _ _ _ (Nat.ne_of_lt (World.block_lt_of_cell? _ _ hm))]; exact hm) (by decide)).mono ?_
  rintro e w1 ⟨rfl, rfl⟩
  rw [hw1, hw2, strs_map]
  go_wp2_with fail
  obtain ⟨hRS, hp, hpf⟩ := start0 w ws (by omega) 34 9 55 _ rfl _ rfl _ rfl
  unfold zc at hRS hp hpf
  generalize hR : w.heap.size + 1 + 1 = R at *
  generalize World.alloc _ (.cells #[.slice _ _ _, .bool false] 55) = W2 at *
  obtain ⟨first, rest, rfl⟩ : ∃ first rest, ws = first :: rest := by
    cases ws with
    | nil => exact absurd rfl hcc
    | cons x r => exact ⟨x, r, rfl⟩
  refine (word_any hRS).mono ?_
  rintro e w3 ⟨rfl, h3, k3⟩
  have hPR : w.heap.size ≠ R := by omega
  have hpl : w.heap.size < W2.heap.size := by have := hRS.lt; omega
  have hps := PS.start h3 (Nat.le_refl _) hPR (by omega) (fun j hj => by obtain ⟨u, hu⟩ := hp j hj; exact ⟨u, k3.cell hu hPR⟩) (fun j => k3.unfrozen (a := ⟨w.heap.size, j, none⟩) hpl (hpf j) hPR)
  have hst := hps.below ((Below.refl _ _).alloc (Nat.le_refl _) (.cells (strs WL).toArray 9))
  have hwl : ∀ j, j < 11 → ((w3.alloc (.cells zc 34)).alloc (.cells (strs WL).toArray 9)).cell? ⟨w3.heap.size + 1, j, none⟩ = some (.string (bs (W j))) := fun j hj => by
    have := word_at (w3.alloc (.cells zc 34)) j hj
    simpa using this
  simp only [List.headD_cons, List.tail_cons, List.isEmpty_cons, Bool.or_false] at hst h3 ⊢
  clear hps hp hpf hw1 hw2 hw3 hRS hpl
  unfold zc at hst hwl
  go_wp2_with (go_at_call 23; refine (words_any _).mono ?_; rintro e w4 ⟨rfl, rfl⟩)
  generalize (w3.alloc (.cells #[.int .i64 0, .int .i64 0, .int .i64 0, .int .i64 0, .int .i64 0, .complex .f64 0 0, .int .u32 0, .int .i64 0, .bool false] 34)).alloc (.cells (strs WL).toArray 9) = W4 at *
  generalize w3.heap.size = Eb at *
  generalize hP : w.heap.size = P at *
  have hrl : ∀ l ∈ rest, l.length ≤ 1048576 := fun l hl => hlen l (List.mem_cons_of_mem _ hl)
  clear h3 k3 hlen hm
  have hst' := hst.ext (v' := upd v0 0 (.int .i64 (kf first 0 : Nat))) (fun j _ => by
    by_cases h : j = 0
    · subst h; rfl
    · unfold upd; rw [if_neg h])
  clear hst
  go_loopw [18] (fun x wr => ∃ i : Nat, x = .int .i64 i ∧ i ≤ 11 ∧ PS w wr P R (R + 1) Eb rest false (upd v0 0 (.int .i64 (kf first i : Nat))) ∧ ∀ j, j < 11 → wr.cell? ⟨Eb + 1, j, none⟩ = some (.string (bs (W j)))) (fun x _ => 11 - (kOi x).toNat)
  case atStart => exact ⟨0, rfl, Nat.zero_le _, hst', hwl⟩
  case round =>
    clear hst' hwl
    obtain ⟨i, rfl, hi, hps, hwl⟩ := hrel
    by_cases hlt : i < 11
    · have d := hwl i hlt
      have e0 := hps.e 0 (by decide)
      have ef := hps.ef
      by_cases h0 : 0 < i
      · by_cases hw : W i = first
        · have tt := bs_same (bs first)
          rw [hw] at d
          go_wp2_with fail
          go_roundw
          case rel =>
            refine ⟨i + 1, by go_num, by omega, (hps.set 0 (.int .i64 (i : Nat))).ext (fun j _ => ?_), fun j hj => (World.cell?_setCell_other _ _ _ _ (by intro e; injection e with e _; omega)).trans (hwl j hj)⟩
            unfold upd
            have hk : kf first (i + 1) = i := by rw [kf, if_pos ⟨h0, hw⟩]
            rw [hk]
            split <;> rfl
          case measure => simp [kOi]; omega
        · have tt := bs_differ hw
          go_wp2_with fail
          go_roundw
          case rel =>
            have hk : kf first (i + 1) = kf first i := by rw [kf, if_neg (fun h => hw h.2)]
            exact ⟨i + 1, by go_num, by omega, by rw [hk]; exact hps, hwl⟩
          case measure => simp [kOi]; omega
      · have h00 : i = 0 := by omega
        subst h00
        go_wp2_with fail
        go_roundw
        case rel => exact ⟨1, by go_num, by omega, hps, hwl⟩
        case measure => simp [kOi]
    · have hi11 : i = 11 := by omega
      subst hi11
      clear hwl hlt
      have hk := kf_of first 11
      generalize kf first 11 = k at hps hk
      have e0 : _ = some (Value.int .i64 (k : Nat)) := hps.e 0 (by decide)
      rcases hk with ⟨rfl, hk⟩ | ⟨hk0, hk1, hk2⟩
      · have hnot : ∀ e', ¬ GE (first :: rest) e' := fun e' hge => by
          obtain ⟨r, h1, h2, h3, _⟩ := hge.head
          injection h1 with h1 _
          exact hk _ h2 (by omega) h1.symm
        obtain ⟨rfl, rfl⟩ := hE.unique (.inr ⟨rfl, rfl, hnot⟩)
        obtain ⟨_, p0⟩ := hps.p 0 (by decide)
        obtain ⟨_, p1⟩ := hps.p 1 (by decide)
        obtain ⟨_, p2⟩ := hps.p 2 (by decide)
        obtain ⟨_, p3⟩ := hps.p 3 (by decide)
        obtain ⟨_, p4⟩ := hps.p 4 (by decide)
        obtain ⟨_, p5⟩ := hps.p 5 (by decide)
        obtain ⟨_, p6⟩ := hps.p 6 (by decide)
        obtain ⟨_, p7⟩ := hps.p 7 (by decide)
        obtain ⟨_, p8⟩ := hps.p 8 (by decide)
        have pf := hps.pf
        go_wp2_with fail
        exact close10 hps rfl rfl Ed0_val
      · have hkk : k = 1 ∨ k = 2 ∨ k = 3 ∨ k = 4 ∨ k = 5 ∨ k = 6 ∨ k = 7 ∨ k = 8 ∨ k = 9 ∨ k = 10 := by omega
        clear hk0 hk1
        rcases hkk with rfl | rfl | rfl | rfl | rfl | rfl | rfl | rfl | rfl | rfl
        · have ps0 := hps
          have hwk := hk2
          go_wp2_with fail
          refine (int_rd hps.rs hv hrl).mono ?_
          rintro e w5 ⟨n1, b1, rfl, r1, k1, i1⟩
          have psA0 := hps.next k1 r1
          have a1 := psA0.e 1 (by decide)
          have af := psA0.ef
          have psA := psA0.set 1 (.int .i64 n1)
          have a0 : (w5.setCell ⟨Eb, 1, none⟩ (.int .i64 n1)).cell? ⟨Eb, 0, none⟩ = some (.int .i64 1) := psA.e 0 (by decide)
          go_wp2_with fail
          refine (spot_rd psA.rs hv (tail_len hrl)).mono ?_
          rintro e v2 ⟨p, q, b2, rfl, r2, k2, i2⟩
          have psB := psA.next k2 r2
          have s5 := psB.e 5 (by decide)
          have sf := psB.ef
          have psF := psB.set 5 (.complex .f64 p q)
          go_wp2_with fail
          refine (done_any psF.rs).mono ?_
          rintro e w' ⟨rfl, rfl⟩
          generalize hd : (_ && _) = d
          have c0 : _ = some (Value.int .i64 1) := psF.e 0 (by decide)
          have c1 : _ = some (Value.int .i64 n1) := psF.e 1 (by decide)
          have c2 : _ = some (Value.int .i64 0) := psF.e 2 (by decide)
          have c3 : _ = some (Value.int .i64 0) := psF.e 3 (by decide)
          have c4 : _ = some (Value.int .i64 0) := psF.e 4 (by decide)
          have c5 : _ = some (Value.complex .f64 p q) := psF.e 5 (by decide)
          have c6 : _ = some (Value.int .u32 0) := psF.e 6 (by decide)
          have c7 : _ = some (Value.int .i64 0) := psF.e 7 (by decide)
          have c8 : _ = some (Value.bool false) := psF.e 8 (by decide)
          obtain ⟨_, p0⟩ := psF.p 0 (by decide)
          obtain ⟨_, p1⟩ := psF.p 1 (by decide)
          obtain ⟨_, p2⟩ := psF.p 2 (by decide)
          obtain ⟨_, p3⟩ := psF.p 3 (by decide)
          obtain ⟨_, p4⟩ := psF.p 4 (by decide)
          obtain ⟨_, p5⟩ := psF.p 5 (by decide)
          obtain ⟨_, p6⟩ := psF.p 6 (by decide)
          obtain ⟨_, p7⟩ := psF.p 7 (by decide)
          obtain ⟨_, p8⟩ := psF.p 8 (by decide)
          have pf := psF.pf
          obtain ⟨WF, hWF⟩ := psF.name
          rw [hWF] at psF c0 c1 c2 c3 c4 c5 c6 c7 c8 p0 p1 p2 p3 p4 p5 p6 p7 p8 ⊢
          simp only [hWF] at pf
          cases d
          · have hnot : ∀ e', ¬ GE (first :: rest) e' := by
              intro e' hge
              rw [← hk2] at hge
              obtain ⟨a, x, y, hI, hr⟩ := hge.inv_spot1
              have z1 : b1 = false := i1.2 a hI.1 rfl (by rw [hr]; rfl)
              have z2 : b2 = false := i2.2 x y [] hI.2.1 hI.2.2 z1 (by rw [hr]; rfl)
              rw [hr, z2] at hd
              simp at hd
            obtain ⟨rfl, rfl⟩ := hE.unique (.inr ⟨rfl, rfl, hnot⟩)
            clear hE hnot
            go_wp2_with fail
            exact close10 psF rfl rfl Ed0_val
          · obtain ⟨g1, g2⟩ := empty_and hd
            obtain ⟨x, y, g3, g4, g5, rfl, rfl, g6⟩ := i2.1 g2
            obtain ⟨_, g7, g8⟩ := i1.1 g3
            have hr : rest = [itoa n1, itoa x, itoa y] := by rw [cons_head g8, g6, g1]
            have hge : GE (first :: rest) ⟨1, n1, 0, 0, 0, x, y, 0, 0, false⟩ := by
              rw [← hk2, hr]
              exact GE.spot 1 n1 x y (.inl rfl) g7 g4 g5
            obtain ⟨rfl, rfl⟩ := hE.unique (.inl ⟨rfl, hge⟩)
            clear hE hge
            go_wp2_with fail
            exact close10 psF rfl rfl (by first | (simp only [Ed.val, Ed.cells, fi_zero]; done) | (simp only [Ed.val, Ed.cells, fi_zero]; rfl))
        · have ps0 := hps
          have hwk := hk2
          go_wp2_with fail
          refine (int_rd hps.rs hv hrl).mono ?_
          rintro e w5 ⟨n1, b1, rfl, r1, k1, i1⟩
          have psA0 := hps.next k1 r1
          have a1 := psA0.e 1 (by decide)
          have af := psA0.ef
          have psA := psA0.set 1 (.int .i64 n1)
          have a0 : (w5.setCell ⟨Eb, 1, none⟩ (.int .i64 n1)).cell? ⟨Eb, 0, none⟩ = some (.int .i64 2) := psA.e 0 (by decide)
          go_wp2_with fail
          have psF := psA
          have hRd : Rd [n1] rest false (rest.tail) b1 := ⟨b1, i1, rfl, rfl⟩
          refine (done_any psF.rs).mono ?_
          rintro e w' ⟨rfl, rfl⟩
          generalize hd : (_ && _) = d
          have c0 : _ = some (Value.int .i64 2) := psF.e 0 (by decide)
          have c1 : _ = some (Value.int .i64 n1) := psF.e 1 (by decide)
          have c2 : _ = some (Value.int .i64 0) := psF.e 2 (by decide)
          have c3 : _ = some (Value.int .i64 0) := psF.e 3 (by decide)
          have c4 : _ = some (Value.int .i64 0) := psF.e 4 (by decide)
          have c5 : _ = some (Value.complex .f64 0 0) := psF.e 5 (by decide)
          have c6 : _ = some (Value.int .u32 0) := psF.e 6 (by decide)
          have c7 : _ = some (Value.int .i64 0) := psF.e 7 (by decide)
          have c8 : _ = some (Value.bool false) := psF.e 8 (by decide)
          obtain ⟨_, p0⟩ := psF.p 0 (by decide)
          obtain ⟨_, p1⟩ := psF.p 1 (by decide)
          obtain ⟨_, p2⟩ := psF.p 2 (by decide)
          obtain ⟨_, p3⟩ := psF.p 3 (by decide)
          obtain ⟨_, p4⟩ := psF.p 4 (by decide)
          obtain ⟨_, p5⟩ := psF.p 5 (by decide)
          obtain ⟨_, p6⟩ := psF.p 6 (by decide)
          obtain ⟨_, p7⟩ := psF.p 7 (by decide)
          obtain ⟨_, p8⟩ := psF.p 8 (by decide)
          have pf := psF.pf
          obtain ⟨WF, hWF⟩ := psF.name
          rw [hWF] at psF c0 c1 c2 c3 c4 c5 c6 c7 c8 p0 p1 p2 p3 p4 p5 p6 p7 p8 ⊢
          simp only [hWF] at pf
          cases d
          · have hnot : ∀ e', ¬ GE (first :: rest) e' := by
              intro e' hge
              rw [← hk2] at hge
              obtain ⟨a, hI, hr⟩ := hge.inv_drop
              obtain ⟨g1, g2⟩ := Rd.back (r := []) _ [a] hRd rfl rfl (i64_1 hI) (by rw [hr]; rfl)
              rw [g1, g2] at hd
              cases hd
            obtain ⟨rfl, rfl⟩ := hE.unique (.inr ⟨rfl, rfl, hnot⟩)
            clear hE hnot
            go_wp2_with fail
            exact close10 psF rfl rfl Ed0_val
          · have hge : GE (first :: rest) ⟨2, n1, 0, 0, 0, 0, 0, 0, 0, false⟩ := by
              obtain ⟨g1, g2⟩ := empty_and hd
              obtain ⟨_, hI, hr⟩ := Rd.ok _ hRd g2
              rw [g1] at hr
              rw [← hk2, hr]
              exact GE.drop n1 (hI n1 (by simp))
            obtain ⟨rfl, rfl⟩ := hE.unique (.inl ⟨rfl, hge⟩)
            clear hE hge
            go_wp2_with fail
            exact close10 psF rfl rfl (by first | (simp only [Ed.val, Ed.cells, fi_zero]; done) | (simp only [Ed.val, Ed.cells, fi_zero]; rfl))
        · have ps0 := hps
          have hwk := hk2
          go_wp2_with fail
          refine (int_rd hps.rs hv hrl).mono ?_
          rintro e w5 ⟨n1, b1, rfl, r1, k1, i1⟩
          have psA0 := hps.next k1 r1
          have a1 := psA0.e 1 (by decide)
          have af := psA0.ef
          have psA := psA0.set 1 (.int .i64 n1)
          have a0 : (w5.setCell ⟨Eb, 1, none⟩ (.int .i64 n1)).cell? ⟨Eb, 0, none⟩ = some (.int .i64 3) := psA.e 0 (by decide)
          go_wp2_with fail
          have hW := word_any psA.rs
          obtain ⟨wd, hwd⟩ : ∃ wd, rest.tail.headD [] = wd := ⟨_, rfl⟩
          obtain ⟨em, hem⟩ : ∃ em, rest.tail.isEmpty = em := ⟨_, rfl⟩
          have hwl : em = false → rest.tail = wd :: rest.tail.tail := fun h => by
            rw [← hem] at h
            rw [← hwd]
            cases hq : rest.tail with
            | nil => rw [hq] at h; cases h
            | cons x r => rfl
          have hwn : ∀ x r, rest.tail = x :: r → wd = x ∧ em = false := fun x r h => ⟨by rw [← hwd, h]; rfl, by rw [← hem, h]; rfl⟩
          rw [hwd, hem] at hW
          clear hwd hem
          refine hW.mono ?_
          rintro e v2 ⟨rfl, r2, k2⟩
          have psB := psA.next k2 r2
          generalize hc : (b1 || em) = c at r2 psB
          have s8 := psB.e 8 (by decide)
          have sf := psB.ef
          clear hW
          by_cases h1 : wd = onL
          · subst h1
            have t1 : ((bs onL).toList == [111, 110]) = true := bs_lit onL
            cases c
            · have psC := psB.set 8 (.bool true)
              have q1 := psC.rs.c1
              have qf := psC.rs.f
              have psF := psC.set1 false
              go_wp2_with fail
              refine (done_any psF.rs).mono ?_
              rintro e w' ⟨rfl, rfl⟩
              generalize hd : (_ && _) = d
              have c0 : _ = some (Value.int .i64 3) := psF.e 0 (by decide)
              have c1 : _ = some (Value.int .i64 n1) := psF.e 1 (by decide)
              have c2 : _ = some (Value.int .i64 0) := psF.e 2 (by decide)
              have c3 : _ = some (Value.int .i64 0) := psF.e 3 (by decide)
              have c4 : _ = some (Value.int .i64 0) := psF.e 4 (by decide)
              have c5 : _ = some (Value.complex .f64 0 0) := psF.e 5 (by decide)
              have c6 : _ = some (Value.int .u32 0) := psF.e 6 (by decide)
              have c7 : _ = some (Value.int .i64 0) := psF.e 7 (by decide)
              have c8 : _ = some (Value.bool true) := psF.e 8 (by decide)
              obtain ⟨_, p0⟩ := psF.p 0 (by decide)
              obtain ⟨_, p1⟩ := psF.p 1 (by decide)
              obtain ⟨_, p2⟩ := psF.p 2 (by decide)
              obtain ⟨_, p3⟩ := psF.p 3 (by decide)
              obtain ⟨_, p4⟩ := psF.p 4 (by decide)
              obtain ⟨_, p5⟩ := psF.p 5 (by decide)
              obtain ⟨_, p6⟩ := psF.p 6 (by decide)
              obtain ⟨_, p7⟩ := psF.p 7 (by decide)
              obtain ⟨_, p8⟩ := psF.p 8 (by decide)
              have pf := psF.pf
              obtain ⟨WF, hWF⟩ := psF.name
              rw [hWF] at psF c0 c1 c2 c3 c4 c5 c6 c7 c8 p0 p1 p2 p3 p4 p5 p6 p7 p8 ⊢
              simp only [hWF] at pf
              cases d
              · have hnot : ∀ e', ¬ GE (first :: rest) e' := by
                  intro e' hge
                  rw [← hk2] at hge
                  obtain ⟨a, f, hI, hr⟩ := hge.inv_over
                  rw [hr] at hd
                  simp at hd
                obtain ⟨rfl, rfl⟩ := hE.unique (.inr ⟨rfl, rfl, hnot⟩)
                clear hE hnot
                go_wp2_with fail
                exact close10 psF rfl rfl Ed0_val
              · have hge : GE (first :: rest) ⟨3, n1, 0, 0, 0, 0, 0, 0, 0, true⟩ := by
                  obtain ⟨g1, g2⟩ := empty_and hd
                  have z1 : b1 = false ∧ em = false := by simpa using hc
                  obtain ⟨_, g7, g8⟩ := i1.1 z1.1
                  have hr : rest = [itoa n1, flL true] := by rw [cons_head g8, hwl z1.2, g1]; rfl
                  rw [← hk2, hr]
                  exact GE.over n1 true g7
                obtain ⟨rfl, rfl⟩ := hE.unique (.inl ⟨rfl, hge⟩)
                clear hE hge
                go_wp2_with fail
                exact close10 psF rfl rfl (by first | (simp only [Ed.val, Ed.cells, fi_zero]; done) | (simp only [Ed.val, Ed.cells, fi_zero]; rfl))
            · have psC := psB.set 8 (.bool true)
              have q1 := psC.rs.c1
              have qf := psC.rs.f
              have psF := psC.set1 true
              go_wp2_with fail
              refine (done_any psF.rs).mono ?_
              rintro e w' ⟨rfl, rfl⟩
              generalize hd : (_ && _) = d
              have c0 : _ = some (Value.int .i64 3) := psF.e 0 (by decide)
              have c1 : _ = some (Value.int .i64 n1) := psF.e 1 (by decide)
              have c2 : _ = some (Value.int .i64 0) := psF.e 2 (by decide)
              have c3 : _ = some (Value.int .i64 0) := psF.e 3 (by decide)
              have c4 : _ = some (Value.int .i64 0) := psF.e 4 (by decide)
              have c5 : _ = some (Value.complex .f64 0 0) := psF.e 5 (by decide)
              have c6 : _ = some (Value.int .u32 0) := psF.e 6 (by decide)
              have c7 : _ = some (Value.int .i64 0) := psF.e 7 (by decide)
              have c8 : _ = some (Value.bool true) := psF.e 8 (by decide)
              obtain ⟨_, p0⟩ := psF.p 0 (by decide)
              obtain ⟨_, p1⟩ := psF.p 1 (by decide)
              obtain ⟨_, p2⟩ := psF.p 2 (by decide)
              obtain ⟨_, p3⟩ := psF.p 3 (by decide)
              obtain ⟨_, p4⟩ := psF.p 4 (by decide)
              obtain ⟨_, p5⟩ := psF.p 5 (by decide)
              obtain ⟨_, p6⟩ := psF.p 6 (by decide)
              obtain ⟨_, p7⟩ := psF.p 7 (by decide)
              obtain ⟨_, p8⟩ := psF.p 8 (by decide)
              have pf := psF.pf
              obtain ⟨WF, hWF⟩ := psF.name
              rw [hWF] at psF c0 c1 c2 c3 c4 c5 c6 c7 c8 p0 p1 p2 p3 p4 p5 p6 p7 p8 ⊢
              simp only [hWF] at pf
              cases d
              · have hnot : ∀ e', ¬ GE (first :: rest) e' := by
                  intro e' hge
                  rw [← hk2] at hge
                  obtain ⟨a, f, hI, hr⟩ := hge.inv_over
                  have z1 : b1 = false := i1.2 a hI rfl (by rw [hr]; rfl)
                  have z2 := (hwn (flL f) [] (by rw [hr]; rfl)).2
                  rw [z1, z2] at hc
                  cases hc
                obtain ⟨rfl, rfl⟩ := hE.unique (.inr ⟨rfl, rfl, hnot⟩)
                clear hE hnot
                go_wp2_with fail
                exact close10 psF rfl rfl Ed0_val
              · have hge : GE (first :: rest) ⟨3, n1, 0, 0, 0, 0, 0, 0, 0, true⟩ := by
                  exact absurd (empty_and hd).2 (by decide)
                obtain ⟨rfl, rfl⟩ := hE.unique (.inl ⟨rfl, hge⟩)
                clear hE hge
                go_wp2_with fail
                exact close10 psF rfl rfl (by first | (simp only [Ed.val, Ed.cells, fi_zero]; done) | (simp only [Ed.val, Ed.cells, fi_zero]; rfl))
          · have t1 : ((bs wd).toList == [111, 110]) = false := bs_nlit h1
            by_cases h2 : wd = offL
            · subst h2
              have t2 : ((bs offL).toList == [111, 102, 102]) = true := bs_lit offL
              have t1 : ((bs offL).toList == [111, 110]) = false := bs_nlit h1
              cases c
              · have psC := psB.set 8 (.bool false)
                have q1 := psC.rs.c1
                have qf := psC.rs.f
                have psF := psC.set1 false
                go_wp2_with fail
                refine (done_any psF.rs).mono ?_
                rintro e w' ⟨rfl, rfl⟩
                generalize hd : (_ && _) = d
                have c0 : _ = some (Value.int .i64 3) := psF.e 0 (by decide)
                have c1 : _ = some (Value.int .i64 n1) := psF.e 1 (by decide)
                have c2 : _ = some (Value.int .i64 0) := psF.e 2 (by decide)
                have c3 : _ = some (Value.int .i64 0) := psF.e 3 (by decide)
                have c4 : _ = some (Value.int .i64 0) := psF.e 4 (by decide)
                have c5 : _ = some (Value.complex .f64 0 0) := psF.e 5 (by decide)
                have c6 : _ = some (Value.int .u32 0) := psF.e 6 (by decide)
                have c7 : _ = some (Value.int .i64 0) := psF.e 7 (by decide)
                have c8 : _ = some (Value.bool false) := psF.e 8 (by decide)
                obtain ⟨_, p0⟩ := psF.p 0 (by decide)
                obtain ⟨_, p1⟩ := psF.p 1 (by decide)
                obtain ⟨_, p2⟩ := psF.p 2 (by decide)
                obtain ⟨_, p3⟩ := psF.p 3 (by decide)
                obtain ⟨_, p4⟩ := psF.p 4 (by decide)
                obtain ⟨_, p5⟩ := psF.p 5 (by decide)
                obtain ⟨_, p6⟩ := psF.p 6 (by decide)
                obtain ⟨_, p7⟩ := psF.p 7 (by decide)
                obtain ⟨_, p8⟩ := psF.p 8 (by decide)
                have pf := psF.pf
                obtain ⟨WF, hWF⟩ := psF.name
                rw [hWF] at psF c0 c1 c2 c3 c4 c5 c6 c7 c8 p0 p1 p2 p3 p4 p5 p6 p7 p8 ⊢
                simp only [hWF] at pf
                cases d
                · have hnot : ∀ e', ¬ GE (first :: rest) e' := by
                    intro e' hge
                    rw [← hk2] at hge
                    obtain ⟨a, f, hI, hr⟩ := hge.inv_over
                    rw [hr] at hd
                    simp at hd
                  obtain ⟨rfl, rfl⟩ := hE.unique (.inr ⟨rfl, rfl, hnot⟩)
                  clear hE hnot
                  go_wp2_with fail
                  exact close10 psF rfl rfl Ed0_val
                · have hge : GE (first :: rest) ⟨3, n1, 0, 0, 0, 0, 0, 0, 0, false⟩ := by
                    obtain ⟨g1, g2⟩ := empty_and hd
                    have z1 : b1 = false ∧ em = false := by simpa using hc
                    obtain ⟨_, g7, g8⟩ := i1.1 z1.1
                    have hr : rest = [itoa n1, flL false] := by rw [cons_head g8, hwl z1.2, g1]; rfl
                    rw [← hk2, hr]
                    exact GE.over n1 false g7
                  obtain ⟨rfl, rfl⟩ := hE.unique (.inl ⟨rfl, hge⟩)
                  clear hE hge
                  go_wp2_with fail
                  exact close10 psF rfl rfl (by first | (simp only [Ed.val, Ed.cells, fi_zero]; done) | (simp only [Ed.val, Ed.cells, fi_zero]; rfl))
              · have psC := psB.set 8 (.bool false)
                have q1 := psC.rs.c1
                have qf := psC.rs.f
                have psF := psC.set1 true
                go_wp2_with fail
                refine (done_any psF.rs).mono ?_
                rintro e w' ⟨rfl, rfl⟩
                generalize hd : (_ && _) = d
                have c0 : _ = some (Value.int .i64 3) := psF.e 0 (by decide)
                have c1 : _ = some (Value.int .i64 n1) := psF.e 1 (by decide)
                have c2 : _ = some (Value.int .i64 0) := psF.e 2 (by decide)
                have c3 : _ = some (Value.int .i64 0) := psF.e 3 (by decide)
                have c4 : _ = some (Value.int .i64 0) := psF.e 4 (by decide)
                have c5 : _ = some (Value.complex .f64 0 0) := psF.e 5 (by decide)
                have c6 : _ = some (Value.int .u32 0) := psF.e 6 (by decide)
                have c7 : _ = some (Value.int .i64 0) := psF.e 7 (by decide)
                have c8 : _ = some (Value.bool false) := psF.e 8 (by decide)
                obtain ⟨_, p0⟩ := psF.p 0 (by decide)
                obtain ⟨_, p1⟩ := psF.p 1 (by decide)
                obtain ⟨_, p2⟩ := psF.p 2 (by decide)
                obtain ⟨_, p3⟩ := psF.p 3 (by decide)
                obtain ⟨_, p4⟩ := psF.p 4 (by decide)
                obtain ⟨_, p5⟩ := psF.p 5 (by decide)
                obtain ⟨_, p6⟩ := psF.p 6 (by decide)
                obtain ⟨_, p7⟩ := psF.p 7 (by decide)
                obtain ⟨_, p8⟩ := psF.p 8 (by decide)
                have pf := psF.pf
                obtain ⟨WF, hWF⟩ := psF.name
                rw [hWF] at psF c0 c1 c2 c3 c4 c5 c6 c7 c8 p0 p1 p2 p3 p4 p5 p6 p7 p8 ⊢
                simp only [hWF] at pf
                cases d
                · have hnot : ∀ e', ¬ GE (first :: rest) e' := by
                    intro e' hge
                    rw [← hk2] at hge
                    obtain ⟨a, f, hI, hr⟩ := hge.inv_over
                    have z1 : b1 = false := i1.2 a hI rfl (by rw [hr]; rfl)
                    have z2 := (hwn (flL f) [] (by rw [hr]; rfl)).2
                    rw [z1, z2] at hc
                    cases hc
                  obtain ⟨rfl, rfl⟩ := hE.unique (.inr ⟨rfl, rfl, hnot⟩)
                  clear hE hnot
                  go_wp2_with fail
                  exact close10 psF rfl rfl Ed0_val
                · have hge : GE (first :: rest) ⟨3, n1, 0, 0, 0, 0, 0, 0, 0, false⟩ := by
                    exact absurd (empty_and hd).2 (by decide)
                  obtain ⟨rfl, rfl⟩ := hE.unique (.inl ⟨rfl, hge⟩)
                  clear hE hge
                  go_wp2_with fail
                  exact close10 psF rfl rfl (by first | (simp only [Ed.val, Ed.cells, fi_zero]; done) | (simp only [Ed.val, Ed.cells, fi_zero]; rfl))
            · have t2 : ((bs wd).toList == [111, 102, 102]) = false := bs_nlit h2
              cases c
              · have psC := psB.set 8 (.bool false)
                have q1 := psC.rs.c1
                have qf := psC.rs.f
                have psF := psC.set1 true
                go_wp2_with fail
                refine (done_any psF.rs).mono ?_
                rintro e w' ⟨rfl, rfl⟩
                generalize hd : (_ && _) = d
                have c0 : _ = some (Value.int .i64 3) := psF.e 0 (by decide)
                have c1 : _ = some (Value.int .i64 n1) := psF.e 1 (by decide)
                have c2 : _ = some (Value.int .i64 0) := psF.e 2 (by decide)
                have c3 : _ = some (Value.int .i64 0) := psF.e 3 (by decide)
                have c4 : _ = some (Value.int .i64 0) := psF.e 4 (by decide)
                have c5 : _ = some (Value.complex .f64 0 0) := psF.e 5 (by decide)
                have c6 : _ = some (Value.int .u32 0) := psF.e 6 (by decide)
                have c7 : _ = some (Value.int .i64 0) := psF.e 7 (by decide)
                have c8 : _ = some (Value.bool false) := psF.e 8 (by decide)
                obtain ⟨_, p0⟩ := psF.p 0 (by decide)
                obtain ⟨_, p1⟩ := psF.p 1 (by decide)
                obtain ⟨_, p2⟩ := psF.p 2 (by decide)
                obtain ⟨_, p3⟩ := psF.p 3 (by decide)
                obtain ⟨_, p4⟩ := psF.p 4 (by decide)
                obtain ⟨_, p5⟩ := psF.p 5 (by decide)
                obtain ⟨_, p6⟩ := psF.p 6 (by decide)
                obtain ⟨_, p7⟩ := psF.p 7 (by decide)
                obtain ⟨_, p8⟩ := psF.p 8 (by decide)
                have pf := psF.pf
                obtain ⟨WF, hWF⟩ := psF.name
                rw [hWF] at psF c0 c1 c2 c3 c4 c5 c6 c7 c8 p0 p1 p2 p3 p4 p5 p6 p7 p8 ⊢
                simp only [hWF] at pf
                cases d
                · have hnot : ∀ e', ¬ GE (first :: rest) e' := by
                    intro e' hge
                    rw [← hk2] at hge
                    obtain ⟨a, f, hI, hr⟩ := hge.inv_over
                    have z2 := (hwn (flL f) [] (by rw [hr]; rfl)).1
                    cases f
                    · exact h2 z2
                    · exact h1 z2
                  obtain ⟨rfl, rfl⟩ := hE.unique (.inr ⟨rfl, rfl, hnot⟩)
                  clear hE hnot
                  go_wp2_with fail
                  exact close10 psF rfl rfl Ed0_val
                · have hge : GE (first :: rest) ⟨3, n1, 0, 0, 0, 0, 0, 0, 0, false⟩ := by
                    exact absurd (empty_and hd).2 (by decide)
                  obtain ⟨rfl, rfl⟩ := hE.unique (.inl ⟨rfl, hge⟩)
                  clear hE hge
                  go_wp2_with fail
                  exact close10 psF rfl rfl (by first | (simp only [Ed.val, Ed.cells, fi_zero]; done) | (simp only [Ed.val, Ed.cells, fi_zero]; rfl))
              · have psC := psB.set 8 (.bool false)
                have q1 := psC.rs.c1
                have qf := psC.rs.f
                have psF := psC.set1 true
                go_wp2_with fail
                refine (done_any psF.rs).mono ?_
                rintro e w' ⟨rfl, rfl⟩
                generalize hd : (_ && _) = d
                have c0 : _ = some (Value.int .i64 3) := psF.e 0 (by decide)
                have c1 : _ = some (Value.int .i64 n1) := psF.e 1 (by decide)
                have c2 : _ = some (Value.int .i64 0) := psF.e 2 (by decide)
                have c3 : _ = some (Value.int .i64 0) := psF.e 3 (by decide)
                have c4 : _ = some (Value.int .i64 0) := psF.e 4 (by decide)
                have c5 : _ = some (Value.complex .f64 0 0) := psF.e 5 (by decide)
                have c6 : _ = some (Value.int .u32 0) := psF.e 6 (by decide)
                have c7 : _ = some (Value.int .i64 0) := psF.e 7 (by decide)
                have c8 : _ = some (Value.bool false) := psF.e 8 (by decide)
                obtain ⟨_, p0⟩ := psF.p 0 (by decide)
                obtain ⟨_, p1⟩ := psF.p 1 (by decide)
                obtain ⟨_, p2⟩ := psF.p 2 (by decide)
                obtain ⟨_, p3⟩ := psF.p 3 (by decide)
                obtain ⟨_, p4⟩ := psF.p 4 (by decide)
                obtain ⟨_, p5⟩ := psF.p 5 (by decide)
                obtain ⟨_, p6⟩ := psF.p 6 (by decide)
                obtain ⟨_, p7⟩ := psF.p 7 (by decide)
                obtain ⟨_, p8⟩ := psF.p 8 (by decide)
                have pf := psF.pf
                obtain ⟨WF, hWF⟩ := psF.name
                rw [hWF] at psF c0 c1 c2 c3 c4 c5 c6 c7 c8 p0 p1 p2 p3 p4 p5 p6 p7 p8 ⊢
                simp only [hWF] at pf
                cases d
                · have hnot : ∀ e', ¬ GE (first :: rest) e' := by
                    intro e' hge
                    rw [← hk2] at hge
                    obtain ⟨a, f, hI, hr⟩ := hge.inv_over
                    have z1 : b1 = false := i1.2 a hI rfl (by rw [hr]; rfl)
                    have z2 := (hwn (flL f) [] (by rw [hr]; rfl)).2
                    rw [z1, z2] at hc
                    cases hc
                  obtain ⟨rfl, rfl⟩ := hE.unique (.inr ⟨rfl, rfl, hnot⟩)
                  clear hE hnot
                  go_wp2_with fail
                  exact close10 psF rfl rfl Ed0_val
                · have hge : GE (first :: rest) ⟨3, n1, 0, 0, 0, 0, 0, 0, 0, false⟩ := by
                    exact absurd (empty_and hd).2 (by decide)
                  obtain ⟨rfl, rfl⟩ := hE.unique (.inl ⟨rfl, hge⟩)
                  clear hE hge
                  go_wp2_with fail
                  exact close10 psF rfl rfl (by first | (simp only [Ed.val, Ed.cells, fi_zero]; done) | (simp only [Ed.val, Ed.cells, fi_zero]; rfl))
        · have ps0 := hps
          have hwk := hk2
          go_wp2_with fail
          refine (int_rd hps.rs hv hrl).mono ?_
          rintro e w5 ⟨n1, b1, rfl, r1, k1, i1⟩
          have psA0 := hps.next k1 r1
          have a1 := psA0.e 1 (by decide)
          have af := psA0.ef
          have psA := psA0.set 1 (.int .i64 n1)
          have a0 : (w5.setCell ⟨Eb, 1, none⟩ (.int .i64 n1)).cell? ⟨Eb, 0, none⟩ = some (.int .i64 4) := psA.e 0 (by decide)
          go_wp2_with fail
          refine (int_rd psA.rs hv (tail_len hrl)).mono ?_
          rintro e v2 ⟨n2, b2, rfl, r2, k2, i2⟩
          have psN2 := psA.next k2 r2
          go_wp2_with fail
          refine (int_rd psN2.rs hv (tail_len (tail_len hrl))).mono ?_
          rintro e v3 ⟨n3, b3, rfl, r3, k3, i3⟩
          have psN3 := psN2.next k3 r3
          go_wp2_with fail
          refine (int_rd psN3.rs hv (tail_len (tail_len (tail_len hrl)))).mono ?_
          rintro e v4 ⟨n4, b4, rfl, r4, k4, i4⟩
          have psN4 := psN3.next k4 r4
          have s2 := psN4.e 2 (by decide)
          have s3 := psN4.e 3 (by decide)
          have s4 := psN4.e 4 (by decide)
          have sf := psN4.ef
          have psF := (((psN4.set 2 (.int .i64 n2)).set 3 (.int .i64 n3)).set 4 (.int .i64 n4))
          go_wp2_with fail
          have hRd : Rd [n1, n2, n3, n4] rest false (rest.tail.tail.tail.tail) b4 := ⟨b1, i1, b2, i2, b3, i3, b4, i4, rfl, rfl⟩
          refine (done_any psF.rs).mono ?_
          rintro e w' ⟨rfl, rfl⟩
          generalize hd : (_ && _) = d
          have c0 : _ = some (Value.int .i64 4) := psF.e 0 (by decide)
          have c1 : _ = some (Value.int .i64 n1) := psF.e 1 (by decide)
          have c2 : _ = some (Value.int .i64 n2) := psF.e 2 (by decide)
          have c3 : _ = some (Value.int .i64 n3) := psF.e 3 (by decide)
          have c4 : _ = some (Value.int .i64 n4) := psF.e 4 (by decide)
          have c5 : _ = some (Value.complex .f64 0 0) := psF.e 5 (by decide)
          have c6 : _ = some (Value.int .u32 0) := psF.e 6 (by decide)
          have c7 : _ = some (Value.int .i64 0) := psF.e 7 (by decide)
          have c8 : _ = some (Value.bool false) := psF.e 8 (by decide)
          obtain ⟨_, p0⟩ := psF.p 0 (by decide)
          obtain ⟨_, p1⟩ := psF.p 1 (by decide)
          obtain ⟨_, p2⟩ := psF.p 2 (by decide)
          obtain ⟨_, p3⟩ := psF.p 3 (by decide)
          obtain ⟨_, p4⟩ := psF.p 4 (by decide)
          obtain ⟨_, p5⟩ := psF.p 5 (by decide)
          obtain ⟨_, p6⟩ := psF.p 6 (by decide)
          obtain ⟨_, p7⟩ := psF.p 7 (by decide)
          obtain ⟨_, p8⟩ := psF.p 8 (by decide)
          have pf := psF.pf
          obtain ⟨WF, hWF⟩ := psF.name
          rw [hWF] at psF c0 c1 c2 c3 c4 c5 c6 c7 c8 p0 p1 p2 p3 p4 p5 p6 p7 p8 ⊢
          simp only [hWF] at pf
          cases d
          · have hnot : ∀ e', ¬ GE (first :: rest) e' := by
              intro e' hge
              rw [← hk2] at hge
              obtain ⟨a, b, c, d, hI, hr⟩ := hge.inv_link
              obtain ⟨g1, g2⟩ := Rd.back (r := []) _ [a, b, c, d] hRd rfl rfl (i64_4 hI.1 hI.2.1 hI.2.2.1 hI.2.2.2) (by rw [hr]; rfl)
              rw [g1, g2] at hd
              cases hd
            obtain ⟨rfl, rfl⟩ := hE.unique (.inr ⟨rfl, rfl, hnot⟩)
            clear hE hnot
            go_wp2_with fail
            exact close10 psF rfl rfl Ed0_val
          · have hge : GE (first :: rest) ⟨4, n1, n2, n3, n4, 0, 0, 0, 0, false⟩ := by
              obtain ⟨g1, g2⟩ := empty_and hd
              obtain ⟨_, hI, hr⟩ := Rd.ok _ hRd g2
              rw [g1] at hr
              rw [← hk2, hr]
              exact GE.link n1 n2 n3 n4 (hI n1 (by simp)) (hI n2 (by simp)) (hI n3 (by simp)) (hI n4 (by simp))
            obtain ⟨rfl, rfl⟩ := hE.unique (.inl ⟨rfl, hge⟩)
            clear hE hge
            go_wp2_with fail
            exact close10 psF rfl rfl (by first | (simp only [Ed.val, Ed.cells, fi_zero]; done) | (simp only [Ed.val, Ed.cells, fi_zero]; rfl))
        · have ps0 := hps
          have hwk := hk2
          go_wp2_with fail
          refine (int_rd hps.rs hv hrl).mono ?_
          rintro e w5 ⟨n1, b1, rfl, r1, k1, i1⟩
          have psA0 := hps.next k1 r1
          have a1 := psA0.e 1 (by decide)
          have af := psA0.ef
          have psA := psA0.set 1 (.int .i64 n1)
          have a0 : (w5.setCell ⟨Eb, 1, none⟩ (.int .i64 n1)).cell? ⟨Eb, 0, none⟩ = some (.int .i64 5) := psA.e 0 (by decide)
          go_wp2_with fail
          refine (int_rd psA.rs hv (tail_len hrl)).mono ?_
          rintro e v2 ⟨n2, b2, rfl, r2, k2, i2⟩
          have psN2 := psA.next k2 r2
          have s2 := psN2.e 2 (by decide)
          have sf := psN2.ef
          have psF := (psN2.set 2 (.int .i64 n2))
          go_wp2_with fail
          have hRd : Rd [n1, n2] rest false (rest.tail.tail) b2 := ⟨b1, i1, b2, i2, rfl, rfl⟩
          refine (done_any psF.rs).mono ?_
          rintro e w' ⟨rfl, rfl⟩
          generalize hd : (_ && _) = d
          have c0 : _ = some (Value.int .i64 5) := psF.e 0 (by decide)
          have c1 : _ = some (Value.int .i64 n1) := psF.e 1 (by decide)
          have c2 : _ = some (Value.int .i64 n2) := psF.e 2 (by decide)
          have c3 : _ = some (Value.int .i64 0) := psF.e 3 (by decide)
          have c4 : _ = some (Value.int .i64 0) := psF.e 4 (by decide)
          have c5 : _ = some (Value.complex .f64 0 0) := psF.e 5 (by decide)
          have c6 : _ = some (Value.int .u32 0) := psF.e 6 (by decide)
          have c7 : _ = some (Value.int .i64 0) := psF.e 7 (by decide)
          have c8 : _ = some (Value.bool false) := psF.e 8 (by decide)
          obtain ⟨_, p0⟩ := psF.p 0 (by decide)
          obtain ⟨_, p1⟩ := psF.p 1 (by decide)
          obtain ⟨_, p2⟩ := psF.p 2 (by decide)
          obtain ⟨_, p3⟩ := psF.p 3 (by decide)
          obtain ⟨_, p4⟩ := psF.p 4 (by decide)
          obtain ⟨_, p5⟩ := psF.p 5 (by decide)
          obtain ⟨_, p6⟩ := psF.p 6 (by decide)
          obtain ⟨_, p7⟩ := psF.p 7 (by decide)
          obtain ⟨_, p8⟩ := psF.p 8 (by decide)
          have pf := psF.pf
          obtain ⟨WF, hWF⟩ := psF.name
          rw [hWF] at psF c0 c1 c2 c3 c4 c5 c6 c7 c8 p0 p1 p2 p3 p4 p5 p6 p7 p8 ⊢
          simp only [hWF] at pf
          cases d
          · have hnot : ∀ e', ¬ GE (first :: rest) e' := by
              intro e' hge
              rw [← hk2] at hge
              obtain ⟨a, b, hI, hr⟩ := hge.inv_cut
              obtain ⟨g1, g2⟩ := Rd.back (r := []) _ [a, b] hRd rfl rfl (i64_2 hI.1 hI.2) (by rw [hr]; rfl)
              rw [g1, g2] at hd
              cases hd
            obtain ⟨rfl, rfl⟩ := hE.unique (.inr ⟨rfl, rfl, hnot⟩)
            clear hE hnot
            go_wp2_with fail
            exact close10 psF rfl rfl Ed0_val
          · have hge : GE (first :: rest) ⟨5, n1, n2, 0, 0, 0, 0, 0, 0, false⟩ := by
              obtain ⟨g1, g2⟩ := empty_and hd
              obtain ⟨_, hI, hr⟩ := Rd.ok _ hRd g2
              rw [g1] at hr
              rw [← hk2, hr]
              exact GE.cut n1 n2 (hI n1 (by simp)) (hI n2 (by simp))
            obtain ⟨rfl, rfl⟩ := hE.unique (.inl ⟨rfl, hge⟩)
            clear hE hge
            go_wp2_with fail
            exact close10 psF rfl rfl (by first | (simp only [Ed.val, Ed.cells, fi_zero]; done) | (simp only [Ed.val, Ed.cells, fi_zero]; rfl))
        · have ps0 := hps
          have hwk := hk2
          go_wp2_with fail
          refine (int_rd hps.rs hv hrl).mono ?_
          rintro e w5 ⟨n1, b1, rfl, r1, k1, i1⟩
          have psA0 := hps.next k1 r1
          have a1 := psA0.e 1 (by decide)
          have af := psA0.ef
          have psA := psA0.set 1 (.int .i64 n1)
          have a0 : (w5.setCell ⟨Eb, 1, none⟩ (.int .i64 n1)).cell? ⟨Eb, 0, none⟩ = some (.int .i64 6) := psA.e 0 (by decide)
          go_wp2_with fail
          refine (int_rd psA.rs hv (tail_len hrl)).mono ?_
          rintro e v2 ⟨n2, b2, rfl, r2, k2, i2⟩
          have psN2 := psA.next k2 r2
          go_wp2_with fail
          refine (int_rd psN2.rs hv (tail_len (tail_len hrl))).mono ?_
          rintro e v3 ⟨n3, b3, rfl, r3, k3, i3⟩
          have psN3 := psN2.next k3 r3
          have s2 := psN3.e 2 (by decide)
          have s3 := psN3.e 3 (by decide)
          have sf := psN3.ef
          have psF := ((psN3.set 2 (.int .i64 n2)).set 3 (.int .i64 n3))
          go_wp2_with fail
          have hRd : Rd [n1, n2, n3] rest false (rest.tail.tail.tail) b3 := ⟨b1, i1, b2, i2, b3, i3, rfl, rfl⟩
          refine (done_any psF.rs).mono ?_
          rintro e w' ⟨rfl, rfl⟩
          generalize hd : (_ && _) = d
          have c0 : _ = some (Value.int .i64 6) := psF.e 0 (by decide)
          have c1 : _ = some (Value.int .i64 n1) := psF.e 1 (by decide)
          have c2 : _ = some (Value.int .i64 n2) := psF.e 2 (by decide)
          have c3 : _ = some (Value.int .i64 n3) := psF.e 3 (by decide)
          have c4 : _ = some (Value.int .i64 0) := psF.e 4 (by decide)
          have c5 : _ = some (Value.complex .f64 0 0) := psF.e 5 (by decide)
          have c6 : _ = some (Value.int .u32 0) := psF.e 6 (by decide)
          have c7 : _ = some (Value.int .i64 0) := psF.e 7 (by decide)
          have c8 : _ = some (Value.bool false) := psF.e 8 (by decide)
          obtain ⟨_, p0⟩ := psF.p 0 (by decide)
          obtain ⟨_, p1⟩ := psF.p 1 (by decide)
          obtain ⟨_, p2⟩ := psF.p 2 (by decide)
          obtain ⟨_, p3⟩ := psF.p 3 (by decide)
          obtain ⟨_, p4⟩ := psF.p 4 (by decide)
          obtain ⟨_, p5⟩ := psF.p 5 (by decide)
          obtain ⟨_, p6⟩ := psF.p 6 (by decide)
          obtain ⟨_, p7⟩ := psF.p 7 (by decide)
          obtain ⟨_, p8⟩ := psF.p 8 (by decide)
          have pf := psF.pf
          obtain ⟨WF, hWF⟩ := psF.name
          rw [hWF] at psF c0 c1 c2 c3 c4 c5 c6 c7 c8 p0 p1 p2 p3 p4 p5 p6 p7 p8 ⊢
          simp only [hWF] at pf
          cases d
          · have hnot : ∀ e', ¬ GE (first :: rest) e' := by
              intro e' hge
              rw [← hk2] at hge
              obtain ⟨a, b, c, hI, hr⟩ := hge.inv_cost
              obtain ⟨g1, g2⟩ := Rd.back (r := []) _ [a, b, c] hRd rfl rfl (i64_3 hI.1 hI.2.1 hI.2.2) (by rw [hr]; rfl)
              rw [g1, g2] at hd
              cases hd
            obtain ⟨rfl, rfl⟩ := hE.unique (.inr ⟨rfl, rfl, hnot⟩)
            clear hE hnot
            go_wp2_with fail
            exact close10 psF rfl rfl Ed0_val
          · have hge : GE (first :: rest) ⟨6, n1, n2, n3, 0, 0, 0, 0, 0, false⟩ := by
              obtain ⟨g1, g2⟩ := empty_and hd
              obtain ⟨_, hI, hr⟩ := Rd.ok _ hRd g2
              rw [g1] at hr
              rw [← hk2, hr]
              exact GE.cost n1 n2 n3 (hI n1 (by simp)) (hI n2 (by simp)) (hI n3 (by simp))
            obtain ⟨rfl, rfl⟩ := hE.unique (.inl ⟨rfl, hge⟩)
            clear hE hge
            go_wp2_with fail
            exact close10 psF rfl rfl (by first | (simp only [Ed.val, Ed.cells, fi_zero]; done) | (simp only [Ed.val, Ed.cells, fi_zero]; rfl))
        · have ps0 := hps
          have hwk := hk2
          go_wp2_with fail
          refine (int_rd hps.rs hv hrl).mono ?_
          rintro e w5 ⟨n1, b1, rfl, r1, k1, i1⟩
          have psA0 := hps.next k1 r1
          have a1 := psA0.e 1 (by decide)
          have af := psA0.ef
          have psA := psA0.set 1 (.int .i64 n1)
          have a0 : (w5.setCell ⟨Eb, 1, none⟩ (.int .i64 n1)).cell? ⟨Eb, 0, none⟩ = some (.int .i64 7) := psA.e 0 (by decide)
          go_wp2_with fail
          refine (int_rd psA.rs hv (tail_len hrl)).mono ?_
          rintro e v2 ⟨n2, b2, rfl, r2, k2, i2⟩
          have psN2 := psA.next k2 r2
          go_wp2_with fail
          refine (int_rd psN2.rs hv (tail_len (tail_len hrl))).mono ?_
          rintro e v3 ⟨n3, b3, rfl, r3, k3, i3⟩
          have psN3 := psN2.next k3 r3
          have s2 := psN3.e 2 (by decide)
          have s4 := psN3.e 4 (by decide)
          have sf := psN3.ef
          have psF := ((psN3.set 2 (.int .i64 n2)).set 4 (.int .i64 n3))
          go_wp2_with fail
          have hRd : Rd [n1, n2, n3] rest false (rest.tail.tail.tail) b3 := ⟨b1, i1, b2, i2, b3, i3, rfl, rfl⟩
          refine (done_any psF.rs).mono ?_
          rintro e w' ⟨rfl, rfl⟩
          generalize hd : (_ && _) = d
          have c0 : _ = some (Value.int .i64 7) := psF.e 0 (by decide)
          have c1 : _ = some (Value.int .i64 n1) := psF.e 1 (by decide)
          have c2 : _ = some (Value.int .i64 n2) := psF.e 2 (by decide)
          have c3 : _ = some (Value.int .i64 0) := psF.e 3 (by decide)
          have c4 : _ = some (Value.int .i64 n3) := psF.e 4 (by decide)
          have c5 : _ = some (Value.complex .f64 0 0) := psF.e 5 (by decide)
          have c6 : _ = some (Value.int .u32 0) := psF.e 6 (by decide)
          have c7 : _ = some (Value.int .i64 0) := psF.e 7 (by decide)
          have c8 : _ = some (Value.bool false) := psF.e 8 (by decide)
          obtain ⟨_, p0⟩ := psF.p 0 (by decide)
          obtain ⟨_, p1⟩ := psF.p 1 (by decide)
          obtain ⟨_, p2⟩ := psF.p 2 (by decide)
          obtain ⟨_, p3⟩ := psF.p 3 (by decide)
          obtain ⟨_, p4⟩ := psF.p 4 (by decide)
          obtain ⟨_, p5⟩ := psF.p 5 (by decide)
          obtain ⟨_, p6⟩ := psF.p 6 (by decide)
          obtain ⟨_, p7⟩ := psF.p 7 (by decide)
          obtain ⟨_, p8⟩ := psF.p 8 (by decide)
          have pf := psF.pf
          obtain ⟨WF, hWF⟩ := psF.name
          rw [hWF] at psF c0 c1 c2 c3 c4 c5 c6 c7 c8 p0 p1 p2 p3 p4 p5 p6 p7 p8 ⊢
          simp only [hWF] at pf
          cases d
          · have hnot : ∀ e', ¬ GE (first :: rest) e' := by
              intro e' hge
              rw [← hk2] at hge
              obtain ⟨a, b, c, hI, hr⟩ := hge.inv_delay
              obtain ⟨g1, g2⟩ := Rd.back (r := []) _ [a, b, c] hRd rfl rfl (i64_3 hI.1 hI.2.1 hI.2.2) (by rw [hr]; rfl)
              rw [g1, g2] at hd
              cases hd
            obtain ⟨rfl, rfl⟩ := hE.unique (.inr ⟨rfl, rfl, hnot⟩)
            clear hE hnot
            go_wp2_with fail
            exact close10 psF rfl rfl Ed0_val
          · have hge : GE (first :: rest) ⟨7, n1, n2, 0, n3, 0, 0, 0, 0, false⟩ := by
              obtain ⟨g1, g2⟩ := empty_and hd
              obtain ⟨_, hI, hr⟩ := Rd.ok _ hRd g2
              rw [g1] at hr
              rw [← hk2, hr]
              exact GE.delay n1 n2 n3 (hI n1 (by simp)) (hI n2 (by simp)) (hI n3 (by simp))
            obtain ⟨rfl, rfl⟩ := hE.unique (.inl ⟨rfl, hge⟩)
            clear hE hge
            go_wp2_with fail
            exact close10 psF rfl rfl (by first | (simp only [Ed.val, Ed.cells, fi_zero]; done) | (simp only [Ed.val, Ed.cells, fi_zero]; rfl))
        · have ps0 := hps
          have hwk := hk2
          go_wp2_with fail
          refine (int_rd hps.rs hv hrl).mono ?_
          rintro e w5 ⟨n1, b1, rfl, r1, k1, i1⟩
          have psA0 := hps.next k1 r1
          have a1 := psA0.e 1 (by decide)
          have af := psA0.ef
          have psA := psA0.set 1 (.int .i64 n1)
          have a0 : (w5.setCell ⟨Eb, 1, none⟩ (.int .i64 n1)).cell? ⟨Eb, 0, none⟩ = some (.int .i64 8) := psA.e 0 (by decide)
          go_wp2_with fail
          refine (spot_rd psA.rs hv (tail_len hrl)).mono ?_
          rintro e v2 ⟨p, q, b2, rfl, r2, k2, i2⟩
          have psB := psA.next k2 r2
          have s5 := psB.e 5 (by decide)
          have sf := psB.ef
          have psF := psB.set 5 (.complex .f64 p q)
          go_wp2_with fail
          refine (done_any psF.rs).mono ?_
          rintro e w' ⟨rfl, rfl⟩
          generalize hd : (_ && _) = d
          have c0 : _ = some (Value.int .i64 8) := psF.e 0 (by decide)
          have c1 : _ = some (Value.int .i64 n1) := psF.e 1 (by decide)
          have c2 : _ = some (Value.int .i64 0) := psF.e 2 (by decide)
          have c3 : _ = some (Value.int .i64 0) := psF.e 3 (by decide)
          have c4 : _ = some (Value.int .i64 0) := psF.e 4 (by decide)
          have c5 : _ = some (Value.complex .f64 p q) := psF.e 5 (by decide)
          have c6 : _ = some (Value.int .u32 0) := psF.e 6 (by decide)
          have c7 : _ = some (Value.int .i64 0) := psF.e 7 (by decide)
          have c8 : _ = some (Value.bool false) := psF.e 8 (by decide)
          obtain ⟨_, p0⟩ := psF.p 0 (by decide)
          obtain ⟨_, p1⟩ := psF.p 1 (by decide)
          obtain ⟨_, p2⟩ := psF.p 2 (by decide)
          obtain ⟨_, p3⟩ := psF.p 3 (by decide)
          obtain ⟨_, p4⟩ := psF.p 4 (by decide)
          obtain ⟨_, p5⟩ := psF.p 5 (by decide)
          obtain ⟨_, p6⟩ := psF.p 6 (by decide)
          obtain ⟨_, p7⟩ := psF.p 7 (by decide)
          obtain ⟨_, p8⟩ := psF.p 8 (by decide)
          have pf := psF.pf
          obtain ⟨WF, hWF⟩ := psF.name
          rw [hWF] at psF c0 c1 c2 c3 c4 c5 c6 c7 c8 p0 p1 p2 p3 p4 p5 p6 p7 p8 ⊢
          simp only [hWF] at pf
          cases d
          · have hnot : ∀ e', ¬ GE (first :: rest) e' := by
              intro e' hge
              rw [← hk2] at hge
              obtain ⟨a, x, y, hI, hr⟩ := hge.inv_spot8
              have z1 : b1 = false := i1.2 a hI.1 rfl (by rw [hr]; rfl)
              have z2 : b2 = false := i2.2 x y [] hI.2.1 hI.2.2 z1 (by rw [hr]; rfl)
              rw [hr, z2] at hd
              simp at hd
            obtain ⟨rfl, rfl⟩ := hE.unique (.inr ⟨rfl, rfl, hnot⟩)
            clear hE hnot
            go_wp2_with fail
            exact close10 psF rfl rfl Ed0_val
          · obtain ⟨g1, g2⟩ := empty_and hd
            obtain ⟨x, y, g3, g4, g5, rfl, rfl, g6⟩ := i2.1 g2
            obtain ⟨_, g7, g8⟩ := i1.1 g3
            have hr : rest = [itoa n1, itoa x, itoa y] := by rw [cons_head g8, g6, g1]
            have hge : GE (first :: rest) ⟨8, n1, 0, 0, 0, x, y, 0, 0, false⟩ := by
              rw [← hk2, hr]
              exact GE.spot 8 n1 x y (.inr rfl) g7 g4 g5
            obtain ⟨rfl, rfl⟩ := hE.unique (.inl ⟨rfl, hge⟩)
            clear hE hge
            go_wp2_with fail
            exact close10 psF rfl rfl (by first | (simp only [Ed.val, Ed.cells, fi_zero]; done) | (simp only [Ed.val, Ed.cells, fi_zero]; rfl))
        · have ps0 := hps
          have hwk := hk2
          go_wp2_with fail
          refine (int_rd hps.rs hv hrl).mono ?_
          rintro e w5 ⟨n1, b1, rfl, r1, k1, i1⟩
          have psA0 := hps.next k1 r1
          have a1 := psA0.e 1 (by decide)
          have af := psA0.ef
          have psA := psA0.set 1 (.int .i64 n1)
          have a0 : (w5.setCell ⟨Eb, 1, none⟩ (.int .i64 n1)).cell? ⟨Eb, 0, none⟩ = some (.int .i64 9) := psA.e 0 (by decide)
          go_wp2_with fail
          refine (prefix_rd psA.rs hv (tail_len hrl)).mono ?_
          rintro e v2 ⟨pa, pn, b2, rfl, r2, k2, i2⟩
          have psB := psA.next k2 r2
          unfold pv
          go_wp2_with fail
          refine (int_rd psB.rs hv (tail_len (tail_len hrl))).mono ?_
          rintro e v3 ⟨n3, b3, rfl, r3, k3, i3⟩
          have psC := psB.next k3 r3
          have s6 := psC.e 6 (by decide)
          have s7 := psC.e 7 (by decide)
          have s3 := psC.e 3 (by decide)
          have sf := psC.ef
          have psF := ((psC.set 6 (.int .u32 pa)).set 7 (.int .i64 pn)).set 3 (.int .i64 n3)
          go_wp2_with fail
          refine (done_any psF.rs).mono ?_
          rintro e w' ⟨rfl, rfl⟩
          generalize hd : (_ && _) = d
          have c0 : _ = some (Value.int .i64 9) := psF.e 0 (by decide)
          have c1 : _ = some (Value.int .i64 n1) := psF.e 1 (by decide)
          have c2 : _ = some (Value.int .i64 0) := psF.e 2 (by decide)
          have c3 : _ = some (Value.int .i64 n3) := psF.e 3 (by decide)
          have c4 : _ = some (Value.int .i64 0) := psF.e 4 (by decide)
          have c5 : _ = some (Value.complex .f64 0 0) := psF.e 5 (by decide)
          have c6 : _ = some (Value.int .u32 pa) := psF.e 6 (by decide)
          have c7 : _ = some (Value.int .i64 pn) := psF.e 7 (by decide)
          have c8 : _ = some (Value.bool false) := psF.e 8 (by decide)
          obtain ⟨_, p0⟩ := psF.p 0 (by decide)
          obtain ⟨_, p1⟩ := psF.p 1 (by decide)
          obtain ⟨_, p2⟩ := psF.p 2 (by decide)
          obtain ⟨_, p3⟩ := psF.p 3 (by decide)
          obtain ⟨_, p4⟩ := psF.p 4 (by decide)
          obtain ⟨_, p5⟩ := psF.p 5 (by decide)
          obtain ⟨_, p6⟩ := psF.p 6 (by decide)
          obtain ⟨_, p7⟩ := psF.p 7 (by decide)
          obtain ⟨_, p8⟩ := psF.p 8 (by decide)
          have pf := psF.pf
          obtain ⟨WF, hWF⟩ := psF.name
          rw [hWF] at psF c0 c1 c2 c3 c4 c5 c6 c7 c8 p0 p1 p2 p3 p4 p5 p6 p7 p8 ⊢
          simp only [hWF] at pf
          cases d
          · have hnot : ∀ e', ¬ GE (first :: rest) e' := by
              intro e' hge
              rw [← hk2] at hge
              obtain ⟨a, c, pa', pn', hI, hr⟩ := hge.inv_pin
              have z1 : b1 = false := i1.2 a hI.1 rfl (by rw [hr]; rfl)
              have z2 : b2 = false := i2.2 pa' pn' hI.2.2.1 hI.2.2.2 z1 (by rw [hr]; rfl)
              have z3 : b3 = false := i3.2 c hI.2.1 z2 (by rw [hr]; rfl)
              rw [hr, z3] at hd
              simp at hd
            obtain ⟨rfl, rfl⟩ := hE.unique (.inr ⟨rfl, rfl, hnot⟩)
            clear hE hnot
            go_wp2_with fail
            exact close10 psF rfl rfl Ed0_val
          · obtain ⟨g1, g2⟩ := empty_and hd
            obtain ⟨y1, y2, y3⟩ := i3.1 g2
            obtain ⟨g3, g4, g5, g6⟩ := i2.1 y1
            obtain ⟨_, g7, g8⟩ := i1.1 g3
            have hr : rest = [itoa n1, pfxL pa pn, itoa n3] := by rw [cons_head g8, cons_head g6, cons_head y3, g1]
            have hge : GE (first :: rest) ⟨9, n1, 0, n3, 0, 0, 0, pa, pn, false⟩ := by
              rw [← hk2, hr]
              exact GE.pin n1 n3 pa pn g7 y2 g4 g5
            obtain ⟨rfl, rfl⟩ := hE.unique (.inl ⟨rfl, hge⟩)
            clear hE hge
            go_wp2_with fail
            exact close10 psF rfl rfl (by first | (simp only [Ed.val, Ed.cells, fi_zero]; done) | (simp only [Ed.val, Ed.cells, fi_zero]; rfl))
        · have ps0 := hps
          have hwk := hk2
          go_wp2_with fail
          refine (int_rd hps.rs hv hrl).mono ?_
          rintro e w5 ⟨n1, b1, rfl, r1, k1, i1⟩
          have psA0 := hps.next k1 r1
          have a1 := psA0.e 1 (by decide)
          have af := psA0.ef
          have psA := psA0.set 1 (.int .i64 n1)
          have a0 : (w5.setCell ⟨Eb, 1, none⟩ (.int .i64 n1)).cell? ⟨Eb, 0, none⟩ = some (.int .i64 10) := psA.e 0 (by decide)
          go_wp2_with fail
          refine (prefix_rd psA.rs hv (tail_len hrl)).mono ?_
          rintro e v2 ⟨pa, pn, b2, rfl, r2, k2, i2⟩
          have psB := psA.next k2 r2
          unfold pv
          have s6 := psB.e 6 (by decide)
          have s7 := psB.e 7 (by decide)
          have sf := psB.ef
          have psF := (psB.set 6 (.int .u32 pa)).set 7 (.int .i64 pn)
          go_wp2_with fail
          refine (done_any psF.rs).mono ?_
          rintro e w' ⟨rfl, rfl⟩
          generalize hd : (_ && _) = d
          have c0 : _ = some (Value.int .i64 10) := psF.e 0 (by decide)
          have c1 : _ = some (Value.int .i64 n1) := psF.e 1 (by decide)
          have c2 : _ = some (Value.int .i64 0) := psF.e 2 (by decide)
          have c3 : _ = some (Value.int .i64 0) := psF.e 3 (by decide)
          have c4 : _ = some (Value.int .i64 0) := psF.e 4 (by decide)
          have c5 : _ = some (Value.complex .f64 0 0) := psF.e 5 (by decide)
          have c6 : _ = some (Value.int .u32 pa) := psF.e 6 (by decide)
          have c7 : _ = some (Value.int .i64 pn) := psF.e 7 (by decide)
          have c8 : _ = some (Value.bool false) := psF.e 8 (by decide)
          obtain ⟨_, p0⟩ := psF.p 0 (by decide)
          obtain ⟨_, p1⟩ := psF.p 1 (by decide)
          obtain ⟨_, p2⟩ := psF.p 2 (by decide)
          obtain ⟨_, p3⟩ := psF.p 3 (by decide)
          obtain ⟨_, p4⟩ := psF.p 4 (by decide)
          obtain ⟨_, p5⟩ := psF.p 5 (by decide)
          obtain ⟨_, p6⟩ := psF.p 6 (by decide)
          obtain ⟨_, p7⟩ := psF.p 7 (by decide)
          obtain ⟨_, p8⟩ := psF.p 8 (by decide)
          have pf := psF.pf
          obtain ⟨WF, hWF⟩ := psF.name
          rw [hWF] at psF c0 c1 c2 c3 c4 c5 c6 c7 c8 p0 p1 p2 p3 p4 p5 p6 p7 p8 ⊢
          simp only [hWF] at pf
          cases d
          · have hnot : ∀ e', ¬ GE (first :: rest) e' := by
              intro e' hge
              rw [← hk2] at hge
              obtain ⟨a, pa', pn', hI, hr⟩ := hge.inv_unpin
              have z1 : b1 = false := i1.2 a hI.1 rfl (by rw [hr]; rfl)
              have z2 : b2 = false := i2.2 pa' pn' hI.2.1 hI.2.2 z1 (by rw [hr]; rfl)
              rw [hr, z2] at hd
              simp at hd
            obtain ⟨rfl, rfl⟩ := hE.unique (.inr ⟨rfl, rfl, hnot⟩)
            clear hE hnot
            go_wp2_with fail
            exact close10 psF rfl rfl Ed0_val
          · obtain ⟨g1, g2⟩ := empty_and hd
            obtain ⟨g3, g4, g5, g6⟩ := i2.1 g2
            obtain ⟨_, g7, g8⟩ := i1.1 g3
            have hr : rest = [itoa n1, pfxL pa pn] := by rw [cons_head g8, cons_head g6, g1]
            have hge : GE (first :: rest) ⟨10, n1, 0, 0, 0, 0, 0, pa, pn, false⟩ := by
              rw [← hk2, hr]
              exact GE.unpin n1 pa pn g7 g4 g5
            obtain ⟨rfl, rfl⟩ := hE.unique (.inl ⟨rfl, hge⟩)
            clear hE hge
            go_wp2_with fail
            exact close10 psF rfl rfl (by first | (simp only [Ed.val, Ed.cells, fi_zero]; done) | (simp only [Ed.val, Ed.cells, fi_zero]; rfl))
end Go.Proofs.YtcociflljbaicaaDoor
