/- Text: the walk. -/
import Derived.Test.YthhinchifegofaaDoorV
import Derived.Test.YthhinchifegofaaDoorXB
import Derived.Test.YthhinchifegofaaDoorO
import Derived.Lib.Join
import Derived.Maps.AppendAt
import Derived.RangeFuncBox
namespace Go.Proofs.YthhinchifegofaaDoor
open Go.RowKit Go.Lib
attribute [local go_sem] Oper.semAt_some

/-- A text of bytes. -/
def bs (l : List UInt8) : ByteArray := ⟨l.toArray⟩
theorem bs_size (l : List UInt8) : (bs l).size = l.length := by simp [bs, ByteArray.size]
theorem bs_self (x : ByteArray) : bs x.data.toList = x := by
  apply ba_ext
  rfl
/-- The words of a set. -/
def wordsL (s : Bt) : List (List UInt8) := (eachL s).map itoa
/-- The text of a set. -/
def textL (s : Bt) : List UInt8 := 123 :: (join (wordsL s) [44] ++ [125])

theorem brace_text (s : Bt) : (⟨#[123]⟩ ++ (⟨(join (wordsL s) [44]).toArray⟩ : ByteArray) ++ ⟨#[125]⟩ : ByteArray) = bs (textL s) := by
  apply ba_ext
  simp [bs, textL]
theorem nd3 (u : Nat) (h : u < 1000) : nDigits u ≤ 3 := by
  by_cases h0 : u < 10
  · rw [nDigits_small h0]; omega
  · have h1 := decDigits_val u
    have h2 := decDigits_length u
    obtain ⟨c, r, e, hc⟩ := decDigits_head u (by omega)
    have hd := decDigits_dig u
    rw [e] at h1 h2 hd
    have hcd := hd c (by simp)
    unfold dig at hcd
    by_cases hl : nDigits u ≤ 3
    · exact hl
    · exfalso
      have key : ∀ (l : List UInt8) (acc : Nat), acc * 10 ^ l.length ≤ decVal acc l := by
        intro l
        induction l with
        | nil => intro acc; rw [decVal_nil]; simp
        | cons x l ih =>
          intro acc
          rw [decVal_cons]
          refine Nat.le_trans ?_ (ih _)
          rw [List.length_cons, Nat.pow_succ, Nat.mul_comm (10 ^ l.length) 10, ← Nat.mul_assoc]
          exact Nat.mul_le_mul_right _ (by omega)
      have h3 := key r (c.toNat - 48)
      rw [decVal_cons, show 0 * 10 + (c.toNat - 48) = c.toNat - 48 by omega] at h1
      rw [h1] at h3
      rw [List.length_cons] at h2
      have h4 : 10 ^ 3 ≤ 10 ^ r.length := Nat.pow_le_pow_right (by omega) (by omega)
      have h5 : 1 * 10 ^ r.length ≤ (c.toNat - 48) * 10 ^ r.length := Nat.mul_le_mul_right _ (by omega)
      have h6 : (10 : Nat) ^ 3 = 1000 := by decide
      omega
theorem itoa_len3 (n : Int) (h0 : 0 ≤ n) (h1 : n < 128) : (itoa n).length ≤ 3 := by
  unfold itoa
  rw [if_neg (by omega), decDigits_length]
  exact nd3 _ (by omega)
theorem joinTail_len (sep : List UInt8) (r : List (List UInt8)) (h : ∀ x ∈ r, x.length ≤ 3) : (joinTail sep r).length ≤ r.length * (sep.length + 3) := by
  induction r with
  | nil => simp [joinTail]
  | cons x r ih =>
    have h1 := h x List.mem_cons_self
    have h2 := ih fun y hy => h y (List.mem_cons_of_mem _ hy)
    simp only [joinTail, List.map_cons, List.flatten_cons, List.length_append, List.length_cons] at *
    rw [Nat.add_mul]
    omega
theorem eachL_len (s : Bt) : (eachL s).length ≤ 128 := by
  have h2 := places_len s.1.toNat
  have h3 := places_len s.2.toNat
  simp [eachL, onesI]
  omega
theorem wordsL_len3 (s : Bt) : ∀ x ∈ wordsL s, x.length ≤ 3 := by
  intro x hx
  obtain ⟨n, hn, rfl⟩ := List.mem_map.1 hx
  have := eachL_bd s n hn
  exact itoa_len3 n this.1 this.2
theorem join_len (s : Bt) : (join (wordsL s) [44]).length ≤ 512 := by
  have h := wordsL_len3 s
  have hl : (wordsL s).length ≤ 128 := by unfold wordsL; rw [List.length_map]; exact eachL_len s
  cases hw : wordsL s with
  | nil => rw [join_nil]; simp
  | cons x r =>
    rw [hw] at h hl
    rw [join_cons, List.length_append]
    have h1 := h x List.mem_cons_self
    have h2 := joinTail_len [44] r fun y hy => h y (List.mem_cons_of_mem _ hy)
    simp at h2 hl
    omega
theorem info9 : (Tryd.prog.info? 9).map (fun i => (i.zero, i.size, i.bytes)) = some (some (.string ⟨#[]⟩), 1, 16) := by kernel_rfl
theorem Boxed.below {w w' : World} {B : Nat} {t : TypeId} {v : Value} (h : Boxed w B t v) (b : Below w.heap.size w w') : Boxed w' B t v := (b.block B (Array.getElem?_eq_some_iff.1 h).1).trans h
theorem keeps_below {w w' : World} (b : Below w.heap.size w w') : KeepsOthers w w' := ⟨b.size, fun k _ hk _ => (b.block k (Array.getElem?_eq_some_iff.1 hk).1).trans hk⟩
def strs (L : List Int) : List Value := L.map fun n => .string (bs (itoa n))
theorem strs_append (a : List Int) (n : Int) : strs (a ++ [n]) = strs a ++ [.string (bs (itoa n))] := by simp [strs]
set_option maxRecDepth 100000 in
set_option maxHeartbeats 4000000 in
theorem Text_any (s : Bt) (w : World) (hT : TabW w) (hV : VarsW w) :
    Calls Tryd.prog 21 #[bv s] w fun e w' => e = .returned (.string (bs (textL s))) ∧ Below w.heap.size w w' := by
  refine (callsIn_wide (n := 5)).1 ?_
  unfold bv
  obtain ⟨i0, hi, hq0, hq1, hq2⟩ := info_parts info9
  refine callsIn_of_wp_marks Tryd.func21 rfl trivial ?_
  simp only [Tryd.ntmps21, List.size_toArray, List.length_cons, List.length_nil, Nat.reduceAdd, Nat.reduceSub, Array.replicate_succ, Array.replicate_zero, List.push_toArray, List.append_toArray, List.nil_append, List.cons_append]
  gi_wp2_with (refine ⟨trivial, ?_⟩; gi_at_call 6; refine (callsIn_wide.2 (Each_any s _)).mono ?_; rintro e w' ⟨rfl, rfl⟩)
  obtain ⟨W0, hW0⟩ : ∃ W0, W0 = ((w.alloc (.cells #[.int .u64 (u s.1), .int .u64 (u s.2)] 24)).alloc (.cells #[.slice none 0 0] 48)).alloc (.cells #[.int .u64 (u s.1), .int .u64 (u s.2)] 24) := ⟨_, rfl⟩
  rw [← hW0]
  have hz0 : W0.heap.size = w.heap.size + 3 := by rw [hW0]; simp
  have hb0 : Below w.heap.size w W0 := by rw [hW0]; exact (((Below.refl _ w).alloc (Nat.le_refl _) _).alloc (by simp) _).alloc (by simp; omega) _
  have c0 : W0.cell? ⟨w.heap.size + 1 + 1, 0, none⟩ = some (.int .u64 (u s.1)) := by rw [hW0]; go_simp
  have c1 : W0.cell? ⟨w.heap.size + 1 + 1, 1, none⟩ = some (.int .u64 (u s.2)) := by rw [hW0]; go_simp
  have bO : Boxed W0 (w.heap.size + 1) 48 (.slice none 0 0) := by
    rw [hW0]
    have := Boxed.new (w.alloc (.cells #[.int .u64 (u s.1), .int .u64 (u s.2)] 24)) 48 (.slice none 0 0)
    rw [World.size_alloc] at this
    exact this.alloc _
  have hT0 := hT.below hb0
  have hV0 := hV.below hb0
  clear hW0
  have hpos : 0 < w.heap.size := World.block_lt_of_cell? _ _ (hT.at' 0 _ rfl)
  refine wpIn_rangeFunc_ownG rfl (by decide) (gf := 23) (lb := #[.pointer (some ⟨w.heap.size + 1 + 1, 0, none⟩)]) rfl trivial (enters_of Tryd.func23 (by kernel_rfl) rfl)
    (each_stops7 4 (by decide) (w.heap.size + 1 + 1) w.heap.size hpos s W0 c0 c1 hT0) belowK_t (belowK_b (by omega)) (Below.refl _ _) (fun _ => rfl)
    (fun pre W => (∃ v, Boxed W (w.heap.size + 1) 48 v ∧ W.ownsRow w.heap.size 9 1 v pre.length (strs (pre.map (·.1))) ∧ (v = .slice none 0 0 ↔ pre = [])) ∧ Below w.heap.size w W)
    (fun _ _ _ => False)
    (OwnFrom.and (Own.from (holdsRow_own w.heap.size (w.heap.size + 1) 48 9 1 (fun pre : List N7 => pre.length) (fun pre => strs (pre.map (·.1))) (fun pre v => v = .slice none 0 0 ↔ pre = [])) _) (ownFrom_below (Nat.le_refl _) (by omega)))
    (fun _ _ _ _ _ hs _ _ => hs)
    ⟨⟨_, bO, World.ownsRow_nil _ _ _ _, by simp⟩, hb0⟩
    (fun x => { tmps := #[.agg #[.int .u64 (u s.1), .int .u64 (u s.2)], .pointer (some ⟨w.heap.size, 0, none⟩), .string ⟨#[]⟩, .pointer (some ⟨w.heap.size + 1, 0, none⟩), .int .i64 x.1, .agg #[.int .u64 (u s.1), .int .u64 (u s.2)], .func (.func 23) #[] #[.pointer (some ⟨w.heap.size + 1 + 1, 0, none⟩)], .int .i64 x.1, undef, undef, undef, undef, undef, undef, undef, undef, undef], defers := [] }) ?assign ?body ?done ?stop
  case assign =>
    intro l x W K hK
    gi_wp2
    exact hK
  case body =>
    rintro l pre x W ⟨⟨v, hv, hrow, hnil⟩, hB⟩ hlt
    have hc := hv.cell
    have hx := x.2
    gi_wp2_with fail
    refine regionIn_ords (L := [[0, 1, 2, 3, 4, 5], [1, 0, 2, 3, 4, 5], [1, 2, 0, 3, 4, 5], [1, 2, 3, 0, 4, 5]]) (by kernel_rfl) (by kernel_rfl) (by kernel_rfl) ?_
    simp only [List.forall_mem_cons, pickO_cons, pickO_nil, nthO_zero, nthO_succ]
    have hBd : Below w.heap.size w W.drew := hB.drew
    have hVd : VarsW W.drew := hV.below hBd
    have hsz := hB.size
    refine ⟨?_, ?_, ?_, ?_, fun _ h => by cases h⟩
    all_goals
      gi_wp2_with (first
        | (refine ⟨trivial, ?_⟩; gi_at_call 34; refine (CallsIn.inRound l (callsIn_wide.2 (Itoa_any x.1 (by omega) (by omega) _ hVd))).mono ?_; rintro e w2 ⟨rfl, hb2⟩; have hv2 := Boxed.below (w := W.drew) hv hb2; have hrow2 := owns_below (w := W.drew) hrow hb2; have hc2 := hv2.cell; have hc2a := (hv2.alloc (.cells #[.string ⟨(itoa x.1).toArray⟩] 9)).cell; have hsz2 : W.heap.size ≤ w2.heap.size := hb2.size; have hB2 := hBd.trans (hb2.mono hBd.size); dsimp only)
        | (gi_at_builtin; refine wpListIn_append_own _ rfl _ _ 48 rfl w.heap.size 9 i0 (.string ⟨#[]⟩) 1 16 Tryd.underlying48 hi hq0 hq1 hq2 rfl (by decide) _ _ _ rfl (hrow2.alloc _) ⟨w2.heap.size, 0, none⟩ 1 1 [.string (bs (itoa x.1))] rfl rfl (cell_one_new _ _ _) (by simp [Value.oneCell']) (by simp [maxLen]; omega) (by omega) (by simp; omega) ?_; intro v' w1 hown' hgrow _; obtain ⟨g', cap', rfl⟩ := ownsRow_succ hown'; obtain ⟨hv3, hv4, hr4, hk4, hb4⟩ := hv2.appended (by decide) hrow2 hB2.size (by omega) hown' hgrow; have hc1 := hv3.cell; have hf1 := hv3.frozen))
      exact ⟨(((KeepsOthers.drew W).trans (keeps_below (w := W.drew) hb2)).trans hk4).from _, (Below.refl _ W).drew.trans ((hb2.mono hBd.size).trans hb4), ⟨_, hv4, by rw [List.map_append, List.map_cons, List.map_nil, strs_append, List.length_append]; exact hr4, by simp⟩, hB2.trans hb4⟩
  case done =>
    rintro D ys W hD hys ⟨⟨v, hv, hrow, hnil⟩, hB⟩ hK
    have hc := hv.cell
    have hlen : ys.length = (eachL s).length := by rw [← hys, List.length_map]
    have hlen2 := eachL_len s
    have hjl := join_len s
    have hwl : (wordsL s).length = (eachL s).length := by simp [wordsL]
    by_cases h0 : eachL s = []
    · obtain rfl : v = .slice none 0 0 := hnil.2 (by cases ys with | nil => rfl | cons _ _ => rw [h0] at hlen; simp at hlen)
      clear hnil
      have hw0 : textL s = [123, 125] := by unfold textL wordsL; rw [h0]; rfl
      gi_wp2_with fail
      refine ⟨trivial, ?_⟩
      refine (callsIn_wide.2 (Any.strings_Join_none Tryd.lays156 Tryd.Builder_Extra_156 none 0 ⟨#[44]⟩ W)).mono ?_
      rintro e w3 ⟨rfl, rfl⟩
      dsimp only
      gi_wp2_with fail
      refine ⟨by simp, .inl ⟨_, _, rfl, run_takeDeferred hK, ?_⟩⟩
      refine ⟨_, results_tmp rfl _ _ _, ?_, hB.trans (belowK_b (w := w) (Nat.le_refl _) _ D _ _ (by omega) hK rfl rfl)⟩
      rw [hw0]
      rfl
    · have hsl := SlR.of_owns hrow
      obtain ⟨h1, h2, a, cap, rfl, h3, h4⟩ := hsl
      rw [hys] at h4 h1
      have hne : strs (eachL s) ≠ [] := by
        intro e
        refine h0 ?_
        cases he : eachL s with
        | nil => rfl
        | cons _ _ => rw [he] at e; simp [strs] at e
      obtain ⟨g, off, rfl, hcell⟩ := h4.resolve_left hne
      have hcap : ys.length ≤ cap := by
        rcases hrow.2 with ⟨e1, _⟩ | ⟨g2, cap2, cur, e1, _, _, e3, _⟩
        · cases e1
        · injection e1 with _ _ e4
          subst e4
          omega
      have hcells : ∀ (j : Nat) x, ((wordsL s).map bs)[j]? = some x → W.cell? ⟨g, off + j, none⟩ = some (.string x) := by
        intro j x hx
        refine hcell j _ ?_
        simp only [wordsL, strs, List.map_map, List.getElem?_map, Option.map_eq_some_iff] at hx ⊢
        obtain ⟨y, h5, rfl⟩ := hx
        exact ⟨y, h5, rfl⟩
      have hjd : ((wordsL s).map bs).map (·.data.toList) = wordsL s := by
        rw [List.map_map]
        conv => rhs; rw [← List.map_id (wordsL s)]
        apply List.map_congr_left
        intro x _
        rfl
      have hgl : g < W.heap.size := by
        cases he : eachL s with
        | nil => exact absurd he h0
        | cons n r => exact World.block_lt_of_cell? _ _ (hcells 0 (bs (itoa n)) (by simp [wordsL, he]))
      have hj := Tryd.strings_Join g off cap ((wordsL s).map bs) ⟨#[44]⟩ W hcells hgl (by rw [List.length_map]; omega) (by rw [List.length_map]; omega) (by rw [hjd]; show (join (wordsL s) [44]).length ≤ _; omega)
      rw [hjd, List.length_map, hwl, show (⟨#[44]⟩ : ByteArray).data.toList = [44] from rfl] at hj
      gi_wp2_with fail
      refine ⟨trivial, ?_⟩
      refine (callsIn_wide.2 hj).mono ?_
      rintro e w3 ⟨rfl, hb3⟩
      dsimp only
      have hK3 := (hb3.block D (Array.getElem?_eq_some_iff.1 hK).1).trans hK
      have hB3 := hB.trans (hb3.mono hB.size)
      gi_wp2_with fail
      refine ⟨by simp, .inl ⟨_, _, rfl, run_takeDeferred hK3, ?_⟩⟩
      refine ⟨_, results_tmp rfl _ _ _, ?_, hB3.trans (belowK_b (w := w) (Nat.le_refl _) _ D _ _ (by omega) hK3 rfl rfl)⟩
      exact congrArg (fun x => Ending.returned (.string x)) (brace_text s)
  case stop =>
    rintro D c pre W _ _ h _
    exact h.elim
end Go.Proofs.YthhinchifegofaaDoor
