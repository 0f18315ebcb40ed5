/- The heap: Nodes. -/
import Derived.Test.YtpapknmkiampgaaF
import Derived.Deep.AppendLies
namespace Go.Proofs.Ytpapknmkiampgaa
open Go.RowKit

/-- The places as a row of cells. -/
def atL (po : Nat → Nat) : List Value := (List.range 128).map fun n => .int .i64 (po n)
theorem atL_len (po : Nat → Nat) : (atL po).length = 128 := by simp [atL]
theorem atL_one (po : Nat → Nat) : ∀ v ∈ atL po, v.oneCell' = true := by
  intro v hv
  simp only [atL, List.mem_map] at hv
  obtain ⟨n, _, rfl⟩ := hv
  rfl
theorem HW.range {w : World} {H : Nat} {v : Value} {es : List En} {po : Nat → Nat} (h : HW w H v es po) : w.rangeAt H 1 (atL po) := by
  intro j u hu
  simp only [atL, List.getElem?_map, Option.map_eq_some_iff] at hu
  obtain ⟨n, hn, rfl⟩ := hu
  have h1 := (List.getElem?_eq_some_iff.1 hn).1
  rw [List.length_range] at h1
  rw [List.getElem?_range h1] at hn
  injection hn with hn
  subst hn
  exact h.at_ j h1
theorem size64 : (Try.prog.info? 64).map (·.size) = some 128 := by kernel_rfl

theorem heap0_ne : ¬ heap0 = #[] := by
  intro h
  have := heap0_zero
  rw [h] at this
  simp at this
theorem heap0_size : heap0.size = 129 := by simp [heap0]
theorem row_ne {H n : Nat} (h : H < n) : (Value.slice (some ⟨n, 0, none⟩) 0 0).ownBlock ≠ some H := by
  simp [Value.ownBlock]
  omega
theorem keep_S {H : Nat} {v : Value} {cs : List Value} {W W' : World} {row : Option Nat} (h : W.cell? ⟨H, 0, none⟩ = some v ∧ W.rangeAt H 1 cs) (hg : W.grownBy W' row) (hr : row ≠ some H) :
    W'.cell? ⟨H, 0, none⟩ = some v ∧ W'.rangeAt H 1 cs :=
  ⟨hg.cell h.1 (by simpa using Ne.symm hr), fun j u hu => hg.cell (h.2 j u hu) (by simpa using Ne.symm hr)⟩

theorem src_alloc {w : World} {ad : Addr} {news : List Value} (h : ∀ j u, news[j]? = some u → w.cell? (ad.add j) = some u) (o : Obj) : ∀ j u, news[j]? = some u → ((w.alloc o).drew).cell? (ad.add j) = some u := by
  intro j u hu
  have := h j u hu
  exact (World.cell?_of_block (w := w) (w' := (w.alloc o).drew) (Below.heap_alloc w o _ (World.block_lt_of_cell? _ _ this))).trans this

/-- The cells of a heap's struct. -/
def heapOf (v : Value) (cs : List Value) : Array Value := List.foldl (fun cs x => cs.setIfInBounds (1 + x.2) x.1) (heap0.setIfInBounds 0 v) cs.zipIdx
theorem fold_set : ∀ (cs : List Value) (k : Nat) (A : Array Value) (j : Nat), j < A.size →
    (List.foldl (fun cs x => cs.setIfInBounds (1 + x.2) x.1) A (cs.zipIdx k))[j]? = if 1 + k ≤ j ∧ j < 1 + k + cs.length then cs[j - (1 + k)]? else A[j]? := by
  intro cs
  induction cs with
  | nil => intro k A j hj; simp; omega
  | cons c cs ih =>
    intro k A j hj
    rw [List.zipIdx_cons, List.foldl_cons, ih (k + 1) _ j (by simpa using hj)]
    by_cases h0 : j = 1 + k
    · subst h0
      rw [if_neg (by omega), if_pos (by simp)]
      simp [hj]
    · by_cases h1 : 1 + (k + 1) ≤ j ∧ j < 1 + (k + 1) + cs.length
      · rw [if_pos h1, if_pos (by simp; omega)]
        rw [show j - (1 + k) = (j - (1 + (k + 1))) + 1 by omega, List.getElem?_cons_succ]
      · rw [if_neg h1, if_neg (by simp; omega), Array.getElem?_setIfInBounds_ne (by omega)]
theorem heapOf_zero (v : Value) (cs : List Value) : (heapOf v cs)[0]? = some v := by
  unfold heapOf
  rw [fold_set cs 0 _ 0 (by simp [heap0_size]), if_neg (by omega)]
  simp [heap0_size]
theorem heapOf_at (v : Value) (cs : List Value) (n : Nat) (h : n < 128) (hl : cs.length = 128) : (heapOf v cs)[1 + n]? = cs[n]? := by
  unfold heapOf
  rw [fold_set cs 0 _ (1 + n) (by simp [heap0_size]; omega), if_pos (by omega)]
  congr 1
  omega

theorem HW.copy {w w1 : World} {gg cap2 : Nat} {es : List En} {po : Nat → Nat} (hlen : es.length ≤ 128) (small : ∀ n, po n ≤ 128) (node : ∀ e ∈ es, e.2 < 128)
    (hown : w1.ownsRow 0 69 2 (.slice (some ⟨gg, 0, none⟩) es.length cap2) es.length (es.flatMap ec)) (hlt : gg < w1.heap.size) (_ : Below w.heap.size w w1) :
    HW (w1.alloc (.cells (heapOf (.slice (some ⟨gg, 0, none⟩) es.length cap2) (atL po)) 66)) w1.heap.size (.slice (some ⟨gg, 0, none⟩) es.length cap2) es po := by
  refine ⟨new_cell w1 _ rfl _ _ 0 _ (heapOf_zero _ _), new_free w1 _ _ _, fun n hn => new_cell w1 _ rfl _ _ _ _ ?_, fun n _ => new_free w1 _ _ _, hown.alloc _, by simp [Value.ownBlock]; omega, hlen, small, node⟩
  rw [heapOf_at _ _ _ hn (atL_len _)]
  simp [atL, hn]

/-- The nodes as they are taken, one behind the other. -/
def popAll : Nat → HS → List Nat
  | 0, _ => []
  | n + 1, t => match t.1[0]?, t.1[t.1.length - 1]? with
    | some a, some b => a.2 :: popAll n (takeS t 0 a b)
    | _, _ => []
theorem down_len (s : HS) (i : Nat) : (downS s i).1.length = s.1.length := by
  induction h : s.1.length - i using Nat.strongRecOn generalizing s i with
  | _ n ih =>
    rw [downS]
    split
    · rename_i hc ha
      split
      · have h1 := kid_gt s.1 i
        have h2 := (List.getElem?_eq_some_iff.1 hc).1
        rw [ih _ (by rw [swS_len]; omega) _ _ rfl, swS_len]
      · rfl
    · rfl
theorem take_len (s : HS) (i : Nat) (a b : En) : (takeS s i a b).1.length = s.1.length - 1 := by
  unfold takeS
  split
  · rw [down_len, up_len]
    simp [swS]
  · simp [swS]
def nodesOf (s : HS) : List Nat := popAll s.1.length s
def natL (l : List Nat) : List Value := ints (l.map fun n : Nat => (n : Int))
theorem natL_len (l : List Nat) : (natL l).length = l.length := by simp [natL, ints]
theorem natL_snoc (l : List Nat) (n : Nat) : natL (l ++ [n]) = natL l ++ ints [(n : Int)] := by simp [natL, ints]

def NodesOk (s : HS) (w : World) (e : Ending) (w' : World) : Prop :=
  ∃ out, e = .returned out ∧ w'.ownsRow w.heap.size 3 1 out (nodesOf s).length (natL (nodesOf s)) ∧ Below w.heap.size w w'
/-- The loop of Nodes. -/
def NodesL (s : HS) (w : World) (C gg B : Nat) (out : Value) (wr : World) : Prop :=
  ∃ (done : List Nat) (t : HS) (v : Value), HW wr C v t.1 t.2 ∧ v.ownBlock = some gg ∧ done ++ popAll t.1.length t = nodesOf s ∧ wr.ownsRow B 3 1 out done.length (natL done) ∧ Below w.heap.size w wr ∧ B ≤ wr.heap.size ∧ done.length + t.1.length ≤ 128
def sliceLen : Value → Nat
  | .slice _ n _ => n
  | _ => 0
theorem own_shape {w : World} {base : Nat} {e : TypeId} {size : Nat} {v : Value} {n : Nat} {xs : List Value} (h : w.ownsRow base e size v n xs) : ∃ a cap, v = .slice a n cap := by
  rcases h.2 with ⟨e, h0⟩ | ⟨g, cap, cur, e, _⟩
  · exact ⟨none, 0, by rw [e, h0]⟩
  · exact ⟨_, _, e⟩
theorem nodes_far {w : World} {B C gg : Nat} {e : TypeId} {size : Nat} {out v : Value} {n : Nat} {xs : List Value} (ho : w.ownsRow B e size out n xs) (hC : C < B) (hg : gg < B) (hv : v.ownBlock = some gg) :
    ∀ k, out.ownBlock = some k → ¬ (k = C ∨ v.ownBlock = some k) := by
  intro k hk hn
  have := (ho.lt k hk).1
  rcases hn with e | e
  · omega
  · rw [hv] at e
    injection e with e
    omega
theorem field69 (x y : Int) (w : World) : (Instr.field 69 (.agg #[.int .i64 x, .int .i64 y]) 1).run Try.prog w = .ok (.int .i64 y) w := by kernel_rfl
theorem info3 : (Try.prog.info? 3).map (fun i => (i.zero, i.size, i.bytes)) = some (some (.int .i64 0), 1, 8) := by kernel_rfl

set_option maxHeartbeats 2000000 in
set_option maxRecDepth 100000 in
theorem nodes_some (H : Nat) (v : Value) (s : HS) (w : World) (h : HW w H v s.1 s.2) (hpos : 0 < s.1.length) :
    Calls Try.prog 13 #[.pointer (some ⟨H, 0, none⟩)] w (NodesOk s w) := by
  obtain ⟨G, cap, rfl, hG, hGl, hcap, hcm, _⟩ := h.row hpos
  have c0 := h.c0
  have hr := h.range
  have hl := atL_len s.2
  have h1 := atL_one s.2
  have hlen := h.len
  have hH := h.lt
  have hsrc := fun j u hu => h.own.cells (g := G) rfl j u hu
  have hel := ec_len s.1
  obtain ⟨cs, hcs⟩ : ∃ cs, Veil (atL s.2 = cs) := ⟨_, ⟨rfl⟩⟩
  rw [hcs.out] at hr hl h1
  have hu := Try.underlying64
  have hi : (Try.prog.info? 64).map (·.size) = some cs.length := by rw [size64, hl]
  obtain ⟨i0, hi0, hz0, hz1, hz2⟩ := info_parts info69
  have hz66 := fun w => zero66 w
  have hne := heap0_ne
  have hsz := heap0_size
  have hmx : s.1.length ≤ maxLen := by unfold maxLen; omega
  have hmb : (0 + s.1.length) * 16 ≤ 140737488355328 := by omega
  go_enter Try.func13, Try.ntmps13
  go_wp2_with fail
  go_region_held3 (fun w' => w'.cell? ⟨H, 0, none⟩ = some (.slice (some ⟨G, 0, none⟩) s.1.length cap) ∧ w'.rangeAt H 1 cs) ((first | exact ⟨c0, hr⟩ | assumption | exact keep_S (by assumption) (World.grownBy_alloc _ _ none) (fun e => by cases e) | exact keep_S (by assumption) hgrow (row_ne hH)))
    ((refine step_append_lies _ (by rfl) _ _ _ (by rfl) 0 69 i0 _ 2 16 Try.underlying63 hi0 hz0 hz1 hz2 rfl (by decide) (.slice (some ⟨w.heap.size, 0, none⟩) 0 0) 0 [] (by rfl) ((World.ownsRow_made w #[] 0 (Nat.zero_le _) (by simp [maxLen]) rfl).drew) ⟨G, 0, none⟩ s.1.length cap (s.1.flatMap ec) (by rfl) hel (src_alloc hsrc _) (by intro u hu; simp only [List.mem_flatMap] at hu; obtain ⟨a, _, ha⟩ := hu; exact ec_one a u ha) hpos (by simpa using hmx) hmb (Nat.zero_le _) (w.heap.size + 1) (by simp) ?_; intro gg cap2 w1 hown1 hgrow hat hlt))
  have hb1 : Below w.heap.size w w1 := ((((Below.refl _ w).alloc (Nat.le_refl _) (.cells #[] 69)).drew).grown hgrow (by show _ ≤ (w.alloc _).heap.size; simp) (fun k hk => by simp [Value.ownBlock] at hk; omega))
  have hW2 := HW.copy (po := s.2) hlen h.small h.node (by simpa using hown1) hlt hb1
  rw [hcs.out] at hW2
  have hgg : w.heap.size ≤ gg := by
    rcases hat with e | e
    · simp [Value.ownBlock] at e; omega
    · omega
  obtain ⟨W2, hw2⟩ : ∃ W2, W2 = w1.alloc (.cells (heapOf (.slice (some ⟨gg, 0, none⟩) s.1.length cap2) cs) 66) := ⟨_, rfl⟩
  have hw2' : w1.alloc (Obj.cells (List.foldl (fun cs x => cs.setIfInBounds (1 + x.2) x.1) (heap0.setIfInBounds 0 (Value.slice (some ⟨gg, 0, none⟩) s.1.length cap2)) cs.zipIdx) 66) = W2 := hw2.symm
  have hb2 : Below w.heap.size w W2 := by rw [hw2]; exact hb1.alloc hb1.size _
  have hCB : w1.heap.size < W2.heap.size := by rw [hw2]; simp
  have hC : w.heap.size ≤ w1.heap.size := hb1.size
  rw [← hw2] at hW2
  rw [hw2']
  generalize w1.heap.size = C at hW2 hCB hC hlt ⊢
  generalize List.foldl (fun cs x => cs.setIfInBounds (1 + x.2) x.1) (heap0.setIfInBounds 0 (Value.slice (some ⟨gg, 0, none⟩) s.1.length cap2)) cs.zipIdx = X
  have hst : NodesL s w C gg W2.heap.size (.slice none 0 0) W2 := ⟨[], s, _, hW2, rfl, rfl, World.ownsRow_nil _ _ _ _, hb2, Nat.le_refl _, by simpa using hlen⟩
  clear hw2 hw2' hown1 hgrow hat hb1 hW2 hr h1 hu hi hne hsz hmx hmb hsrc hel hz66 hcs hl
  have hgB : gg < W2.heap.size := by omega
  clear h c0 hH
  generalize W2.heap.size = B at hst hCB hgB
  go_wp2_with fail
  go_loopw [4] (fun out wr => NodesL s w C gg B out wr) (fun out _ => 128 - sliceLen out)
  case atStart => exact hst
  case round =>
    clear hst hb2
    obtain ⟨done, t, v, hW, hv, hd, ho, hb, hB, hl⟩ := hrel
    obtain ⟨oa, oc, hou⟩ := own_shape ho
    obtain ⟨va, vc, hvv⟩ := own_shape hW.own
    subst hou hvv
    have c0 := hW.c0
    by_cases ht : 0 < t.1.length
    · obtain ⟨a, ha⟩ : ∃ a, Veil (t.1[0]? = some a) := ⟨t.1[0], ⟨List.getElem?_eq_getElem _⟩⟩
      obtain ⟨b, hbb⟩ : ∃ b, Veil (t.1[t.1.length - 1]? = some b) := ⟨t.1[t.1.length - 1]'(by omega), ⟨List.getElem?_eq_getElem _⟩⟩
      have hfd := fun w => field69 a.1 a.2 w
      have HD := Lib.hid hd
      have HV := Lib.hid hv
      clear hd hv
      go_wp2_with fail
      refine (take_at C _ t 0 _ a b _ (by rfl) hW ha.out hbb.out).mono ?_
      rintro e w3 ⟨rfl, hT⟩
      obtain ⟨v3, hW3, hv3, hK3⟩ := hT
      have ho3 := hK3.owns ho (nodes_far ho hCB hgB HV.out)
      have hb3 : Below w.heap.size w w3 := Go.Proofs.Ytpapknmkiampgaa.Below.keep hb hb.size hK3 (by rintro i (e | e); omega; rw [HV.out] at e; injection e with e; omega)
      have hB3 : B ≤ w3.heap.size := Nat.le_trans hB hK3.size
      have hsl : SlR (w3.alloc (.cells #[.int .i64 a.2] 3)) 1 (.slice (some ⟨w3.heap.size, 0, none⟩) 1 1) 1 (ints [(a.2 : Int)]) :=
        ⟨rfl, by simp [maxLen], _, 1, rfl, by simp, .inr ⟨w3.heap.size, 0, rfl, fun j u hu => by rw [Nat.zero_add]; exact new_cell w3 _ rfl _ _ j u (by simpa [ints] using hu)⟩⟩
      go_wp2_with (at_builtin; refine wpList_append_sl rfl _ _ 22 3 rfl B (.int .i64 0) 1 8 Try.underlying22 info3 rfl (by decide) (by decide) (.slice oa done.length oc) _ _ rfl (ho3.alloc _) _ 1 (ints [(a.2 : Int)]) rfl hsl (ints_one _) (by omega) (by simp; omega) ?_; intro v1 w4 hown4 hg4 hat4; obtain ⟨g1, cap1, rfl⟩ := own_form (by omega) hown4)
      refine ⟨⟨done ++ [a.2], takeS t 0 a b, v3, ?_, ?_, ?_, ?_, ?_, ?_, ?_⟩, ?_⟩
      · exact hW3.keep (((Keep.refl (fun _ => False) w3).alloc _ |>.mono (by simp)).grown (S := fun k => (Value.slice oa done.length oc).ownBlock = some k) hg4 (fun k hk => .inl hk))
          (fun e => by have := (ho3.lt C e).1; omega) (fun g h1 h2 => by rw [hv3, HV.out] at h1; injection h1 with h1; have := (ho3.lt g h2).1; omega)
      · rw [hv3]; exact HV.out
      · rw [← HD.out, List.append_assoc]
        congr 1
        obtain ⟨m, hm⟩ : ∃ m, t.1.length = m + 1 := ⟨t.1.length - 1, by omega⟩
        rw [take_len, hm]
        simp only [Nat.add_sub_cancel, popAll, ha.out, List.cons_append, List.nil_append]
        rw [show t.1.length - 1 = m by omega] at hbb
        rw [hm, Nat.add_sub_cancel, hbb.out]
      · have e1 : (done ++ [a.2]).length = done.length + 1 := by simp
        rw [e1, natL_snoc]
        exact hown4
      · exact (hb3.alloc hb3.size _).grown hg4 (by simp; have := hb3.size; omega) (fun k hk => by have := (ho3.lt k hk).1; omega)
      · have := hg4.size
        simp at this
        omega
      · rw [take_len]
        simp
        omega
      · simp only [sliceLen]
        omega
    · go_wp2
      go_ret
      have h0 : t.1.length = 0 := by omega
      rw [h0] at hd
      simp only [popAll, List.append_nil] at hd
      refine ⟨_, rfl, ?_, hb⟩
      rw [← hd]
      obtain ⟨h1, h2⟩ := ho
      refine ⟨h1, ?_⟩
      rcases h2 with h2 | ⟨g, cap', cur, e, hbb, r⟩
      · exact .inl h2
      · exact .inr ⟨g, cap', cur, e, by omega, r⟩

set_option maxHeartbeats 2000000 in
set_option maxRecDepth 100000 in
theorem nodes_none (H : Nat) (v : Value) (s : HS) (w : World) (h : HW w H v s.1 s.2) (h0 : s.1 = []) :
    Calls Try.prog 13 #[.pointer (some ⟨H, 0, none⟩)] w (NodesOk s w) := by
  obtain ⟨a, cap, rfl⟩ := own_shape h.own
  have c0 := h.c0
  have hr := h.range
  have hl := atL_len s.2
  have h1 := atL_one s.2
  have hH := h.lt
  have hN : nodesOf s = [] := by simp [nodesOf, h0, popAll]
  rw [h0] at c0
  simp only [List.length_nil] at c0
  obtain ⟨cs, hcs⟩ : ∃ cs, Veil (atL s.2 = cs) := ⟨_, ⟨rfl⟩⟩
  rw [hcs.out] at hr hl h1
  have hu := Try.underlying64
  have hi : (Try.prog.info? 64).map (·.size) = some cs.length := by rw [size64, hl]
  have hz66 := fun w => zero66 w
  have hne := heap0_ne
  have hsz := heap0_size
  have HN := Lib.hid hN
  clear h h0 hN
  rcases a with _ | a
  · go_enter Try.func13, Try.ntmps13
    go_wp2_with fail
    go_region_held3 (fun w' => w'.cell? ⟨H, 0, none⟩ = some (.slice none 0 cap) ∧ w'.rangeAt H 1 cs) ((first | exact ⟨c0, hr⟩ | assumption | exact keep_S (by assumption) (World.grownBy_alloc _ _ none) (fun e => by cases e))) (fail)
    obtain ⟨W2, hw2⟩ : ∃ W2, W2 = ((w.alloc (.cells #[] 69)).alloc (.cells (heapOf (.slice (some ⟨w.heap.size, 0, none⟩) 0 0) cs) 66)).drew := ⟨_, rfl⟩
    have hw2' : ((w.alloc (Obj.cells #[] 69)).alloc (Obj.cells (List.foldl (fun cs x => cs.setIfInBounds (1 + x.2) x.1) (heap0.setIfInBounds 0 (Value.slice (some ⟨w.heap.size, 0, none⟩) 0 0)) cs.zipIdx) 66)).drew = W2 := hw2.symm
    have hb2 : Below w.heap.size w W2 := by rw [hw2]; exact (((Below.refl _ w).alloc (Nat.le_refl _) _).alloc (by simp) _).drew
    have c2 : W2.cell? ⟨w.heap.size + 1, 0, none⟩ = some (.slice (some ⟨w.heap.size, 0, none⟩) 0 0) := by
      rw [hw2]
      exact new_cell (w.alloc (.cells #[] 69)) (w.heap.size + 1) (by simp) _ _ 0 _ (heapOf_zero _ _)
    rw [hw2']
    clear hw2 hw2' c0 hr hz66 hne hsz hi hu h1 hl hcs
    generalize List.foldl (fun cs x => cs.setIfInBounds (1 + x.2) x.1) (heap0.setIfInBounds 0 (Value.slice (some ⟨w.heap.size, 0, none⟩) 0 0)) cs.zipIdx = X
    go_wp2_with fail
    go_loopw [4] (fun out wr => out = .slice none 0 0 ∧ wr = W2) (fun _ _ => 0)
    case atStart => exact ⟨rfl, rfl⟩
    case round =>
      obtain ⟨rfl, rfl⟩ := hrel
      go_wp2
      go_ret
      refine ⟨_, rfl, ?_, hb2⟩
      rw [HN.out]
      exact World.ownsRow_nil _ _ _ _
  · go_enter Try.func13, Try.ntmps13
    go_wp2_with fail
    go_region_held3 (fun w' => w'.cell? ⟨H, 0, none⟩ = some (.slice (some a) 0 cap) ∧ w'.rangeAt H 1 cs) ((first | exact ⟨c0, hr⟩ | assumption | exact keep_S (by assumption) (World.grownBy_alloc _ _ none) (fun e => by cases e))) (fail)
    obtain ⟨W2, hw2⟩ : ∃ W2, W2 = ((w.alloc (.cells #[] 69)).alloc (.cells (heapOf (.slice (some ⟨w.heap.size, 0, none⟩) 0 0) cs) 66)).drew := ⟨_, rfl⟩
    have hw2' : ((w.alloc (Obj.cells #[] 69)).alloc (Obj.cells (List.foldl (fun cs x => cs.setIfInBounds (1 + x.2) x.1) (heap0.setIfInBounds 0 (Value.slice (some ⟨w.heap.size, 0, none⟩) 0 0)) cs.zipIdx) 66)).drew = W2 := hw2.symm
    have hb2 : Below w.heap.size w W2 := by rw [hw2]; exact (((Below.refl _ w).alloc (Nat.le_refl _) _).alloc (by simp) _).drew
    have c2 : W2.cell? ⟨w.heap.size + 1, 0, none⟩ = some (.slice (some ⟨w.heap.size, 0, none⟩) 0 0) := by
      rw [hw2]
      exact new_cell (w.alloc (.cells #[] 69)) (w.heap.size + 1) (by simp) _ _ 0 _ (heapOf_zero _ _)
    rw [hw2']
    clear hw2 hw2' c0 hr hz66 hne hsz hi hu h1 hl hcs
    generalize List.foldl (fun cs x => cs.setIfInBounds (1 + x.2) x.1) (heap0.setIfInBounds 0 (Value.slice (some ⟨w.heap.size, 0, none⟩) 0 0)) cs.zipIdx = X
    go_wp2_with fail
    go_loopw [4] (fun out wr => out = .slice none 0 0 ∧ wr = W2) (fun _ _ => 0)
    case atStart => exact ⟨rfl, rfl⟩
    case round =>
      obtain ⟨rfl, rfl⟩ := hrel
      go_wp2
      go_ret
      refine ⟨_, rfl, ?_, hb2⟩
      rw [HN.out]
      exact World.ownsRow_nil _ _ _ _
end Go.Proofs.Ytpapknmkiampgaa
