/- Parts of this proof, joined. -/
import Derived.WalkKit
import Derived.WalkSpells
import Derived.WalkLawsBesides
import Derived.Lib.Hide
import Derived.Maps.AppendAt
import Derived.Laws.AppendOwnNone
import Derived.Deep.QuietTactic
import Derived.BigQuiet
import Derived.ProofKit
import Derived.SizedLaws
import Derived.Deep.Slices
import Derived.Deep.Quiet
import Derived.Test.YtpebpfaecdmabaaGreatDoorProg
/- Small laws on worlds, slices that are read, rows that the call owns. No program stands in it. -/
namespace Go.Proofs.YtpebpfaecdmabaaGreatDoor
open Go.RowKit

theorem ret_int {k : IntKind} {a b : Int} (h : a = b) : Ending.returned (.int k a) = .returned (.int k b) := by rw [h]
theorem ret_bool {a b : Bool} (h : a = b) : Ending.returned (.bool a) = .returned (.bool b) := by rw [h]

/-! ### Slices that are read -/
/-- The slice v has n elements of sz cells each; its cells read cs. -/
def SlR (w : World) (sz : Nat) (v : Value) (n : Nat) (cs : List Value) : Prop :=
  cs.length = n * sz ∧ n ≤ maxLen ∧ ∃ a cap, v = .slice a n cap ∧ (a = none → n = 0 ∧ cap = 0) ∧ (cs = [] ∨ ∃ b off, a = some ⟨b, off, none⟩ ∧ ∀ j u, cs[j]? = some u → w.cell? ⟨b, off + j, none⟩ = some u)

theorem SlR.below {w w' : World} {sz : Nat} {v : Value} {n : Nat} {cs : List Value} (h : SlR w sz v n cs) (hb : Below w.heap.size w w') : SlR w' sz v n cs := by
  obtain ⟨h1, h2, a, cap, rfl, h0, h3⟩ := h
  refine ⟨h1, h2, a, cap, rfl, h0, ?_⟩
  rcases h3 with h3 | ⟨b, off, rfl, h3⟩
  · exact .inl h3
  · exact .inr ⟨b, off, rfl, fun j u hu => (hb.cell (World.block_lt_of_cell? w _ (h3 j u hu))).trans (h3 j u hu)⟩

theorem SlR.nil (w : World) (sz : Nat) : SlR w sz (.slice none 0 0) 0 [] := ⟨by simp, by simp [maxLen], none, 0, rfl, fun _ => ⟨rfl, rfl⟩, .inl rfl⟩

theorem SlR.of_owns {w : World} {base : Nat} {e : TypeId} {size : Nat} {v : Value} {n : Nat} {xs : List Value} (h : w.ownsRow base e size v n xs) : SlR w size v n xs := by
  refine ⟨h.1, ?_, ?_⟩
  · rcases h.2 with ⟨_, rfl⟩ | ⟨g, cap, cur, rfl, _, _, h1, h2, _⟩
    · simp [maxLen]
    · exact Nat.le_trans h1 h2
  · rcases h.2 with ⟨rfl, rfl⟩ | ⟨g, cap, cur, rfl, _⟩
    · refine ⟨none, 0, rfl, fun _ => ⟨rfl, rfl⟩, .inl ?_⟩
      have := h.1
      exact List.eq_nil_of_length_eq_zero (by omega)
    · refine ⟨_, cap, rfl, fun e => by simp at e, .inr ⟨g, 0, rfl, fun j u hu => ?_⟩⟩
      have := h.cells (g := g) rfl j u hu
      have hadd : (⟨g, 0, none⟩ : Addr).add j = ⟨g, 0 + j, none⟩ := by unfold Addr.add; split <;> simp_all
      rwa [hadd] at this

theorem Addr.add_at (b off j : Nat) : (⟨b, off, none⟩ : Addr).add j = ⟨b, off + j, none⟩ := by unfold Addr.add; split <;> simp_all

/-- append(v, src...): v a row of the call's own, src a slice that is read. -/
theorem wpList_append_sl {P : Program} {w : World} {ops : Array Oper} {rest : List Oper} {o : Oper} {a : Act} {Q : Exit → Act → World → Prop} (hgd : o.guard = none) (s x : Operand) (t e : TypeId)
    (ho : o.op = .call { callee := .builtin .append, args := #[s, x], argTypes := #[t, t] })
    (base : Nat) (z : Value) (size bytes : Nat) (ht : P.underlying t = some (.slice e)) (hinfo : (P.info? e).map (fun i => (i.zero, i.size, i.bytes)) = some (some z, size, bytes))
    (hzs : z.cells.size = size) (hsz : 0 < size) (hby : 0 < bytes)
    (v : Value) (n : Nat) (xs : List Value) (hs : a.eval s = v) (hown : w.ownsRow base e size v n xs)
    (src : Value) (m : Nat) (news : List Value) (hx : a.eval x = src) (hr : SlR w size src m news) (h1 : ∀ u ∈ news, u.oneCell' = true)
    (hbytes : (n + m) * bytes ≤ 140737488355328) (hbase : base ≤ w.heap.size)
    (h : ∀ v' w', w'.ownsRow base e size v' (n + m) (xs ++ news) → w.grownBy w' v.ownBlock → (v'.ownBlock = v.ownBlock ∨ v'.ownBlock = some w.heap.size) → wpList P ops Q rest (a.put o.dst v') w') :
    wpList P ops Q (o :: rest) a w := by
  obtain ⟨i0, hi, hzz⟩ := Option.map_eq_some_iff.1 hinfo
  simp only [Prod.mk.injEq] at hzz
  obtain ⟨hz0, hz1, hz2⟩ := hzz
  obtain ⟨hl, hm, ad, cap, rfl, h0, hc⟩ := hr
  have hnm : n + m ≤ 140737488355328 := Nat.le_trans (Nat.le_mul_of_pos_right _ hby) hbytes
  rcases ad with _ | ad
  · obtain ⟨rfl, rfl⟩ := h0 rfl
    have hn : news = [] := List.eq_nil_of_length_eq_zero (by simpa using hl)
    subst hn
    refine wpList_append_own_none hgd s x t ho base e i0 size ht hi v n xs hs hown hx ?_
    exact h v w (by simpa using hown) ⟨rfl, rfl, rfl, Nat.le_refl _, fun _ _ _ => rfl⟩ (.inl rfl)
  · refine wpList_append_own_at w hgd s x t ho base e i0 z size bytes ht hi hz0 hz1 hz2 hzs hsz v n xs hs hown ad m cap news hx hl ?_ h1 (by simp only [maxLen]; omega) hbytes hbase ?_
    · intro j u hu
      rcases hc with rfl | ⟨b, off, he, hc⟩
      · simp at hu
      · simp only [Option.some.injEq] at he
        subst he
        rw [Addr.add_at]
        exact hc j u hu
    · intro v' w' h2 h3 _ h5
      exact h v' w' h2 h3 h5

/-! ### Whole numbers -/
def ints (xs : List Int) : List Value := xs.map (.int .i64)
theorem ints_length (xs : List Int) : (ints xs).length = xs.length := by simp [ints]
theorem ints_getElem? (xs : List Int) (k : Nat) (hk : k < xs.length) : (ints xs)[k]? = some (.int .i64 xs[k]) := by simp [ints, hk]
theorem ints_one (xs : List Int) : ∀ u ∈ ints xs, u.oneCell' = true := by
  intro u hu
  simp only [ints, List.mem_map] at hu
  obtain ⟨q, _, rfl⟩ := hu
  rfl
/-- Element k of a slice of numbers. -/
theorem SlR.int_at {w : World} {a : Option Addr} {n cap : Nat} {xs : List Int} (h : SlR w 1 (.slice a n cap) n (ints xs)) (k : Nat) (hk : k < xs.length) :
    ∃ b off, a = some ⟨b, off, none⟩ ∧ w.cell? ⟨b, off + k, none⟩ = some (.int .i64 xs[k]) := by
  obtain ⟨_, _, a', cap', he, _, hc⟩ := h
  injection he with h1 h2 h3
  subst h1
  rcases hc with hc | ⟨b, off, rfl, hc⟩
  · have := ints_length xs; rw [hc] at this; simp at this; omega
  · exact ⟨b, off, rfl, hc _ _ (ints_getElem? xs k hk)⟩
theorem SlR.form {w : World} {sz : Nat} {v : Value} {n : Nat} {cs : List Value} (h : SlR w sz v n cs) : ∃ a cap, v = .slice a n cap ∧ n ≤ 9223372036854775807 ∧ SlR w sz (.slice a n cap) n cs := by
  obtain ⟨h1, h2, a, cap, rfl, h3⟩ := h
  exact ⟨a, cap, rfl, by simp only [maxLen] at h2; omega, h1, h2, a, cap, rfl, h3⟩

/-! ### Regions that draw their order and only read -/
theorem quiet_same {P : Program} {f : FuncId} {args : Array Value} {w : World} {n : Nat} {v : Value}
    (h : Calls P f args (w.drewN n) fun e w' => e = .returned v ∧ w.drewN n = w') : Calls P f args (w.drewN n) fun e w'' => e = .returned v ∧ ∃ m, w'' = w.drewN m :=
  h.mono fun _ _ ⟨he, hm⟩ => ⟨he, n, hm.symm⟩
theorem below_drewN {B : Nat} {w W : World} (h : Below B w W) (n : Nat) : Below B w (W.drewN n) := ⟨h.os, h.tape, h.output, h.size, h.block⟩
theorem SlR.drewN {w : World} {sz : Nat} {v : Value} {n : Nat} {cs : List Value} (h : SlR w sz v n cs) (m : Nat) : SlR (w.drewN m) sz v n cs := h.below (below_drewN (Below.refl _ _) m)
theorem SlR.alloc {w : World} {sz : Nat} {v : Value} {n : Nat} {cs : List Value} (h : SlR w sz v n cs) (o : Obj) : SlR (w.alloc o) sz v n cs := h.below ((Below.refl _ _).alloc (Nat.le_refl _) o)

/-! ### What a call leaves alone -/
/-- All blocks that were there, but those in S, are as they were. -/
structure Keep (S : Nat → Prop) (w w' : World) : Prop where
  os : w'.os = w.os
  tape : w'.tape = w.tape
  output : w'.output = w.output
  size : w.heap.size ≤ w'.heap.size
  block : ∀ k, k < w.heap.size → ¬ S k → w'.heap[k]? = w.heap[k]?
theorem Keep.refl (S : Nat → Prop) (w : World) : Keep S w w := ⟨rfl, rfl, rfl, Nat.le_refl _, fun _ _ _ => rfl⟩
theorem Keep.trans {S : Nat → Prop} {a b c : World} (h : Keep S a b) (k : Keep S b c) : Keep S a c :=
  ⟨k.os.trans h.os, k.tape.trans h.tape, k.output.trans h.output, Nat.le_trans h.size k.size, fun i hi hs => (k.block i (Nat.lt_of_lt_of_le hi h.size) hs).trans (h.block i hi hs)⟩
theorem Keep.mono {S S' : Nat → Prop} {w w' : World} (h : Keep S w w') (hs : ∀ k, k < w.heap.size → S k → S' k) : Keep S' w w' :=
  ⟨h.os, h.tape, h.output, h.size, fun k hk hn => h.block k hk fun hS => hn (hs k hk hS)⟩
theorem Keep.of_below {S : Nat → Prop} {w w' : World} (h : Below w.heap.size w w') : Keep S w w' := ⟨h.os, h.tape, h.output, h.size, fun k hk _ => h.block k hk⟩
theorem Keep.below {S : Nat → Prop} {B : Nat} {w w' : World} (h : Keep S w w') (hS : ∀ k, k < B → k < w.heap.size ∧ ¬ S k) : Below B w w' := ⟨h.os, h.tape, h.output, h.size, fun k hk => h.block k (hS k hk).1 (hS k hk).2⟩
theorem Keep.drewN {S : Nat → Prop} {w w' : World} (h : Keep S w w') (n : Nat) : Keep S w (w'.drewN n) := ⟨h.os, h.tape, h.output, h.size, h.block⟩
theorem Keep.alloc {S : Nat → Prop} {w w' : World} (h : Keep S w w') (o : Obj) : Keep S w (w'.alloc o) :=
  h.trans ⟨rfl, rfl, rfl, by simp, fun k hk _ => Below.heap_alloc _ _ _ hk⟩
theorem Keep.setCell {S : Nat → Prop} {w w' : World} (h : Keep S w w') (p : Addr) (v : Value) (hp : S p.block ∨ w.heap.size ≤ p.block) : Keep S w (w'.setCell p v) := by
  refine ⟨h.os, h.tape, h.output, by simpa [World.setCell] using h.size, fun k hk hs => ?_⟩
  rw [Below.heap_setCell _ _ _ _ (fun e => by subst e; rcases hp with hp | hp; exact hs hp; omega)]
  exact h.block k hk hs
theorem Keep.grown {S : Nat → Prop} {w w1 w2 : World} {row : Option Nat} (h : Keep S w w1) (hg : w1.grownBy w2 row) (hr : ∀ k, row = some k → S k ∨ w.heap.size ≤ k) : Keep S w w2 := by
  refine ⟨hg.os.trans h.os, hg.tape.trans h.tape, hg.output.trans h.output, Nat.le_trans h.size hg.size, fun k hk hs => ?_⟩
  rw [hg.block k (Nat.lt_of_lt_of_le hk h.size) (fun e => by rcases hr k e.symm with h1 | h1; exact hs h1; omega)]
  exact h.block k hk hs
theorem Keep.setObj {S : Nat → Prop} {w w' : World} (h : Keep S w w') (M : Nat) (o : Obj) (hp : S M ∨ w.heap.size ≤ M) : Keep S w { w' with heap := w'.heap.setIfInBounds M o } := by
  refine ⟨h.os, h.tape, h.output, by simpa using h.size, fun k hk hs => ?_⟩
  have hne : M ≠ k := fun e => by subst e; rcases hp with hp | hp; exact hs hp; omega
  simp only [Array.getElem?_setIfInBounds, if_neg hne]
  exact h.block k hk hs
theorem set_alloc (w : World) (o o' : Obj) : ({ w.alloc o with heap := (w.alloc o).heap.setIfInBounds w.heap.size o' } : World) = w.alloc o' := by
  have : (w.heap.push o).setIfInBounds w.heap.size o' = w.heap.push o' := by
    apply Array.ext_getElem?
    intro k
    simp only [Array.getElem?_setIfInBounds, Array.getElem?_push, Array.size_push]
    split <;> split <;> simp_all
  show ({ w with heap := (w.heap.push o).setIfInBounds w.heap.size o' } : World) = { w with heap := w.heap.push o' }
  rw [this]

theorem Keep.cell {S : Nat → Prop} {w w' : World} (h : Keep S w w') {a : Addr} {v : Value} (hc : w.cell? a = some v) (hs : ¬ S a.block) : w'.cell? a = some v :=
  (World.cell?_of_block (h.block a.block (World.block_lt_of_cell? w a hc) hs)).trans hc
theorem Keep.unfrozen {S : Nat → Prop} {w w' : World} (h : Keep S w w') {a : Addr} {b : Bool} (hb : a.block < w.heap.size) (hf : w.frozen? a = b) (hs : ¬ S a.block) : w'.frozen? a = b :=
  (World.frozen?_of_block (h.block a.block hb hs)).trans hf
theorem Keep.owns {S : Nat → Prop} {w w' : World} (h : Keep S w w') {base : Nat} {e : TypeId} {size : Nat} {v : Value} {n : Nat} {xs : List Value} (ho : w.ownsRow base e size v n xs) (hs : ∀ k, v.ownBlock = some k → ¬ S k) : w'.ownsRow base e size v n xs := by
  have hlt := ho.lt
  obtain ⟨h1, h2⟩ := ho
  refine ⟨h1, ?_⟩
  rcases h2 with h2 | ⟨g, cap, cur, rfl, hb, hh, r⟩
  · exact .inl h2
  · exact .inr ⟨g, cap, cur, rfl, hb, (h.block g (hlt g rfl).2 (hs g rfl)).trans hh, r⟩
theorem Keep.obj {S : Nat → Prop} {w w' : World} (h : Keep S w w') {k : Nat} {o : Obj} (ho : w.heap[k]? = some o) (hs : ¬ S k) : w'.heap[k]? = some o :=
  (h.block k (Array.getElem?_eq_some_iff.1 ho).1 hs).trans ho
/-- A row that is owned lies in cells of its element type. -/
theorem owns_cells {w : World} {base : Nat} {e : TypeId} {size : Nat} {g n cap : Nat} {xs : List Value} (ho : w.ownsRow base e size (.slice (some ⟨g, 0, none⟩) n cap) n xs) : ∃ cur, w.heap[g]? = some (.cells cur e (0, 0)) := by
  rcases ho.2 with ⟨h, _⟩ | ⟨g', cap', cur, he, hb, hh, r⟩
  · cases h
  · injection he with he1 he2 he3
    injection he1 with he1
    injection he1 with he1
    subst he1
    exact ⟨cur, hh⟩

/-- A cell of a box that was laid ahead of a call, behind the call, and behind one more box. -/
theorem box_cell {w1 w2 : World} {cs : Array Value} {t : TypeId} (hb : Below (w1.alloc (.cells cs t)).heap.size (w1.alloc (.cells cs t)) w2) (j : Nat) (v : Value) (hv : cs[j]? = some v) : w2.cell? ⟨w1.heap.size, j, none⟩ = some v := by
  rw [hb.cell (p := ⟨w1.heap.size, j, none⟩) (by simp)]
  simp only [World.cell?, heap_alloc_new]
  simpa using hv
theorem box_cell' {w1 w2 : World} {cs : Array Value} {t : TypeId} (hb : Below (w1.alloc (.cells cs t)).heap.size (w1.alloc (.cells cs t)) w2) (j : Nat) (v : Value) (hv : cs[j]? = some v) (o : Obj) : (w2.alloc o).cell? ⟨w1.heap.size, j, none⟩ = some v := by
  have := box_cell hb j v hv
  rw [World.cell?_alloc_past _ _ _ (World.block_lt_of_cell? _ _ this)]
  exact this

/-- A call that writes to blocks from B on alone. -/
theorem Below.keep {B : Nat} {S : Nat → Prop} {w w1 w2 : World} (h : Below B w w1) (hB : B ≤ w1.heap.size) (k : Keep S w1 w2) (hS : ∀ i, S i → B ≤ i) : Below B w w2 :=
  h.trans (k.below fun i hi => ⟨Nat.lt_of_lt_of_le hi hB, fun hs => by have := hS i hs; omega⟩)
end Go.Proofs.YtpebpfaecdmabaaGreatDoor
/- Opening what a law's arguments read as. No program stands in it. -/
namespace Go.Proofs.YtpebpfaecdmabaaGreatDoor
open Go.RowKit Go.ChangeShapes Go.WideShapes Go.ChangeAt

theorem chunk_of_flatMap {α : Type} (F : Nat → List α) (sz n : Nat) (hF : ∀ i, i < n → (F i).length = sz) : ∀ i, i < n → (((List.range n).flatMap F).drop (i * sz)).take sz = F i := by
  have key : ∀ (m : Nat) (G : Nat → List α), (∀ i, i < m → (G i).length = sz) → ∀ i, i < m → (((List.range m).flatMap G).drop (i * sz)).take sz = G i := by
    intro m
    induction m with
    | zero => intro G _ i hi; omega
    | succ m ih =>
      intro G hG i hi
      rw [List.range_succ_eq_map, List.flatMap_cons, List.flatMap_map]
      cases i with
      | zero => simp [hG 0 (by omega)]
      | succ i =>
        have h0 := hG 0 (by omega)
        rw [List.drop_append, List.drop_of_length_le (by rw [h0, Nat.succ_mul]; omega), List.nil_append]
        rw [h0, show (i + 1) * sz - sz = i * sz by rw [Nat.succ_mul]; omega]
        exact ih (fun i => G (i + 1)) (fun j hj => hG (j + 1) (by omega)) i (by omega)
  exact key n F hF

theorem length_flatMap_range {α : Type} (F : Nat → List α) (sz n : Nat) (hF : ∀ i, i < n → (F i).length = sz) : ((List.range n).flatMap F).length = n * sz := by
  induction n with
  | zero => simp
  | succ n ih =>
    rw [List.range_succ, List.flatMap_append, List.length_append, ih (fun i hi => hF i (by omega))]
    simp [hF n (by omega), Nat.succ_mul]

/-- A slice of whatever elements (of sz cells each), opened. -/
theorem open_sl {H : Type} {enc : TypeId × Value → H} {P : Program} {W : World} {t e sz : Nat} {b : Nat} {v : Value} {d : DataW H} {p : List MemPlace} (ht : P.underlying t = some (.slice e)) (hc : P.cellsOf e = sz) (hsz : 0 < sz)
    (hok : Value.okWide P W .any b t v) (h : DataW.Trod enc P W 0 (fun _ => true) true t v d p) :
    ∃ n cs, SlR W sz v n cs ∧ (∀ i, i < n → ∃ fuel x, DataW.trod enc P W 0 (fun _ => true) true fuel e ((cs.drop (i * sz)).take sz) = some x) ∧ ((n = 0 ∧ d = .nil) ∨ ∃ elems sp, d = .slice elems sp ∧ elems.length = n) := by
  obtain ⟨a, len, cap, rfl⟩ := okWide_slice ht hok
  obtain ⟨fuel, hf⟩ := h
  rcases Deep.open_slice ht hf with ⟨hcs, hx⟩ | ⟨a', len', cap', m, k, D, Pl, hcs, _, hl, hm, hmm, hx, hel⟩
  · simp [Value.cells] at hcs
    obtain ⟨rfl, rfl, rfl⟩ := hcs
    simp only [Prod.mk.injEq] at hx
    exact ⟨0, [], SlR.nil _ _, fun i hi => by omega, .inl ⟨rfl, hx.1⟩⟩
  · simp [Value.cells] at hcs
    obtain ⟨rfl, rfl, rfl⟩ := hcs
    simp only [if_true] at hmm
    subst hmm
    rw [hc] at hel
    have hel' : ∀ i, i < m → ∃ cs', W.cells? 0 (a'.add (i * sz)) sz = some cs' ∧ DataW.trod enc P W 0 (fun _ => true) true k e cs' = some (D i, Pl i) := hel
    obtain ⟨F, hF⟩ := Deep.choose_lt (p := fun i cs' => W.cells? 0 (a'.add (i * sz)) sz = some cs' ∧ DataW.trod enc P W 0 (fun _ => true) true k e cs' = some (D i, Pl i)) hel'
    have hlen : ∀ i, i < len → (F i).length = sz := fun i hi => (World.cells?_some (hF i (by omega)).1).2.1
    refine ⟨len, (List.range len).flatMap F, ⟨length_flatMap_range F sz len hlen, by omega, some a', m, rfl, fun h => by simp at h, ?_⟩, ?_, .inr ⟨_, _, by simp only [Prod.mk.injEq] at hx; exact hx.1, by simp⟩⟩
    · by_cases h0 : len = 0
      · left; subst h0; rfl
      · right
        have hc0 := (World.cells?_some (hF 0 (by omega)).1).2.2 0 hsz
        have hspot : a'.spot = none := by
          have h1 : ∃ u, W.cell? a' = some u := by
            have : (F 0)[0]? ≠ none := by simp [hlen 0 (by omega)]; omega
            obtain ⟨u, hu⟩ := Option.ne_none_iff_exists'.1 this
            exact ⟨u, by rw [← hu, ← hc0]; simp [Addr.add]⟩
          obtain ⟨u, hu⟩ := h1
          unfold World.cell? at hu
          split at hu
          · split at hu
            · simp at hu
            · rename_i h; simpa using h
          · simp at hu
        obtain ⟨bb, off, sp⟩ := a'
        simp only at hspot
        subst hspot
        refine ⟨bb, off, rfl, fun j u hu => ?_⟩
        have hjl : j < len * sz := by
          have := (List.getElem?_eq_some_iff.1 hu).1
          rwa [length_flatMap_range F sz len hlen] at this
        have hi : j / sz < len := Nat.div_lt_of_lt_mul (by rw [Nat.mul_comm]; exact hjl)
        have hm2 : j % sz < sz := Nat.mod_lt _ hsz
        have hch := chunk_of_flatMap F sz len hlen (j / sz) hi
        have hF' := (World.cells?_some (hF (j / sz) (by omega)).1).2.2 (j % sz) hm2
        have hju : (F (j / sz))[j % sz]? = some u := by
          rw [← hch, List.getElem?_take, if_pos hm2, List.getElem?_drop, ← hu]
          congr 1
          rw [Nat.mul_comm]; exact Nat.div_add_mod j sz
        rw [hju, Deep.add_add, Addr.add_at] at hF'
        rw [← hF']
        congr 3
        rw [Nat.mul_comm]; exact (Nat.div_add_mod j sz).symm
    · intro i hi
      rw [chunk_of_flatMap F sz len hlen i hi]
      exact ⟨k, _, (hF i (by omega)).2⟩

theorem flatMap_one (xs : List Int) : xs.flatMap (fun x => [Value.int .i64 x]) = ints xs := by
  induction xs with
  | nil => rfl
  | cons x l ih => simp only [List.flatMap_cons, ih]; rfl

/-- From chunks to a list of structures. -/
theorem list_of_chunks {α : Type} (enc : α → List Value) (good : α → Prop) (sz : Nat) : ∀ (n : Nat) (cs : List Value), cs.length = n * sz → (∀ i, i < n → ∃ x, (cs.drop (i * sz)).take sz = enc x ∧ good x) → ∃ xs : List α, xs.length = n ∧ cs = xs.flatMap enc ∧ ∀ x ∈ xs, good x := by
  intro n
  induction n with
  | zero => intro cs hl _; exact ⟨[], rfl, List.eq_nil_of_length_eq_zero (by simpa using hl), by simp⟩
  | succ n ih =>
    intro cs hl h
    obtain ⟨x, hx, hg⟩ := h 0 (by omega)
    obtain ⟨xs, h1, h2, h3⟩ := ih (cs.drop sz) (by rw [List.length_drop, hl, Nat.succ_mul]; omega) (fun i hi => by
      obtain ⟨y, hy, hgy⟩ := h (i + 1) (by omega)
      exact ⟨y, by rw [List.drop_drop, ← hy, Nat.succ_mul, Nat.add_comm], hgy⟩)
    refine ⟨x :: xs, by simp [h1], ?_, ?_⟩
    · rw [List.flatMap_cons, ← h2, ← hx]; simp
    · intro y hy
      rcases List.mem_cons.1 hy with rfl | hy
      · exact hg
      · exact h3 y hy

theorem u16_nat {a : Int} (h : (Lit.int .u16 a).wf = true) : ∃ m : Nat, a = m ∧ m ≤ 65535 := by
  have h1 : IntKind.u16.min = 0 := rfl
  have h2 : IntKind.u16.max = 65535 := rfl
  simp only [Lit.wf, Bool.and_eq_true, decide_eq_true_eq, h1, h2] at h
  exact ⟨a.toNat, by omega, by omega⟩
theorem u8_nat {a : Int} (h : (Lit.int .u8 a).wf = true) : ∃ m : Nat, a = m ∧ m ≤ 255 := by
  have h1 : IntKind.u8.min = 0 := rfl
  have h2 : IntKind.u8.max = 255 := rfl
  simp only [Lit.wf, Bool.and_eq_true, decide_eq_true_eq, h1, h2] at h
  exact ⟨a.toNat, by omega, by omega⟩
theorem i64_bd {a : Int} (h : (Lit.int .i64 a).wf = true) : -9223372036854775808 ≤ a ∧ a ≤ 9223372036854775807 := by
  have h1 : IntKind.i64.min = -9223372036854775808 := rfl
  have h2 : IntKind.i64.max = 9223372036854775807 := rfl
  simp only [Lit.wf, Bool.and_eq_true, decide_eq_true_eq, h1, h2] at h
  exact h
end Go.Proofs.YtpebpfaecdmabaaGreatDoor
/- Regions that draw their order, whose operations only read, and whose callees at most make memory: one walk in the order of the text. No program stands in it. -/
namespace Go.Proofs.YtpebpfaecdmabaaGreatDoor
open Go.RowKit

/-- The worlds that extend a world: all that was there is as it was. -/
structure ExtW (w : World) where
  out : World
  ext : Below w.heap.size w out
instance (w : World) : Nonempty (ExtW w) := ⟨⟨w, Below.refl _ _⟩⟩
/-- The world itself. -/
def exw {w : World} (n : ExtW w) : World := n.out
theorem exw_below {w : World} (n : ExtW w) : Below w.heap.size w (exw n) := n.ext
theorem exw_cell {w : World} {a : Addr} {v : Value} (h : w.cell? a = some v) (n : ExtW w) : (exw n).cell? a = some v :=
  (n.ext.cell (World.block_lt_of_cell? w a h)).trans h
theorem exw_sl {w : World} {sz : Nat} {v : Value} {m : Nat} {cs : List Value} (h : SlR w sz v m cs) (n : ExtW w) : SlR (exw n) sz v m cs := h.below n.ext

theorem region_ext {P : Program} {id : Nat} {Q : Exit → Act → World → Prop} {a : Act} {w : World} {l : List Oper} (hm : P.follows .mixedOrders = true) (hB : Region.lexB .any l.toArray = true)
    (h : wpQuiet P l.toArray (fun w' => ∃ n : ExtW w, w' = exw n) (fun a' => ∀ w', (∃ n : ExtW w, w' = exw n) → Q .normal a' w') l a) : (Code.region id l.toArray true).wp P Q a w :=
  wp_region_quiet (C := fun w' => ∃ n : ExtW w, w' = exw n) hm hB ⟨⟨_, (Below.refl _ w).drew⟩, rfl⟩ (by simpa using h)

/-- A callee that at most makes memory. -/
theorem ext_call {P : Program} {f : FuncId} {args : Array Value} {w : World} {n : ExtW w} {v : Value}
    (h : Calls P f args (exw n) fun e w' => e = .returned v ∧ Below (exw n).heap.size (exw n) w') : Calls P f args (exw n) fun e w'' => e = .returned v ∧ ∃ m : ExtW w, w'' = exw m :=
  h.mono fun _ w' ⟨he, hm⟩ => ⟨he, ⟨w', n.ext.trans (hm.mono n.ext.size)⟩, rfl⟩
theorem ext_same {P : Program} {f : FuncId} {args : Array Value} {w : World} {n : ExtW w} {v : Value}
    (h : Calls P f args (exw n) fun e w' => e = .returned v ∧ exw n = w') : Calls P f args (exw n) fun e w'' => e = .returned v ∧ ∃ m : ExtW w, w'' = exw m :=
  h.mono fun _ w' ⟨he, hm⟩ => ⟨he, n, hm.symm⟩
end Go.Proofs.YtpebpfaecdmabaaGreatDoor
/- Graphs of nodes alone: the small functions. -/
namespace Go.Proofs.YtpebpfaecdmabaaGreatDoor
open Go.RowKit

theorem in_any (n : Int) (w : World) : Calls Tryz.prog 90 #[.int .i64 n] w fun e w' => e = .returned (.bool (decide (0 ≤ n) && decide (n ≤ 127))) ∧ w = w' := by
  go_enter Tryz.func90, Tryz.ntmps90
  by_cases h : 0 ≤ n
  all_goals
    go_wp2
    go_ret
    exact ⟨ret_bool (by first | (simp [h]; done) | (simp; omega)), rfl⟩
/-- The word of the number nought, closed to the walk. -/
def fz : Nat := 0
theorem geq_fz : (FloatKind.f64.format.order fz 13920626448202203136 == some .gt || FloatKind.f64.format.order fz 13920626448202203136 == some .eq) = true := by decide +kernel
theorem leq_fz : (FloatKind.f64.format.order fz 4697254411347427328 == some .lt || FloatKind.f64.format.order fz 4697254411347427328 == some .eq) = true := by decide +kernel
theorem conv_fz (w : World) : (convert 151 3 (.float .f64 fz)).run Tryz.prog w = .ok (.int .i64 0) w :=
  run_convert_float_int w 151 3 .f64 .i64 fz 0 (by kernel_rfl) Tryz.underlying3 (by decide +kernel)
theorem back_fz : floatOfInt .f64 0 = fz := by decide +kernel
theorem self_fz : (FloatKind.f64.format.order fz fz == some .eq) = true := by decide +kernel
theorem whole_fz (w : World) : Calls Tryz.prog 105 #[.float .f64 fz] w fun e w' => e = .returned (.bool true) ∧ w = w' := by
  have h1 := geq_fz
  have h2 := leq_fz
  have h3 := conv_fz
  have h4 := back_fz
  have h5 := self_fz
  go_enter Tryz.func105, Tryz.ntmps105
  go_wp2
  go_ret
  exact ⟨rfl, rfl⟩
theorem Ok_fz (w : World) : Calls Tryz.prog 97 #[.complex .f64 fz fz] w fun e w' => e = .returned (.bool true) ∧ w = w' := by
  go_enter Tryz.func97, Tryz.ntmps97
  go_wp2_with (go_at_call 105; refine (whole_fz _).mono ?_; rintro e w' ⟨rfl, rfl⟩)
  go_ret
  exact ⟨rfl, rfl⟩
theorem Ok_zero (w : World) : Calls Tryz.prog 97 #[.complex .f64 0 0] w fun e w' => e = .returned (.bool true) ∧ w = w' := Ok_fz w
theorem add_fz : floatBits .add .f64 fz 0 = some fz := by decide +kernel
theorem add_fz_run (w : World) : (binOp .add 151 (.float .f64 fz) (.float .f64 0)).run Tryz.prog w = .ok (.float .f64 fz) w := by
  kernel_rfl
theorem plain_fz (w : World) : Calls Tryz.prog 81 #[.complex .f64 fz fz] w fun e w' => e = .returned (.complex .f64 fz fz) ∧ w = w' := by
  have h1 := add_fz_run
  go_enter Tryz.func81, Tryz.ntmps81
  go_wp2
  go_ret
  exact ⟨rfl, rfl⟩
theorem plain_zero (w : World) : Calls Tryz.prog 81 #[.complex .f64 0 0] w fun e w' => e = .returned (.complex .f64 0 0) ∧ w = w' := plain_fz w
theorem isNaN_any (n : Int) (w : World) : Calls Tryz.prog 37 #[.int .i64 n] w fun e w' => e = .returned (.bool false) ∧ w = w' := by
  have h : (n != n) = false := by simp
  go_enter Tryz.func37, Tryz.ntmps37
  go_wp2
  go_ret
  exact ⟨rfl, rfl⟩
def cmpI (a b : Int) : Int := if a < b then -1 else if b < a then 1 else 0
theorem Compare_any (a b : Int) (w : World) : Calls Tryz.prog 26 #[.int .i64 a, .int .i64 b] w fun e w' => e = .returned (.int .i64 (cmpI a b)) ∧ w = w' := by
  go_enter Tryz.func26, Tryz.ntmps26
  go_wp2_with (go_at_call 37; refine (isNaN_any _ _).mono ?_; rintro e w' ⟨rfl, rfl⟩)
  all_goals
    go_ret
    exact ⟨ret_int (by unfold cmpI; repeat' split <;> omega), rfl⟩
end Go.Proofs.YtpebpfaecdmabaaGreatDoor
/- Graphs of nodes alone: nodes in a row; the place of a new node. -/
namespace Go.Proofs.YtpebpfaecdmabaaGreatDoor
open Go.RowKit

/-- A node at nought. -/
def nd (n : Nat) : List Value := [.int .i64 n, .bool false, .complex .f64 0 0]
theorem nd_at (os : List Nat) : ∀ (i : Nat) (hi : i < os.length) (j : Nat), j < 3 → (os.flatMap nd)[i * 3 + j]? = (nd os[i])[j]? := by
  induction os with
  | nil => intro i hi; simp at hi
  | cons o os ih =>
    intro i hi j hj
    rw [List.flatMap_cons]
    cases i with
    | zero =>
      rw [List.getElem?_append_left (by simp [nd]; omega)]
      simp
    | succ i =>
      rw [List.getElem?_append_right (by simp [nd]; omega)]
      have := ih i (by simpa using hi) j hj
      simp only [List.getElem_cons_succ]
      rw [← this]
      congr 1
      simp [nd]
      omega
theorem nd_len (os : List Nat) : (os.flatMap nd).length = os.length * 3 := by
  induction os with
  | nil => rfl
  | cons o os ih => rw [List.flatMap_cons, List.length_append, ih]; simp [nd]; omega
theorem store_c (w : World) (a : Addr) : (store a (.complex .f64 0 0)).run Tryz.prog w = stored Tryz.prog w a (.complex .f64 0 0) .plain := run_store Tryz.prog w a _ _ rfl
/-- v reads as the nodes ids. -/
def NS (w : World) (v : Value) (ids : List Nat) : Prop := SlR w 3 v ids.length (ids.flatMap nd)
theorem NS.below {w w' : World} {v : Value} {ids : List Nat} (h : NS w v ids) (b : Below w.heap.size w w') : NS w' v ids := SlR.below h b
theorem NS.at_ {w : World} {a : Option Addr} {n cap : Nat} {os : List Nat} (h : NS w (.slice a n cap) os) (i : Nat) (hi : i < os.length) :
    ∃ b off, a = some ⟨b, off, none⟩ ∧ w.cell? ⟨b, off + i * 3, none⟩ = some (.int .i64 (os[i] : Nat)) ∧ w.cell? ⟨b, off + i * 3 + 1, none⟩ = some (.bool false) ∧ w.cell? ⟨b, off + i * 3 + 2, none⟩ = some (.complex .f64 0 0) := by
  obtain ⟨_, _, a', cap', he, _, hc⟩ := h
  injection he with e1 e2 e3
  subst e1
  rcases hc with hc | ⟨b, off, rfl, hc⟩
  · have := nd_at os i hi 0 (by omega)
    rw [hc] at this
    simp [nd] at this
  · have q : ∀ j, j < 3 → w.cell? ⟨b, off + i * 3 + j, none⟩ = (nd os[i])[j]? := by
      intro j hj
      have h1 := nd_at os i hi j hj
      obtain ⟨x, hx⟩ : ∃ x, (nd os[i])[j]? = some x := ⟨(nd os[i])[j]'(by simp [nd]; omega), List.getElem?_eq_getElem _⟩
      rw [hx] at h1 ⊢
      have := hc _ _ h1
      rwa [← Nat.add_assoc] at this
    exact ⟨b, off, rfl, q 0 (by omega), q 1 (by omega), q 2 (by omega)⟩
theorem NS.len {w : World} {a : Option Addr} {n cap : Nat} {os : List Nat} (h : NS w (.slice a n cap) os) : n = os.length := by
  obtain ⟨_, _, a', cap', he, _, hc⟩ := h
  injection he with e1 e2 e3
theorem NS.form {w : World} {v : Value} {os : List Nat} (h : NS w v os) : ∃ a cap, v = .slice a os.length cap ∧ os.length ≤ 9223372036854775807 ∧ NS w (.slice a os.length cap) os := SlR.form h
theorem NS.nil (w : World) : NS w (.slice none 0 0) [] := SlR.nil w 3
def kO : Value → Int
  | .int _ n => n
  | _ => 0
theorem compareNode_any (n : Nat) (b : Bool) (c : Value) (t : Int) (w : World) (hc : c = .complex .f64 0 0) : Calls Tryz.prog 92 #[.agg #[.int .i64 n, .bool b, c], .int .i64 t] w fun e w' => e = .returned (.int .i64 (cmpI n t)) ∧ Below w.heap.size w w' := by
  subst hc
  go_enter Tryz.func92, Tryz.ntmps92
  go_wp2_with (go_at_call 26; refine (Compare_any _ _ _).mono ?_; rintro e w' ⟨rfl, rfl⟩)
  go_ret
  exact ⟨rfl, (Below.refl _ w).alloc (Nat.le_refl _) _⟩
set_option maxHeartbeats 2000000 in
theorem search_any (v : Value) (ids : List Nat) (t : Nat) (w : World) (h : NS w v ids) (hl : ids.length ≤ 128) (ht : ∀ x ∈ ids, x < t) :
    Calls Tryz.prog 91 #[v, .int .i64 t, .func (.func 92) #[] #[]] w fun e w' => e = .returned (.tuple #[.int .i64 ids.length, .bool false]) ∧ Below w.heap.size w w' := by
  obtain ⟨a, cap, rfl, hm, hc⟩ := h.form
  go_enter Tryz.func91, Tryz.ntmps91
  go_wp2_with fail
  go_loopw [9, 10] (fun x y wr => ∃ i : Nat, x = .int .i64 i ∧ y = .int .i64 ids.length ∧ i ≤ ids.length ∧ Below w.heap.size w wr) (fun x _ _ => ids.length - (kO x).toNat)
  case atStart => exact ⟨0, rfl, rfl, Nat.zero_le _, Below.refl _ _⟩
  case round =>
    obtain ⟨i, rfl, rfl, hi, hb⟩ := hrel
    by_cases hlt : i < ids.length
    · have hh : (i + ids.length) / 2 < ids.length := by omega
      obtain ⟨b, off, rfl, q0, q1, q2⟩ := (hc.below hb).at_ ((i + ids.length) / 2) hh
      have ht' := ht ids[(i + ids.length) / 2] (List.getElem_mem hh)
      generalize ids[(i + ids.length) / 2] = n at q0 ht'
      have hcm : cmpI n t = -1 := by unfold cmpI; rw [if_pos (by omega)]
      go_wp2_with fail
      refine (compareNode_any n _ _ t _ rfl).mono ?_
      rintro e w2 ⟨rfl, hb2⟩
      rw [hcm]
      go_wp2_with fail
      go_roundw
      case rel => exact ⟨(i + ids.length) / 2 + 1, by go_num, rfl, by omega, hb.trans (hb2.mono hb.size)⟩
      case measure => simp [kO]; omega
    · have e : i = ids.length := by omega
      subst e
      go_wp2_with fail
      go_ret2
      exact ⟨rfl, hb⟩
/-- A graph's value. -/
def gv (v : Value) : Value := .agg #[v, .slice none 0 0, .slice none 0 0]
set_option maxHeartbeats 2000000 in
theorem nodeAt_any (v : Value) (ids : List Nat) (t : Nat) (w : World) (h : NS w v ids) (hl : ids.length ≤ 128) (ht : ∀ x ∈ ids, x < t) :
    Calls Tryz.prog 80 #[.agg #[v, .slice none 0 0, .slice none 0 0], .int .i64 t] w fun e w' => e = .returned (.tuple #[.int .i64 ids.length, .bool false]) ∧ Below w.heap.size w w' := by
  obtain ⟨a, cap, rfl, hm, hc⟩ := h.form
  have hA := fun o => (Below.refl _ w).alloc (Nat.le_refl _) o
  go_enter Tryz.func80, Tryz.ntmps80
  go_wp2_with (go_at_call 91; refine (search_any _ ids t _ (hc.below (hA _)) hl ht).mono ?_; rintro e w2 ⟨rfl, hb2⟩)
  go_ret2
  exact ⟨rfl, (hA _).trans (hb2.mono (hA _).size)⟩
end Go.Proofs.YtpebpfaecdmabaaGreatDoor
/- The search for a node in a rising list of nodes. -/
namespace Go.Proofs.YtpebpfaecdmabaaGreatDoor
open Go.RowKit

/-- Where t stands in a rising list, or would stand. -/
structure Spot (ids : List Nat) (t i : Nat) (f : Bool) : Prop where
  le : i ≤ ids.length
  lo : ∀ (m : Nat) (h : m < ids.length), m < i → ids[m] < t
  hi : ∀ (m : Nat) (h : m < ids.length), i ≤ m → t ≤ ids[m]
  hit : f = true ↔ ∃ h : i < ids.length, ids[i] = t
set_option maxHeartbeats 4000000 in
theorem search_gen (v : Value) (ids : List Nat) (t : Nat) (w : World) (h : NS w v ids) (hl : ids.length ≤ 128) (hs : ids.Pairwise (· < ·)) :
    Calls Tryz.prog 91 #[v, .int .i64 t, .func (.func 92) #[] #[]] w fun e w' => ∃ i f, e = .returned (.tuple #[.int .i64 (i : Nat), .bool f]) ∧ Spot ids t i f ∧ Below w.heap.size w w' := by
  obtain ⟨a, cap, rfl, hm, hc⟩ := h.form
  have hlt2 : ∀ (m n : Nat) (hm : m < ids.length) (hn : n < ids.length), m < n → ids[m] < ids[n] := fun m n hm hn h => List.pairwise_iff_getElem.1 hs m n hm hn h
  clear hs
  go_enter Tryz.func91, Tryz.ntmps91
  go_wp2_with fail
  go_loopw [9, 10] (fun x y wr => ∃ i j : Nat, x = .int .i64 i ∧ y = .int .i64 j ∧ i ≤ j ∧ j ≤ ids.length ∧ Below w.heap.size w wr ∧ (∀ (m : Nat) (h : m < ids.length), m < i → ids[m] < t) ∧ (∀ (m : Nat) (h : m < ids.length), j ≤ m → t ≤ ids[m])) (fun x y _ => (kO y).toNat - (kO x).toNat)
  case atStart => exact ⟨0, ids.length, rfl, rfl, Nat.zero_le _, Nat.le_refl _, Below.refl _ _, fun m h h2 => by omega, fun m h h2 => by omega⟩
  case round =>
    obtain ⟨i, j, rfl, rfl, hij, hj, hb, hlo, hhi⟩ := hrel
    by_cases hlt : i < j
    · have hh : (i + j) / 2 < ids.length := by omega
      obtain ⟨b, off, rfl, q0, q1, q2⟩ := (hc.below hb).at_ ((i + j) / 2) hh
      by_cases ht : ids[(i + j) / 2] < t
      · have hlo' : ∀ (m : Nat) (h : m < ids.length), m < (i + j) / 2 + 1 → ids[m] < t := fun m h h2 => by
          by_cases e : m = (i + j) / 2
          · subst e; exact ht
          · exact Nat.lt_trans (hlt2 m _ h hh (by omega)) ht
        generalize ids[(i + j) / 2] = n at q0 ht
        have hcm : cmpI n t = -1 := by unfold cmpI; rw [if_pos (by omega)]
        have HL := Lib.hid hlo'
        have HH := Lib.hid hhi
        clear hlo' hlo hhi hlt2
        go_wp2_with fail
        refine (compareNode_any n _ _ t _ rfl).mono ?_
        rintro e w2 ⟨rfl, hb2⟩
        rw [hcm]
        go_wp2_with fail
        go_roundw
        case rel => exact ⟨(i + j) / 2 + 1, j, by go_num, rfl, by omega, by omega, hb.trans (hb2.mono hb.size), HL.out, HH.out⟩
        case measure => simp [kO]; omega
      · have hhi' : ∀ (m : Nat) (h : m < ids.length), (i + j) / 2 ≤ m → t ≤ ids[m] := fun m h h2 => by
          by_cases e : m = (i + j) / 2
          · subst e; omega
          · have := hlt2 _ m hh h (by omega); omega
        generalize ids[(i + j) / 2] = n at q0 ht
        have hcm : decide (cmpI n t < 0) = false := by unfold cmpI; rw [if_neg (by omega)]; split <;> simp
        have HL := Lib.hid hlo
        have HH := Lib.hid hhi'
        clear hhi' hlo hhi hlt2
        go_wp2_with fail
        refine (compareNode_any n _ _ t _ rfl).mono ?_
        rintro e w2 ⟨rfl, hb2⟩
        generalize cmpI n t = cc at hcm ⊢
        go_wp2_with fail
        go_roundw
        case rel => exact ⟨i, (i + j) / 2, rfl, by go_num, by omega, by omega, hb.trans (hb2.mono hb.size), HL.out, HH.out⟩
        case measure => simp [kO]; omega
    · have e : i = j := by omega
      subst e
      by_cases hin : i < ids.length
      · obtain ⟨b, off, rfl, q0, q1, q2⟩ := (hc.below hb).at_ i hin
        have hq : (cmpI ids[i] t == 0) = decide (ids[i] = t) := by
          unfold cmpI
          by_cases e : ids[i] = t
          · rw [if_neg (by omega), if_neg (by omega), decide_eq_true e]; rfl
          · rw [decide_eq_false e]
            split
            · rfl
            · rw [if_pos (by omega)]; rfl
        have hsp : Spot ids t i (decide (ids[i] = t)) := ⟨hj, hlo, hhi, ⟨fun h => ⟨hin, by simpa using h⟩, fun ⟨_, h⟩ => by simpa using h⟩⟩
        have HS := Lib.hid hsp
        clear hsp hlo hhi hlt2
        generalize ids[i] = n at q0 hq HS
        go_wp2_with fail
        refine (compareNode_any n _ _ t _ rfl).mono ?_
        rintro e w2 ⟨rfl, hb2⟩
        generalize cmpI n t = cc at hq ⊢
        go_wp2_with fail
        go_ret2
        exact ⟨i, _, rfl, HS.out, hb.trans (hb2.mono hb.size)⟩
      · have hsp : Spot ids t i false := ⟨hj, hlo, hhi, ⟨fun h => (nomatch h), fun ⟨h, _⟩ => absurd h hin⟩⟩
        have HS := Lib.hid hsp
        clear hsp hlo hhi hlt2
        go_wp2_with fail
        go_ret2
        exact ⟨i, false, rfl, HS.out, hb⟩
set_option maxHeartbeats 4000000 in
theorem nodeAt_gen (v x y : Value) (ids : List Nat) (t : Nat) (w : World) (h : NS w v ids) (hl : ids.length ≤ 128) (hs : ids.Pairwise (· < ·)) :
    Calls Tryz.prog 80 #[.agg #[v, x, y], .int .i64 t] w fun e w' => ∃ i f, e = .returned (.tuple #[.int .i64 (i : Nat), .bool f]) ∧ Spot ids t i f ∧ Below w.heap.size w w' := by
  obtain ⟨a, cap, rfl, hm, hc⟩ := h.form
  have hA := fun o => (Below.refl _ w).alloc (Nat.le_refl _) o
  go_enter Tryz.func80, Tryz.ntmps80
  go_wp2_with (go_at_call 91; refine (search_gen _ ids t _ (hc.below (hA _)) hl hs).mono ?_; rintro e w2 ⟨i, f, rfl, hsp, hb2⟩)
  go_ret2
  exact ⟨i, f, rfl, hsp, (hA _).trans (hb2.mono (hA _).size)⟩
end Go.Proofs.YtpebpfaecdmabaaGreatDoor
