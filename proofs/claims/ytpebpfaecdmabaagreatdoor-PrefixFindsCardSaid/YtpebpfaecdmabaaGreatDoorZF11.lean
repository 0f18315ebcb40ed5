/- Drawn regions by an invariant: what each operation leaves in its slot, whatever the order; one obligation an operation. Also inside a loop over a function. No program stands in it. -/
import Derived.Test.YtpebpfaecdmabaaGreatDoorZF07
import Derived.RangeFuncCalls
import Derived.OrdersIn
namespace Go.Proofs.YtpebpfaecdmabaaGreatDoor
open Go Go.RowKit

theorem put_size (a : Act) (d : Option Tmp) (v : Value) : (a.put d v).tmps.size = a.tmps.size := by
  cases d <;> simp [Act.put]
theorem put_same (a : Act) (d : Tmp) (v : Value) (h : d < a.tmps.size) : (a.put (some d) v).tmps.getD d undef = v := by
  simp [Act.put, h]
theorem put_ne (a : Act) (d : Option Tmp) (v : Value) (t : Tmp) (h : d ≠ some t) : (a.put d v).tmps.getD t undef = a.tmps.getD t undef := by
  cases d with
  | none => rfl
  | some d =>
    have : d ≠ t := fun e => h (by rw [e])
    simp [Act.put, Array.getElem?_setIfInBounds_ne this]
/-- What holds whatever has come up: slots that nothing has written are as they were; what has come up left what it should; the world is of the first class till operation s, then of the second. -/
structure RInv (ops : Array Oper) (a0 : Act) (φ : Nat → Value → World → Prop) (C D : World → Prop) (s : Nat) (listed : Array Bool) (a : Act) (w : World) : Prop where
  defers : a.defers = a0.defers
  size : a.tmps.size = a0.tmps.size
  lsize : listed.size = ops.size
  rest : ∀ t, (∀ (i : Nat) (o : Oper), ops[i]? = some o → o.dst = some t → listed.getD i false = false) → a.tmps.getD t undef = a0.tmps.getD t undef
  done : ∀ (i : Nat) (o : Oper) (d : Tmp), ops[i]? = some o → o.dst = some d → listed.getD i false = true → φ i (a.tmps.getD d undef) w
  world : if listed.getD s false = true then D w else C w
/-- What an operation must do. -/
def RStep (P : Program) (φ : Nat → Value → World → Prop) (C D : World → Prop) (s i : Nat) (o : Oper) (listed : Array Bool) (a : Act) (w : World) (Q : Exit → Act → World → Prop) : Prop :=
  o.wp P a w (fun a' w' => ∃ v, a' = a.put o.dst v ∧ (o.dst.isSome = true → φ i v w') ∧ (∀ j x, φ j x w → φ j x w') ∧ (if i = s ∨ listed.getD s false = true then D w' else C w')) (OnlyN Q)
theorem wpAny_inv {P : Program} {ops : Array Oper} {md : Region.Mode} {Q : Exit → Act → World → Prop} {a0 : Act} {φ : Nat → Value → World → Prop} {C D : World → Prop} {s : Nat}
    (hg : ∀ (i : Nat) (o : Oper), ops[i]? = some o → o.guard = none)
    (hd : ∀ (i j : Nat) (oi oj : Oper) (d : Tmp), ops[i]? = some oi → ops[j]? = some oj → oi.dst = some d → oj.dst = some d → i = j)
    (hlt : ∀ (i : Nat) (o : Oper) (d : Tmp), ops[i]? = some o → o.dst = some d → d < a0.tmps.size)
    (hstep : ∀ (i : Nat) (o : Oper), ops[i]? = some o → ∀ (listed : Array Bool) (a : Act) (w : World), RInv ops a0 φ C D s listed a w → i ∈ Region.ready md ops listed → RStep P φ C D s i o listed a w Q)
    (hfin : ∀ (listed : Array Bool) (a : Act) (w : World), Region.ready md ops listed = [] → RInv ops a0 φ C D s listed a w → Q .normal a w) :
    ∀ (fuel : Nat) (listed : Array Bool) (a : Act) (w : World), (∃ S : List Nat, S.length ≤ fuel ∧ ∀ j, j < ops.size → listed.getD j true = false → j ∈ S) → RInv ops a0 φ C D s listed a w → wpAny P md ops (OnlyN Q) fuel listed a w := by
  intro fuel
  induction fuel with
  | zero =>
    intro listed a w ⟨S, hS1, hS2⟩ inv
    have hr : Region.ready md ops listed = [] := by
      apply List.eq_nil_iff_forall_not_mem.2
      intro j hj
      obtain ⟨hu, o, ho, _⟩ := mem_ready.1 hj
      have := hS2 j (Array.getElem?_eq_some_iff.1 ho).1 hu
      have hSn : S = [] := List.eq_nil_of_length_eq_zero (by omega)
      rw [hSn] at this
      cases this
    exact ⟨hr, hfin _ _ _ hr inv⟩
  | succ fuel ih =>
    intro listed a w ⟨S, hS1, hS2⟩ inv
    refine ⟨fun hr => hfin _ _ _ hr inv, fun i hi => ?_⟩
    obtain ⟨hu, o, ho, _⟩ := mem_ready.1 hi
    have hil : i < listed.size := by rw [inv.lsize]; exact (Array.getElem?_eq_some_iff.1 ho).1
    unfold wpOp
    simp only [ho]
    rw [if_pos (by simp [Region.wanted, hg i o ho])]
    refine .inl (Oper.wp_mono ?_ (hstep i o ho listed a w inv hi))
    rintro a' w' ⟨v, rfl, hv, hmono, hw⟩
    have hset : ∀ j d, (listed.setIfInBounds i true).getD j d = if j = i then true else listed.getD j d := by
      intro j d
      by_cases e : j = i
      · subst e; simp [hil]
      · rw [if_neg e, getD_set_ne d (Ne.symm e)]
    refine ih _ _ _ ⟨S.erase i, ?_, fun j hj hju => ?_⟩ ⟨(defers_put _ _ _).trans inv.defers, (put_size _ _ _).trans inv.size, by simp [inv.lsize], fun t ht => ?_, fun j oj d hoj hdj hjl => ?_, ?_⟩
    · rw [List.length_erase_of_mem (hS2 i (Array.getElem?_eq_some_iff.1 ho).1 hu)]; omega
    · rw [hset] at hju
      by_cases e : j = i
      · rw [if_pos e] at hju; cases hju
      · rw [if_neg e] at hju; exact (List.mem_erase_of_ne e).2 (hS2 j hj hju)
    · have hne : o.dst ≠ some t := fun e => by
        have := ht i o ho e
        rw [hset, if_pos rfl] at this
        cases this
      rw [put_ne _ _ _ _ hne]
      refine inv.rest t fun j oj hoj hjt => ?_
      have := ht j oj hoj hjt
      rw [hset] at this
      by_cases e : j = i
      · rw [if_pos e] at this; cases this
      · rwa [if_neg e] at this
    · by_cases e : j = i
      · subst e
        have : oj = o := Option.some.inj (hoj.symm.trans ho)
        subst this
        rw [hdj, put_same _ _ _ (by rw [inv.size]; exact hlt j oj d ho hdj)]
        exact hv (by rw [hdj]; rfl)
      · have hne : o.dst ≠ some d := fun e' => e (hd j i oj o d hoj ho hdj e')
        rw [put_ne _ _ _ _ hne]
        rw [hset, if_neg e] at hjl
        exact hmono _ _ (inv.done j oj d hoj hdj hjl)
    · rw [hset]
      by_cases e : s = i
      · rw [if_pos e, if_pos rfl]
        rw [if_pos (.inl e.symm)] at hw
        exact hw
      · rw [if_neg e]
        by_cases hsl : listed.getD s false = true
        · rw [if_pos hsl]; rw [if_pos (.inr hsl)] at hw; exact hw
        · rw [if_neg hsl]; rw [if_neg (by rintro (h | h); exact e h.symm; exact hsl h)] at hw; exact hw

/-! ### Inside a loop over a function -/
theorem wpOpIn_of_wpOp {P : Program} {ops : Array Oper} {Q : Exit → Act → World → Prop} {i n l : Nat} {K : Act → World → Prop} {a : Act} {w : World} (hnd : ∀ (i : Nat) (o : Oper) c, ops[i]? = some o → o.op ≠ .defer c)
    (h : wpOp P ops (OnlyN Q) i K a w) : wpOpIn (Fence.wide.inRound l) n P ops (OnlyN Q) i K a w := by
  unfold wpOp at h
  unfold wpOpIn
  cases ho : ops[i]? with
  | none => simp only [ho] at h ⊢; exact h
  | some o =>
    simp only [ho] at h ⊢
    split
    · rename_i hw
      simp only [hw, if_true] at h
      rcases h with h | h
      · refine ⟨fun _ _ => trivial, ?_⟩
        rw [Oper.semAt_eq _ _ _ (fun c => hnd i o c ho)]
        unfold Oper.wp at h
        generalize (execOp a.eval o).run P w = r at *
        cases r with
        | ok x w' =>
          cases x with
          | value v => exact h
          | skip => exact h
          | «defer» d => exact h
          | enter f args => exact ⟨fun h => by simp [Fence.wide] at h, CallsIn.inRound l (callsIn_wide.2 h)⟩
          | row r args =>
            refine ⟨fun h => by simp [Fence.wide] at h, fun c cs _ => ?_⟩
            obtain ⟨v, w'', h1, h2⟩ := h c cs
            exact ⟨v, w'', h1, stepsIn_wide.2 h2⟩
          | _ => exact (h : False).elim
        | halt x w' => cases x <;> exact (h : False).elim
      · exact (OnlyN.noOut h.2).elim
    · rename_i hw
      simp only [hw] at h
      exact ⟨fun _ _ => trivial, h⟩
theorem wpAnyIn_of_wpAny {P : Program} {ops : Array Oper} {md : Region.Mode} {Q : Exit → Act → World → Prop} {n l : Nat} (hnd : ∀ (i : Nat) (o : Oper) c, ops[i]? = some o → o.op ≠ .defer c) :
    ∀ (fuel : Nat) (listed : Array Bool) (a : Act) (w : World), wpAny P md ops (OnlyN Q) fuel listed a w → wpAnyIn (Fence.wide.inRound l) n P md ops (OnlyN Q) fuel listed a w
  | 0, _, _, _, h => h
  | fuel + 1, _, _, _, h => ⟨h.1, fun i hi => wpOpIn_mono (fun a' w' h' => wpAnyIn_of_wpAny hnd fuel _ a' w' h') (wpOpIn_of_wpOp hnd (h.2 i hi))⟩
/-- A drawn region inside a loop over a function, from the walk of whatever order outside. -/
theorem regionIn_of_any {P : Program} {id : Nat} {Q : Exit → Act → World → Prop} {a : Act} {w : World} {ops : Array Oper} {n l : Nat} (hm : P.follows .mixedOrders = true) (hnd : ∀ (i : Nat) (o : Oper) c, ops[i]? = some o → o.op ≠ .defer c)
    (h : wpAny P .any ops (OnlyN Q) ops.size (Array.replicate ops.size false) a w.drew) : (Code.region id ops true).wpIn (Fence.wide.inRound l) n P Q a w :=
  wpIn_mono (wpIn_region_any hm (wpAnyIn_of_wpAny hnd _ _ _ _ h)) OnlyN.imp
theorem region_of_any {P : Program} {id : Nat} {Q : Exit → Act → World → Prop} {a : Act} {w : World} {ops : Array Oper} (hm : P.follows .mixedOrders = true)
    (h : wpAny P .any ops (OnlyN Q) ops.size (Array.replicate ops.size false) a w.drew) : (Code.region id ops true).wp P Q a w :=
  Code.wp_mono OnlyN.imp (wp_region_any hm h)
/-- The outset. -/
theorem RInv.start {ops : Array Oper} {a : Act} {φ : Nat → Value → World → Prop} {C D : World → Prop} {s : Nat} {w : World} (hC : C w) : RInv ops a φ C D s (Array.replicate ops.size false) a w :=
  ⟨rfl, rfl, by simp, fun _ _ => rfl, (fun i o d _ _ h => by rw [getD_replicate_false] at h; cases h), (by rw [getD_replicate_false]; exact hC)⟩
theorem all_start (n : Nat) : ∃ S : List Nat, S.length ≤ n ∧ ∀ j, j < n → (Array.replicate n false).getD j true = false → j ∈ S := ⟨List.range n, by simp, fun j hj _ => List.mem_range.2 hj⟩

/-- Values laid into the slots that operations write. -/
def putsL : List Oper → (Tmp → Value) → Act → Act
  | [], _, a => a
  | o :: l, f, a => putsL l f (a.put o.dst (match o.dst with | some d => f d | none => undef))
theorem putsL_size (f : Tmp → Value) : ∀ (l : List Oper) (a : Act), (putsL l f a).tmps.size = a.tmps.size
  | [], _ => rfl
  | _ :: l, _ => (putsL_size f l _).trans (put_size _ _ _)
theorem putsL_defers (f : Tmp → Value) : ∀ (l : List Oper) (a : Act), (putsL l f a).defers = a.defers
  | [], _ => rfl
  | _ :: l, _ => (putsL_defers f l _).trans (defers_put _ _ _)
theorem putsL_in (f : Tmp → Value) (t : Tmp) : ∀ (l : List Oper) (a : Act), t < a.tmps.size → (∃ o ∈ l, o.dst = some t) ∨ a.tmps.getD t undef = f t → (putsL l f a).tmps.getD t undef = f t
  | [], _, _, h => h.resolve_left (by simp)
  | o :: l, a, ht, h => by
    refine putsL_in f t l _ (by rw [put_size]; exact ht) ?_
    by_cases e : o.dst = some t
    · rw [e]; exact .inr (put_same _ _ _ ht)
    · rcases h with ⟨o', ho', h'⟩ | h
      · rcases List.mem_cons.1 ho' with rfl | ho'
        · exact absurd h' e
        · exact .inl ⟨o', ho', h'⟩
      · exact .inr ((put_ne _ _ _ _ e).trans h)
theorem putsL_out (f : Tmp → Value) (t : Tmp) : ∀ (l : List Oper) (a : Act), (∀ o ∈ l, o.dst ≠ some t) → (putsL l f a).tmps.getD t undef = a.tmps.getD t undef
  | [], _, _ => rfl
  | o :: l, _, h => (putsL_out f t l _ (fun o' ho' => h o' (List.mem_cons_of_mem _ ho'))).trans (put_ne _ _ _ _ (h o List.mem_cons_self))
theorem getD_elem (x : Array Value) (t : Nat) (h : t < x.size) : x.getD t undef = x[t] := by simp [h]
theorem act_puts {ops : Array Oper} {a0 a : Act} {φ : Nat → Value → World → Prop} {C D : World → Prop} {s : Nat} {listed : Array Bool} {w : World} (inv : RInv ops a0 φ C D s listed a w) :
    a = putsL ops.toList (fun d => a.tmps.getD d undef) a0 := by
  have hsz : a.tmps.size = (putsL ops.toList (fun d => a.tmps.getD d undef) a0).tmps.size := by rw [putsL_size, inv.size]
  have ht : a.tmps = (putsL ops.toList (fun d => a.tmps.getD d undef) a0).tmps := by
    apply Array.ext hsz
    intro t h1 h2
    have h0 : t < a0.tmps.size := by rw [← inv.size]; exact h1
    rw [← getD_elem _ _ h1, ← getD_elem _ _ h2]
    by_cases hc : ∃ o ∈ ops.toList, o.dst = some t
    · exact (putsL_in (fun d => a.tmps.getD d undef) t ops.toList a0 h0 (.inl hc)).symm
    · rw [putsL_out _ t ops.toList a0 (fun o ho e => hc ⟨o, ho, e⟩)]
      refine inv.rest t fun i o ho hot => ?_
      exact absurd ⟨o, by obtain ⟨hi, he⟩ := Array.getElem?_eq_some_iff.1 ho; rw [← he]; exact Array.getElem_mem_toList hi, hot⟩ hc
  have hdf : a.defers = (putsL ops.toList (fun d => a.tmps.getD d undef) a0).defers := by rw [putsL_defers, inv.defers]
  generalize putsL ops.toList (fun d => a.tmps.getD d undef) a0 = b at *
  cases a; cases b; simp_all
/-- Where nothing is ready, all has come up: in a region whose edges go backwards. -/
theorem all_listed {md : Region.Mode} {ops : Array Oper} {listed : Array Bool} (hs : listed.size = ops.size) (hb : ∀ (i : Nat) (o : Oper), ops[i]? = some o → ∀ e ∈ o.after, Region.binds md e = true → e.on < i)
    (hr : Region.ready md ops listed = []) : ∀ i, i < ops.size → listed.getD i false = true := by
  intro i
  induction i using Nat.strongRecOn with
  | _ i ih =>
    intro hi
    cases hl : listed.getD i false with
    | true => rfl
    | false =>
      have : i ∈ Region.ready md ops listed := mem_ready.2 ⟨getD_in (by rw [hs]; exact hi) hl, ops[i], by simp [hi], fun e he hbe => ih e.on (hb i _ (by simp [hi]) e he hbe) (Nat.lt_trans (hb i _ (by simp [hi]) e he hbe) hi)⟩
      rw [hr] at this
      cases this

def Oper.isDefer (o : Oper) : Bool := match o.op with | .defer _ => true | _ => false
/-- What the law asks of a region, by one reckoning: no guards, each slot written once and within the frame, edges backwards, no defer. -/
def invB (ops : Array Oper) (N : Nat) : Bool :=
  ((List.range ops.size).all fun i => match ops[i]? with
    | some o => o.guard.isNone && !Oper.isDefer o && (match o.dst with | some d => decide (d < N) && ((List.range ops.size).all fun j => match ops[j]? with | some o' => o'.dst != some d || decide (i = j) | none => true) | none => true) && o.after.all (fun e => !Region.binds .any e || decide (e.on < i))
    | none => true)
theorem invB_spec {ops : Array Oper} {N : Nat} (h : invB ops N = true) (i : Nat) (o : Oper) (ho : ops[i]? = some o) :
    o.guard = none ∧ (∀ c, o.op ≠ .defer c) ∧ (∀ d, o.dst = some d → d < N ∧ ∀ j o', ops[j]? = some o' → o'.dst = some d → i = j) ∧ ∀ e ∈ o.after, Region.binds .any e = true → e.on < i := by
  have hi := (Array.getElem?_eq_some_iff.1 ho).1
  have h1 := List.all_eq_true.1 h i (List.mem_range.2 hi)
  simp only [ho, Bool.and_eq_true, Bool.not_eq_true', Option.isNone_iff_eq_none] at h1
  obtain ⟨⟨⟨hg, hnd⟩, hdst⟩, haf⟩ := h1
  refine ⟨hg, fun c hc => ?_, fun d hd => ?_, fun e he hb => ?_⟩
  · simp [Oper.isDefer, hc] at hnd
  · simp only [hd, Bool.and_eq_true, decide_eq_true_eq] at hdst
    refine ⟨hdst.1, fun j o' hj hdj => ?_⟩
    have h2 := List.all_eq_true.1 hdst.2 j (List.mem_range.2 (Array.getElem?_eq_some_iff.1 hj).1)
    simp only [hj, hdj, Bool.or_eq_true, decide_eq_true_eq] at h2
    rcases h2 with h2 | h2
    · simp at h2
    · exact h2
  · have h2 := Array.all_eq_true'.1 haf e he
    simp only [hb, Bool.not_true, Bool.false_or, decide_eq_true_eq] at h2
    exact h2
theorem any_inv {P : Program} {ops : Array Oper} {Q : Exit → Act → World → Prop} {a0 : Act} {w : World} (φ : Nat → Value → World → Prop) (C D : World → Prop) (s N : Nat) (hB : invB ops N = true) (hN : a0.tmps.size = N) (hs : s < ops.size) (hC : C w.drew)
    (hstep : ∀ (i : Nat) (o : Oper), ops[i]? = some o → ∀ (listed : Array Bool) (a : Act) (w : World), RInv ops a0 φ C D s listed a w → i ∈ Region.ready .any ops listed → RStep P φ C D s i o listed a w Q)
    (hfin : ∀ (f : Tmp → Value) (w' : World), (∀ (i : Nat) (o : Oper) (d : Tmp), ops[i]? = some o → o.dst = some d → φ i (f d) w') → D w' → Q .normal (putsL ops.toList f a0) w') :
    wpAny P .any ops (OnlyN Q) ops.size (Array.replicate ops.size false) a0 w.drew := by
  refine wpAny_inv (fun i o ho => (invB_spec hB i o ho).1) (fun i j oi oj d hi hj hdi hdj => ((invB_spec hB i oi hi).2.2.1 d hdi).2 j oj hj hdj) (fun i o d ho hd => by rw [hN]; exact ((invB_spec hB i o ho).2.2.1 d hd).1) hstep ?_ ops.size _ a0 w.drew (all_start _) (RInv.start hC)
  intro listed a w' hr inv
  have hall := all_listed inv.lsize (fun i o ho => (invB_spec hB i o ho).2.2.2) hr
  rw [act_puts inv]
  refine hfin _ _ (fun i o d ho hd => inv.done i o d ho hd (hall i (Array.getElem?_eq_some_iff.1 ho).1)) ?_
  have := inv.world
  rwa [if_pos (hall s hs)] at this
/-- A drawn region by an invariant. -/
theorem region_inv {P : Program} {id : Nat} {ops : Array Oper} {Q : Exit → Act → World → Prop} {a0 : Act} {w : World} (φ : Nat → Value → World → Prop) (C D : World → Prop) (s N : Nat) (hm : P.follows .mixedOrders = true) (hB : invB ops N = true) (hN : a0.tmps.size = N) (hs : s < ops.size) (hC : C w.drew)
    (hstep : ∀ (i : Nat) (o : Oper), ops[i]? = some o → ∀ (listed : Array Bool) (a : Act) (w : World), RInv ops a0 φ C D s listed a w → i ∈ Region.ready .any ops listed → RStep P φ C D s i o listed a w Q)
    (hfin : ∀ (f : Tmp → Value) (w' : World), (∀ (i : Nat) (o : Oper) (d : Tmp), ops[i]? = some o → o.dst = some d → φ i (f d) w') → D w' → Q .normal (putsL ops.toList f a0) w') : (Code.region id ops true).wp P Q a0 w :=
  region_of_any hm (any_inv φ C D s N hB hN hs hC hstep hfin)
/-- The same inside a loop over a function. -/
theorem regionIn_inv {P : Program} {id n l : Nat} {ops : Array Oper} {Q : Exit → Act → World → Prop} {a0 : Act} {w : World} (φ : Nat → Value → World → Prop) (C D : World → Prop) (s N : Nat) (hm : P.follows .mixedOrders = true) (hB : invB ops N = true) (hN : a0.tmps.size = N) (hs : s < ops.size) (hC : C w.drew)
    (hstep : ∀ (i : Nat) (o : Oper), ops[i]? = some o → ∀ (listed : Array Bool) (a : Act) (w : World), RInv ops a0 φ C D s listed a w → i ∈ Region.ready .any ops listed → RStep P φ C D s i o listed a w Q)
    (hfin : ∀ (f : Tmp → Value) (w' : World), (∀ (i : Nat) (o : Oper) (d : Tmp), ops[i]? = some o → o.dst = some d → φ i (f d) w') → D w' → Q .normal (putsL ops.toList f a0) w') : (Code.region id ops true).wpIn (Fence.wide.inRound l) n P Q a0 w :=
  regionIn_of_any hm (fun i o c ho => (invB_spec hB i o ho).2.1 c) (any_inv φ C D s N hB hN hs hC hstep hfin)
/-- What an operation that is ready may lean on. -/
theorem RInv.dep {ops : Array Oper} {a0 : Act} {φ : Nat → Value → World → Prop} {C D : World → Prop} {s : Nat} {listed : Array Bool} {a : Act} {w : World} (inv : RInv ops a0 φ C D s listed a w) {i : Nat} {o : Oper} (ho : ops[i]? = some o) (hr : i ∈ Region.ready .any ops listed)
    (j : Nat) (oj : Oper) (d : Tmp) (hj : ops[j]? = some oj) (hd : oj.dst = some d) (hw : (o.after.any fun e => Region.binds .any e && e.on == j) = true) : φ j (a.eval (.tmp d)) w := by
  obtain ⟨_, o', ho', hall⟩ := mem_ready.1 hr
  have : o' = o := Option.some.inj (ho'.symm.trans ho)
  subst this
  obtain ⟨e, he, hb⟩ := Array.any_eq_true'.1 hw
  simp only [Bool.and_eq_true, beq_iff_eq] at hb
  exact inv.done j oj d hj hd (by rw [← hb.2]; exact hall e he hb.1)
/-- A slot that the region does not write. -/
theorem RInv.slot {ops : Array Oper} {a0 : Act} {φ : Nat → Value → World → Prop} {C D : World → Prop} {s : Nat} {listed : Array Bool} {a : Act} {w : World} (inv : RInv ops a0 φ C D s listed a w) (t : Tmp) (hn : (ops.any fun o => o.dst == some t) = false) : a.eval (.tmp t) = a0.eval (.tmp t) :=
  inv.rest t fun i o ho hot => by
    have h := Array.any_eq_false'.1 hn o (by obtain ⟨hi, he⟩ := Array.getElem?_eq_some_iff.1 ho; rw [← he]; exact Array.getElem_mem hi)
    simp [hot] at h

/-- A slot as the walk's simp writes it. -/
theorem eval_opt (a : Act) (t : Tmp) : a.tmps[t]?.getD undef = a.eval (.tmp t) := (Array.getD_eq_getD_getElem? ..).symm

/-! ### One class of worlds throughout -/
def RS1 (P : Program) (φ : Nat → Value → World → Prop) (C : World → Prop) (i : Nat) (o : Oper) (a : Act) (w : World) (Q : Exit → Act → World → Prop) : Prop :=
  o.wp P a w (fun a' w' => ∃ v, a' = a.put o.dst v ∧ (o.dst.isSome = true → φ i v w') ∧ (∀ j x, φ j x w → φ j x w') ∧ C w') (OnlyN Q)
theorem RInv.cls {ops : Array Oper} {a0 : Act} {φ : Nat → Value → World → Prop} {C : World → Prop} {s : Nat} {listed : Array Bool} {a : Act} {w : World} (inv : RInv ops a0 φ C C s listed a w) : C w := by
  have := inv.world
  split at this <;> exact this
theorem RS1.step {P : Program} {φ : Nat → Value → World → Prop} {C : World → Prop} {s i : Nat} {o : Oper} {listed : Array Bool} {a : Act} {w : World} {Q : Exit → Act → World → Prop} (h : RS1 P φ C i o a w Q) : RStep P φ C C s i o listed a w Q :=
  Oper.wp_mono (fun a' w' ⟨v, h1, h2, h3, h4⟩ => ⟨v, h1, h2, h3, by split <;> exact h4⟩) h
/-- An operation that leaves the world as it is. -/
theorem RS1.value {P : Program} {φ : Nat → Value → World → Prop} {C : World → Prop} {i : Nat} {o : Oper} {a : Act} {w : World} {Q : Exit → Act → World → Prop} (v : Value) (hrun : (execOp a.eval o).run P w = .ok (.value v) w) (hv : φ i v w) (hC : C w) : RS1 P φ C i o a w Q := by
  unfold RS1 Oper.wp
  rw [hrun]
  exact ⟨v, rfl, fun _ => hv, fun _ _ h => h, hC⟩
theorem RS1.value' {P : Program} {φ : Nat → Value → World → Prop} {C : World → Prop} {i : Nat} {o : Oper} {a : Act} {w w' : World} {Q : Exit → Act → World → Prop} (v : Value) (hrun : (execOp a.eval o).run P w = .ok (.value v) w') (hv : φ i v w') (hm : ∀ j x, φ j x w → φ j x w') (hC : C w') : RS1 P φ C i o a w Q := by
  unfold RS1 Oper.wp
  rw [hrun]
  exact ⟨v, rfl, fun _ => hv, hm, hC⟩
theorem RS1.skip {P : Program} {φ : Nat → Value → World → Prop} {C : World → Prop} {i : Nat} {o : Oper} {a : Act} {w w' : World} {Q : Exit → Act → World → Prop} (hrun : (execOp a.eval o).run P w = .ok .skip w') (hd : o.dst = none) (hm : ∀ j x, φ j x w → φ j x w') (hC : C w') : RS1 P φ C i o a w Q := by
  unfold RS1 Oper.wp
  rw [hrun]
  exact ⟨undef, rfl, fun h => by (rw [hd] at h; cases h), hm, hC⟩
theorem RS1.call {P : Program} {φ : Nat → Value → World → Prop} {C : World → Prop} {i : Nat} {o : Oper} {a : Act} {w : World} {Q : Exit → Act → World → Prop} {f : FuncId} {args : Array Value} {R : Ending → World → Prop} (hrun : (execOp a.eval o).run P w = .ok (.enter f args) w) (hc : Calls P f args w R)
    (h : ∀ e w', R e w' → ∃ v, e = .returned v ∧ φ i v w' ∧ (∀ j x, φ j x w → φ j x w') ∧ C w') : RS1 P φ C i o a w Q := by
  unfold RS1 Oper.wp
  rw [hrun]
  refine hc.mono fun e w' hR => ?_
  obtain ⟨v, rfl, h1, h2, h3⟩ := h e w' hR
  exact ⟨v, rfl, fun _ => h1, h2, h3⟩
theorem region_inv1 {P : Program} {id : Nat} {ops : Array Oper} {Q : Exit → Act → World → Prop} {a0 : Act} {w : World} (φ : Nat → Value → World → Prop) (C : World → Prop) (N : Nat) (hm : P.follows .mixedOrders = true) (hB : invB ops N = true) (hN : a0.tmps.size = N) (hs : 0 < ops.size) (hC : C w.drew)
    (hstep : ∀ (i : Nat) (o : Oper), ops[i]? = some o → ∀ (listed : Array Bool) (a : Act) (w : World), RInv ops a0 φ C C 0 listed a w → i ∈ Region.ready .any ops listed → RS1 P φ C i o a w Q)
    (hfin : ∀ (f : Tmp → Value) (w' : World), (∀ (i : Nat) (o : Oper) (d : Tmp), ops[i]? = some o → o.dst = some d → φ i (f d) w') → C w' → Q .normal (putsL ops.toList f a0) w') : (Code.region id ops true).wp P Q a0 w :=
  region_inv φ C C 0 N hm hB hN hs hC (fun i o ho listed a w inv hr => (hstep i o ho listed a w inv hr).step) hfin
theorem regionIn_inv1 {P : Program} {id n l : Nat} {ops : Array Oper} {Q : Exit → Act → World → Prop} {a0 : Act} {w : World} (φ : Nat → Value → World → Prop) (C : World → Prop) (N : Nat) (hm : P.follows .mixedOrders = true) (hB : invB ops N = true) (hN : a0.tmps.size = N) (hs : 0 < ops.size) (hC : C w.drew)
    (hstep : ∀ (i : Nat) (o : Oper), ops[i]? = some o → ∀ (listed : Array Bool) (a : Act) (w : World), RInv ops a0 φ C C 0 listed a w → i ∈ Region.ready .any ops listed → RS1 P φ C i o a w Q)
    (hfin : ∀ (f : Tmp → Value) (w' : World), (∀ (i : Nat) (o : Oper) (d : Tmp), ops[i]? = some o → o.dst = some d → φ i (f d) w') → C w' → Q .normal (putsL ops.toList f a0) w') : (Code.region id ops true).wpIn (Fence.wide.inRound l) n P Q a0 w :=
  regionIn_inv φ C C 0 N hm hB hN hs hC (fun i o ho listed a w inv hr => (hstep i o ho listed a w inv hr).step) hfin

/-! ### Two classes: ahead of operation s, and behind it -/
theorem RInv.common {ops : Array Oper} {a0 : Act} {φ : Nat → Value → World → Prop} {C D E : World → Prop} {s : Nat} {listed : Array Bool} {a : Act} {w : World} (inv : RInv ops a0 φ C D s listed a w) (hC : C w → E w) (hD : D w → E w) : E w := by
  have := inv.world
  split at this
  · exact hD this
  · exact hC this
theorem ready_flag {ops : Array Oper} {listed : Array Bool} {i : Nat} {o : Oper} (ho : ops[i]? = some o) (hr : i ∈ Region.ready .any ops listed) (j : Nat) (hw : (o.after.any fun e => Region.binds .any e && e.on == j) = true) : listed.getD j false = true := by
  obtain ⟨_, o', ho', hall⟩ := mem_ready.1 hr
  have : o' = o := Option.some.inj (ho'.symm.trans ho)
  subst this
  obtain ⟨e, he, hb⟩ := Array.any_eq_true'.1 hw
  simp only [Bool.and_eq_true, beq_iff_eq] at hb
  rw [← hb.2]; exact hall e he hb.1
theorem RStep.value {P : Program} {ops : Array Oper} {a0 : Act} {φ : Nat → Value → World → Prop} {C D : World → Prop} {s i : Nat} {o : Oper} {listed : Array Bool} {a : Act} {w : World} {Q : Exit → Act → World → Prop} (inv : RInv ops a0 φ C D s listed a w) (hne : i ≠ s) (v : Value) (hrun : (execOp a.eval o).run P w = .ok (.value v) w) (hv : φ i v w) : RStep P φ C D s i o listed a w Q := by
  unfold RStep Oper.wp
  rw [hrun]
  refine ⟨v, rfl, fun _ => hv, fun _ _ h => h, ?_⟩
  have := inv.world
  by_cases h : listed.getD s false = true
  · rw [if_pos (.inr h)]; rwa [if_pos h] at this
  · rw [if_neg (by rintro (e | e); exact hne e; exact h e)]; rwa [if_neg h] at this
theorem RStep.skip {P : Program} {φ : Nat → Value → World → Prop} {C D : World → Prop} {s i : Nat} {o : Oper} {listed : Array Bool} {a : Act} {w w' : World} {Q : Exit → Act → World → Prop} (hl : listed.getD s false = true) (hrun : (execOp a.eval o).run P w = .ok .skip w') (hd : o.dst = none) (hm : ∀ j x, φ j x w → φ j x w') (hD : D w') : RStep P φ C D s i o listed a w Q := by
  unfold RStep Oper.wp
  rw [hrun]
  refine ⟨undef, rfl, fun h => by (rw [hd] at h; cases h), hm, ?_⟩
  rw [if_pos (.inr hl)]; exact hD
theorem RStep.call {P : Program} {φ : Nat → Value → World → Prop} {C D : World → Prop} {s : Nat} {o : Oper} {listed : Array Bool} {a : Act} {w : World} {Q : Exit → Act → World → Prop} {f : FuncId} {args : Array Value} {R : Ending → World → Prop} (hrun : (execOp a.eval o).run P w = .ok (.enter f args) w) (hc : Calls P f args w R)
    (h : ∀ e w', R e w' → ∃ v, e = .returned v ∧ φ s v w' ∧ (∀ j x, φ j x w → φ j x w') ∧ D w') : RStep P φ C D s s o listed a w Q := by
  unfold RStep Oper.wp
  rw [hrun]
  refine hc.mono fun e w' hR => ?_
  obtain ⟨v, rfl, h1, h2, h3⟩ := h e w' hR
  exact ⟨v, rfl, fun _ => h1, h2, by rw [if_pos (.inl rfl)]; exact h3⟩
/-- The class ahead of s, where s itself is ready. -/
theorem RInv.ahead {ops : Array Oper} {a0 : Act} {φ : Nat → Value → World → Prop} {C D : World → Prop} {s : Nat} {listed : Array Bool} {a : Act} {w : World} (inv : RInv ops a0 φ C D s listed a w) (hr : s ∈ Region.ready .any ops listed) : C w := by
  have hu := (mem_ready.1 hr).1
  have := inv.world
  rwa [if_neg (by rw [getD_both hu]; simp)] at this
theorem RInv.behind {ops : Array Oper} {a0 : Act} {φ : Nat → Value → World → Prop} {C D : World → Prop} {s : Nat} {listed : Array Bool} {a : Act} {w : World} (inv : RInv ops a0 φ C D s listed a w) (hl : listed.getD s false = true) : D w := by
  have := inv.world
  rwa [if_pos hl] at this
end Go.Proofs.YtpebpfaecdmabaaGreatDoor
