/- Drawn regions: a quiet head, a tail in one order, and extracts that nothing waits for, which may come anywhere. No program stands in it. -/
import Derived.Test.YtpebpfaecdmabaaGreatDoorZF06
namespace Go.Proofs.YtpebpfaecdmabaaGreatDoor
open Go Go.RowKit

/-- Q, but False at every way out. -/
def OnlyN (Q : Exit → Act → World → Prop) : Exit → Act → World → Prop
  | .normal, a, w => Q .normal a w
  | _, _, _ => False
theorem OnlyN.imp {Q : Exit → Act → World → Prop} : ∀ (e : Exit) (a : Act) (w : World), OnlyN Q e a w → Q e a w := fun e a w h => by
  cases e <;> first | exact h | exact (h : False).elim
theorem OnlyN.normal {Q : Exit → Act → World → Prop} {a : Act} {w : World} (h : Q .normal a w) : OnlyN Q .normal a w := h
theorem OnlyN.noOut {Q : Exit → Act → World → Prop} : ¬ LetsOut (OnlyN Q) := fun ⟨_, _, h⟩ => h
/-- What a pure operation leaves, in whatever world. -/
def pureUpon (w : World) (v : Value) : Result Next → Prop
  | .ok (.value u) w' => w' = w ∧ u = v
  | _ => False
def PureAt (P : Program) (ops : Array Oper) (o : Oper) (v : Value) (a : Act) : Prop :=
  (Region.wanted o (yielded ops a.tmps) = true ∧ ∀ w, pureUpon w v ((execOp a.eval o).run P w)) ∨ (Region.wanted o (yielded ops a.tmps) = false ∧ v = undef)
theorem PureAt.of_same {P : Program} {ops : Array Oper} {o : Oper} {v : Value} {a a' : Act} (hy : PureAt P ops o v a) (he : execOp a'.eval o = execOp a.eval o)
    (hw : Region.wanted o (yielded ops a'.tmps) = Region.wanted o (yielded ops a.tmps)) : PureAt P ops o v a' := by
  unfold PureAt at *
  rw [he, hw]
  exact hy
theorem eval_defers (a : Act) (ds : List Deferred) : ({ a with defers := ds } : Act).eval = a.eval := by
  funext x; cases x <;> rfl
theorem put_defers (a : Act) (ds : List Deferred) (d : Option Tmp) (v : Value) : ({ (a.put d v) with defers := ds } : Act) = ({ a with defers := ds } : Act).put d v := by
  cases d <;> rfl
theorem defers_put (a : Act) (d : Option Tmp) (v : Value) : (a.put d v).defers = a.defers := by
  cases d <;> rfl
/-- Another operation, whether the pure one has come up or not. -/
theorem wpOp_pure {P : Program} {ops : Array Oper} {Q : Exit → Act → World → Prop} {j : Nat} {oi oj : Oper} {v : Value} (hj : ops[j]? = some oj) (hap : oi.apart ops oj = true)
    (hsi : ∀ cs b, oi.op ≠ .select cs b) (hsj : ∀ cs b, oj.op ≠ .select cs b) {K : Act → World → Prop} {a : Act} {w : World}
    (hy : PureAt P ops oi v a) (h : wpOp P ops (OnlyN Q) j K (a.put oi.dst v) w) :
    wpOp P ops (OnlyN Q) j (fun a' w' => PureAt P ops oi v a' ∧ K (a'.put oi.dst v) w') a w := by
  obtain ⟨h1, h2, h3⟩ := Oper.apart_spec hap
  have keep : ∀ (a : Act), PureAt P ops oi v a → ∀ x, PureAt P ops oi v (a.put oj.dst x) := fun a hy x =>
    hy.of_same (execOp_put oi hsi a oj.dst x h3) (wanted_put oi a oj.dst x h3)
  unfold wpOp at *
  simp only [hj] at *
  rw [wanted_put oj a oi.dst v h1] at h
  split
  · rename_i hw
    simp only [hw, if_true] at h
    rcases h with h | h
    · refine .inl ?_
      unfold Oper.wp at *
      rw [execOp_put oj hsj a oi.dst v h1] at h
      generalize (execOp a.eval oj).run P w = r at *
      cases r with
      | ok n w' =>
        cases n with
        | value x => exact ⟨keep a hy x, by rw [← Act.put_comm a v x h2]; exact h⟩
        | skip => exact ⟨keep a hy _, by rw [← Act.put_comm a v undef h2]; exact h⟩
        | «defer» d =>
          have hd : PureAt P ops oi v ({ a with defers := d :: a.defers } : Act) := by
            refine hy.of_same ?_ rfl
            rw [eval_defers]
          refine ⟨keep _ hd _, ?_⟩
          have h' : K (({ (a.put oi.dst v) with defers := d :: (a.put oi.dst v).defers } : Act).put oj.dst undef) w' := h
          rw [put_defers, defers_put, Act.put_comm _ v undef h2] at h'
          exact h'
        | enter f args =>
          refine Calls.mono (R := fun e w'' => match e, w'' with
            | .returned x, w'' => K ((a.put oi.dst v).put oj.dst x) w''
            | .panicked chain, w'' => OnlyN Q (.panic chain) (a.put oi.dst v) w''
            | .outgrown, _ => LetsOut (OnlyN Q)) h ?_
          intro e w'' he
          cases e with
          | returned x => exact ⟨keep a hy x, by rw [← Act.put_comm a v x h2]; exact he⟩
          | panicked ch => exact he
          | outgrown => exact he
        | row r args => exact Rows.mono (R := fun x w'' => K ((a.put oi.dst v).put oj.dst x) w'') h fun x w'' he => ⟨keep a hy x, by rw [← Act.put_comm a v x h2]; exact he⟩
        | _ => exact (h : False).elim
      | halt x w' =>
        cases x <;> exact (h : False).elim
    · exact (OnlyN.noOut h.2).elim
  · rename_i hw
    simp only [hw] at h
    exact ⟨keep a hy _, by rw [← Act.put_comm a v undef h2]; exact h⟩
theorem PureAt.wpOp {P : Program} {ops : Array Oper} {Q : Exit → Act → World → Prop} {i : Nat} {o : Oper} {v : Value} {a : Act} {w : World} (hi : ops[i]? = some o) (hy : PureAt P ops o v a) {K : Act → World → Prop} (h : K (a.put o.dst v) w) : wpOp P ops Q i K a w := by
  unfold Go.wpOp
  simp only [hi]
  rcases hy with ⟨hw, hv⟩ | ⟨hw, rfl⟩
  · simp only [hw, if_true]
    refine .inl ?_
    have h1 := hv w
    unfold Oper.wp
    generalize (execOp a.eval o).run P w = r at *
    cases r with
    | ok n w' =>
      cases n <;> simp only [pureUpon] at h1
      obtain ⟨rfl, rfl⟩ := h1
      exact h
    | halt x w' => exact (h1 : False).elim
  · simp only [hw, Bool.false_eq_true, if_false]; exact h
/-- A pure operation may be taken first, whatever the others do. -/
theorem wpAny_pure_first {P : Program} {ops : Array Oper} {md : Region.Mode} {Q : Exit → Act → World → Prop} {i : Nat} {oi : Oper} {v : Value} (hi : ops[i]? = some oi) (hsel : ∀ (j : Nat) (o : Oper) cs b, ops[j]? = some o → o.op ≠ .select cs b) :
    ∀ (fuel : Nat) (listed : Array Bool) (a : Act) (w : World),
      (∀ j oj, ops[j]? = some oj → j ≠ i → listed.getD j true = false → (∀ e ∈ oj.after, Region.binds md e = true → e.on ≠ i) → oi.apart ops oj = true) →
      i ∈ Region.ready md ops listed → PureAt P ops oi v a →
      wpAny P md ops (OnlyN Q) fuel (listed.setIfInBounds i true) (a.put oi.dst v) w → wpAny P md ops (OnlyN Q) (fuel + 1) listed a w := by
  intro fuel
  induction fuel with
  | zero =>
    intro listed a w _ hr hy H
    refine ⟨fun h => (by rw [h] at hr; cases hr), fun j hj => ?_⟩
    by_cases hji : j = i
    · subst hji; exact hy.wpOp hi H
    · have := ready_mono hj hji
      rw [H.1] at this
      cases this
  | succ fuel ih =>
    intro listed a w hfree hr hy H
    refine ⟨fun h => (by rw [h] at hr; cases hr), fun j hj => ?_⟩
    by_cases hji : j = i
    · subst hji; exact hy.wpOp hi H
    · have h1 := H.2 j (ready_mono hj hji)
      obtain ⟨hjun, oj, hoj, hall⟩ := mem_ready.1 hj
      have hun := (mem_ready.1 hr).1
      have hnot : ∀ e ∈ oj.after, Region.binds md e = true → e.on ≠ i := fun e he hb heq => by
        have h1 := hall e he hb
        rw [heq, getD_both hun] at h1
        cases h1
      have h2 := wpOp_pure hoj (hfree j oj hoj hji hjun hnot) (fun cs b => hsel i oi cs b hi) (fun cs b => hsel j oj cs b hoj) hy h1
      have hfree' : ∀ k ok, ops[k]? = some ok → k ≠ i → (listed.setIfInBounds j true).getD k true = false →
          (∀ e ∈ ok.after, Region.binds md e = true → e.on ≠ i) → oi.apart ops ok = true := fun k ok hk hki hun hno => by
        refine hfree k ok hk hki ?_ hno
        by_cases hjk : j = k
        · subst hjk; exact hjun
        · rw [getD_set_ne true hjk] at hun; exact hun
      refine wpOp_mono (fun a' w' h3 => ih (listed.setIfInBounds j true) a' w' hfree' (ready_mono hr (Ne.symm hji)) h3.1 ?_) h2
      rw [Array.setIfInBounds_comm _ _ hji]
      exact h3.2
/-- Whatever order the head is picked in; or the tail has begun, and the whole is known. -/
def wpAnyM (P : Program) (md : Region.Mode) (ops : Array Oper) (C : World → Prop) (Q' : Exit → Act → World → Prop) (n g : Nat) : Nat → Array Bool → Act → Prop
  | 0, listed, a => ∀ w, C w → wpAny P md ops Q' g listed a w
  | f + 1, listed, a =>
    Region.ready md ops listed ≠ [] ∧ ∀ i ∈ Region.ready md ops listed, (i < n ∧ qOp P ops C i (wpAnyM P md ops C Q' n g f (listed.setIfInBounds i true)) a) ∨ (n ≤ i ∧ ∀ w, C w → wpAny P md ops Q' (f + 1 + g) listed a w)
theorem wpAny_of_M {P : Program} {ops : Array Oper} {md : Region.Mode} {C : World → Prop} {n g : Nat} {Q' : Exit → Act → World → Prop} :
    ∀ (f : Nat) (listed : Array Bool) (a : Act) (w : World), C w → wpAnyM P md ops C Q' n g f listed a → wpAny P md ops Q' (f + g) listed a w
  | 0, _, _, w, hw, h => by rw [Nat.zero_add]; exact h w hw
  | f + 1, listed, a, w, hw, h => by
    rw [show f + 1 + g = (f + g) + 1 by omega]
    refine ⟨fun h0 => absurd h0 h.1, fun i hi => ?_⟩
    rcases h.2 i hi with ⟨_, h1⟩ | ⟨_, h1⟩
    · exact wpOp_of_qOp hw (fun a' w' hw' h' => wpAny_of_M f _ a' w' hw' h') h1
    · have h2 := h1 w hw
      rw [show f + 1 + g = (f + g) + 1 by omega] at h2
      exact h2.2 i hi

/-- Every operation of the head but the floaters is waited for. -/
def sinkF (md : Region.Mode) (ops : Array Oper) (n : Nat) (fl : Nat → Bool) : Bool :=
  (List.range n).all fun i => fl i || (List.range (n + 1)).any fun j => decide (i < j) && (decide (j = n) || !fl j) && Region.waitsFor md ops j i
theorem tailF_waits {md : Region.Mode} {ops : Array Oper} {fl : Nat → Bool} {n : Nat} {listed : Array Bool} (hs : sinkF md ops n fl = true) (hc : Region.chainB md ops n = true) (hn : n < ops.size) (inv : HeadInv md ops n listed) :
    ∀ (d i : Nat), n - i = d → i < n → fl i = false → listed.getD i true = false → ∀ t, n ≤ t → t ∉ Region.ready md ops listed := by
  intro d
  induction d using Nat.strongRecOn with
  | _ d ih =>
    intro i hd hi hfl hun t ht hr
    obtain ⟨_, ot, hot, hall⟩ := mem_ready.1 hr
    have htlt : t < ops.size := (Array.getElem?_eq_some_iff.1 hot).1
    by_cases htn : t = n
    · subst htn
      have h1 := List.all_eq_true.1 hs i (List.mem_range.2 hi)
      rw [hfl, Bool.false_or] at h1
      obtain ⟨j, hj, hj2⟩ := List.any_eq_true.1 h1
      simp only [Bool.and_eq_true, Bool.or_eq_true, decide_eq_true_eq, Bool.not_eq_true'] at hj2
      obtain ⟨⟨hij, hjf⟩, hwt⟩ := hj2
      obtain ⟨oj, hoj, e, he, hb, hon⟩ := Region.waitsFor_spec hwt
      have hjle : j ≤ t := by have := List.mem_range.1 hj; omega
      by_cases hjt : j = t
      · subst hjt
        have : oj = ot := Option.some.inj (hoj.symm.trans hot)
        subst this
        have h2 := hall e he hb
        rw [hon, getD_both hun] at h2
        cases h2
      · cases hl : listed.getD j false with
        | true =>
          have h2 := inv.closed j oj hoj hl e he hb
          rw [hon, getD_both hun] at h2
          cases h2
        | false =>
          have hjs : j < listed.size := by rw [inv.size]; omega
          exact ih (t - j) (by omega) j rfl (by omega) (hjf.resolve_left hjt) (getD_in hjs hl) t (Nat.le_refl _) hr
    · have h1 := List.all_eq_true.1 hc t (List.mem_range.2 htlt)
      simp only [Bool.or_eq_true, decide_eq_true_eq] at h1
      rcases h1 with h1 | h1
      · omega
      · obtain ⟨o', ho', e, he, hb, hon⟩ := Region.waitsFor_spec h1
        have : o' = ot := Option.some.inj (ho'.symm.trans hot)
        subst this
        have h2 := hall e he hb
        rw [hon, getD_both (inv.tail (t - 1) (by omega) (by omega))] at h2
        cases h2
theorem qOp_keep {P : Program} {ops : Array Oper} {C : World → Prop} {j : Nat} {oj : Oper} (hj : ops[j]? = some oj) {K R : Act → Prop} {a : Act} (hR : ∀ x, R (a.put oj.dst x)) (h : qOp P ops C j K a) : qOp P ops C j (fun a' => R a' ∧ K a') a := by
  unfold qOp at *
  simp only [hj] at *
  split
  · rename_i hw
    simp only [hw, if_true] at h
    obtain ⟨v, h1, h2⟩ := h
    exact ⟨v, h1, hR v, h2⟩
  · rename_i hw
    simp only [hw] at h
    exact ⟨hR _, h⟩
theorem wpAnyM_first {P : Program} {ops : Array Oper} {md : Region.Mode} {C : World → Prop} {Q : Exit → Act → World → Prop} {fl : Nat → Bool} {n g i : Nat} {oi : Oper} {v : Value} (hi : ops[i]? = some oi) (hsel : ∀ (j : Nat) (o : Oper) cs b, ops[j]? = some o → o.op ≠ .select cs b) (hin : i < n)
    (hs : sinkF md ops n fl = true) (hc : Region.chainB md ops n = true) (hn : n < ops.size) :
    ∀ (f : Nat) (listed : Array Bool) (a : Act), HeadInv md ops n listed →
      (∃ S : List Nat, S.length = f ∧ ∀ j, j < n → j ≠ i → listed.getD j true = false → j ∈ S) →
      (∀ j oj, ops[j]? = some oj → j ≠ i → listed.getD j true = false → (∀ e ∈ oj.after, Region.binds md e = true → e.on ≠ i) → oi.apart ops oj = true) →
      i ∈ Region.ready md ops listed → YieldsIn P ops C oi v a → (fl i = true → PureAt P ops oi v a) →
      wpAnyM P md ops C (OnlyN Q) n g f (listed.setIfInBounds i true) (a.put oi.dst v) → wpAnyM P md ops C (OnlyN Q) n g (f + 1) listed a := by
  intro f
  induction f with
  | zero =>
    intro listed a inv hS hfree hr hy hp H
    have hun := (mem_ready.1 hr).1
    refine ⟨fun h => (by rw [h] at hr; cases hr), fun j hj => ?_⟩
    by_cases hji : j = i
    · subst hji; exact .inl ⟨hin, hy.qOp hi H⟩
    · by_cases hjn : j < n
      · obtain ⟨S, hS1, hS2⟩ := hS
        have := hS2 j hjn hji (mem_ready.1 hj).1
        rw [List.eq_nil_of_length_eq_zero hS1] at this
        cases this
      · cases hf : fl i with
        | false => exact absurd hj (tailF_waits hs hc hn inv _ i rfl hin hf hun j (by omega))
        | true =>
          refine .inr ⟨by omega, fun w hw => ?_⟩
          have := wpAny_pure_first hi hsel (0 + g) listed a w hfree hr (hp hf) (wpAny_of_M 0 _ _ w hw H)
          rwa [show 0 + 1 + g = 0 + g + 1 by omega]
  | succ f ih =>
    intro listed a inv hS hfree hr hy hp H
    have hun := (mem_ready.1 hr).1
    refine ⟨fun h => (by rw [h] at hr; cases hr), fun j hj => ?_⟩
    by_cases hji : j = i
    · subst hji; exact .inl ⟨hin, hy.qOp hi H⟩
    · by_cases hjn : j < n
      · have h1 : qOp P ops C j (wpAnyM P md ops C (OnlyN Q) n g f ((listed.setIfInBounds i true).setIfInBounds j true)) (a.put oi.dst v) := by
          rcases H.2 j (ready_mono hj hji) with ⟨_, h⟩ | ⟨h, _⟩
          · exact h
          · omega
        obtain ⟨hjun, oj, hoj, hall⟩ := mem_ready.1 hj
        have hnot : ∀ e ∈ oj.after, Region.binds md e = true → e.on ≠ i := fun e he hb heq => by
          have h1 := hall e he hb
          rw [heq, getD_both hun] at h1
          cases h1
        have hap := hfree j oj hoj hji hjun hnot
        have h2 := qOp_put hoj hap (fun cs b => hsel i oi cs b hi) (fun cs b => hsel j oj cs b hoj) hy h1
        have hfree' : ∀ k ok, ops[k]? = some ok → k ≠ i → (listed.setIfInBounds j true).getD k true = false →
            (∀ e ∈ ok.after, Region.binds md e = true → e.on ≠ i) → oi.apart ops ok = true := fun k ok hk hki hun hno => by
          refine hfree k ok hk hki ?_ hno
          by_cases hjk : j = k
          · subst hjk; exact hjun
          · rw [getD_set_ne true hjk] at hun; exact hun
        have hS' : ∃ S : List Nat, S.length = f ∧ ∀ k, k < n → k ≠ i → (listed.setIfInBounds j true).getD k true = false → k ∈ S := by
          obtain ⟨S, hS1, hS2⟩ := hS
          refine ⟨S.erase j, by rw [List.length_erase_of_mem (hS2 j hjn hji hjun)]; omega, fun k hk hki hku => ?_⟩
          have hkj : k ≠ j := by
            intro e
            subst e
            have hlt : k < listed.size := by rw [inv.size]; omega
            simp [hlt] at hku
          rw [getD_set_ne true (Ne.symm hkj)] at hku
          exact (List.mem_erase_of_ne hkj).2 (hS2 k hk hki hku)
        obtain ⟨_, _, a3⟩ := Oper.apart_spec hap
        have h3 := qOp_keep (R := fun a' => fl i = true → PureAt P ops oi v a') hoj (fun x hf => (hp hf).of_same (execOp_put oi (fun cs b => hsel i oi cs b hi) a oj.dst x a3) (wanted_put oi a oj.dst x a3)) h2
        refine .inl ⟨hjn, qOp_mono (fun a' h4 => ih (listed.setIfInBounds j true) a' (inv.set hj hjn) hS' hfree' (ready_mono hr (Ne.symm hji)) h4.2.1 h4.1 ?_) h3⟩
        rw [Array.setIfInBounds_comm _ _ hji]
        exact h4.2.2
      · cases hf : fl i with
        | false => exact absurd hj (tailF_waits hs hc hn inv _ i rfl hin hf hun j (by omega))
        | true =>
          refine .inr ⟨by omega, fun w hw => ?_⟩
          have := wpAny_pure_first hi hsel (f + 1 + g) listed a w hfree hr (hp hf) (wpAny_of_M (f + 1) _ _ w hw H)
          rwa [show f + 1 + 1 + g = f + 1 + g + 1 by omega]
theorem pure_of_extract {P : Program} {ops : Array Oper} {C : World → Prop} {o : Oper} {v : Value} {a : Act} {t : Operand} {x : Nat} (ho : o.op = .extract t x) (hne : ∃ w, C w) (hy : YieldsIn P ops C o v a) : PureAt P ops o v a := by
  rcases hy with ⟨hw, h⟩ | h
  · refine .inl ⟨hw, fun w => ?_⟩
    obtain ⟨w0, hw0⟩ := hne
    have h0 := h w0 hw0
    unfold Oper.quietAt at h0
    simp only [execOp, ho, Instr.extract] at h0 ⊢
    cases hv : a.eval t with
    | tuple vs =>
      simp only [hv] at h0 ⊢
      cases hx : vs[x]? with
      | some z =>
        simp only [hx] at h0 ⊢
        exact ⟨rfl, h0.2⟩
      | none => simp only [hx] at h0; exact (h0 : False).elim
    | _ => simp only [hv] at h0; exact (h0 : False).elim
  · exact .inr h
theorem wpAnyM_lex {P : Program} {ops : Array Oper} {md : Region.Mode} {C : World → Prop} {Q : Exit → Act → World → Prop} {fl : Nat → Bool} {n g : Nat} {Lq : Act → Prop} (hsel : Region.noSelect ops = true) (hs : sinkF md ops n fl = true) (hc : Region.chainB md ops n = true) (hn : n < ops.size)
    (hex : ∀ k o, fl k = true → ops[k]? = some o → ∃ t x, o.op = .extract t x) (hne : ∃ w, C w)
    (hL : ∀ listed a, Region.seqB md ops g n listed = true → Lq a → ∀ w, C w → wpAny P md ops (OnlyN Q) g listed a w) :
    ∀ (l : List Oper) (k : Nat) (listed : Array Bool) (a : Act), (∀ j, j < l.length → l[j]? = ops[k + j]?) → k + l.length = n → HeadInv md ops n listed → (∀ j, listed.getD j true = false → k ≤ j) →
    Region.lexHead md ops g l.length k listed = true → wpQuiet P ops C Lq l a → wpAnyM P md ops C (OnlyN Q) n g l.length listed a
  | [], k, listed, a, _, hk, _, _, hB, h => by
    have : k = n := by simpa using hk
    subst this
    exact fun w hw => hL listed a (by simpa [Region.lexHead] using hB) h w hw
  | o :: l, k, listed, a, hl, hk, inv, hlow, hB, h => by
    have h0 : ops[k]? = some o := by simpa using (hl 0 (by simp)).symm
    simp only [List.length_cons, Region.lexHead, Bool.and_eq_true] at hB
    obtain ⟨⟨hr, hf⟩, hB'⟩ := hB
    have hkn : k < n := by simp only [List.length_cons] at hk; omega
    have hr' : k ∈ Region.ready md ops listed := by simpa using hr
    have hst : qOp P ops C k (wpQuiet P ops C Lq l) a := by unfold qOp; simp only [h0]; exact h
    obtain ⟨v, hy, hK⟩ := yieldsIn_of_qOp h0 hst
    refine wpAnyM_first h0 (Region.noSelect_spec hsel) hkn hs hc hn l.length listed a inv ⟨List.range' (k + 1) l.length, by simp, fun j hj hjk hju => ?_⟩ (Region.free_spec h0 hf) hr' hy (fun hfl => ?_)
      (wpAnyM_lex hsel hs hc hn hex hne hL l (k + 1) _ _ (fun j hj => by have := hl (j + 1) (by simp; omega); simpa [Nat.add_assoc, Nat.add_comm 1 j] using this) (by simp only [List.length_cons] at hk; omega) (inv.set hr' hkn) (fun j hj => ?_) hB' hK)
    · have := hlow j hju
      simp only [List.length_cons] at hk
      rw [List.mem_range'_1]
      omega
    · obtain ⟨t, x, ho⟩ := hex k o hfl h0
      exact pure_of_extract ho hne hy
    · have hkj : k ≠ j := by
        intro e
        subst e
        have hlt : k < listed.size := by rw [inv.size]; omega
        simp [hlt] at hj
      rw [getD_set_ne true hkj] at hj
      have := hlow j hj
      omega

/-- A quiet head in a class of worlds, extracts that float, then a tail in one order. -/
theorem region_float_tail {P : Program} {C : World → Prop} {id : Nat} {Q : Exit → Act → World → Prop} {a : Act} {w : World} {l : List Oper} (n : Nat) (fl : Nat → Bool) (hm : P.follows .mixedOrders = true)
    (hB : (Region.noSelect l.toArray && decide (n < l.toArray.size) && sinkF .any l.toArray n fl && Region.chainB .any l.toArray n && Region.lexHead .any l.toArray (l.toArray.size - n) n 0 (Array.replicate l.toArray.size false)) = true)
    (hex : ∀ k o, fl k = true → l.toArray[k]? = some o → ∃ t x, o.op = .extract t x) (hC : C w.drew)
    (h : wpQuiet P l.toArray C (fun a' => ∀ w', C w' → wpList P l.toArray (OnlyN Q) (l.drop n) a' w') (l.take n) a) : (Code.region id l.toArray true).wp P Q a w := by
  refine Code.wp_mono OnlyN.imp ?_
  simp only [Bool.and_eq_true, decide_eq_true_eq] at hB
  obtain ⟨⟨⟨⟨hsel, hn⟩, hs⟩, hc⟩, hlex⟩ := hB
  have hn' : n < l.length := by simpa using hn
  have htl : (l.take n).length = n := by simp; omega
  have hdl : (l.drop n).length = l.toArray.size - n := by simp
  have inv0 : HeadInv .any l.toArray n (Array.replicate l.toArray.size false) :=
    ⟨by simp, fun j oj _ hl => (by rw [getD_replicate_false] at hl; cases hl), fun t _ ht => getD_in (by simpa using ht) (getD_replicate_false _ _)⟩
  have H := wpAnyM_lex (md := .any) (g := l.toArray.size - n) (Q := Q) hsel hs hc hn hex ⟨_, hC⟩ (fun listed a' hL hq w' hw' => by
      have := wpAny_of_seq (md := .any) (Q' := OnlyN Q) (l.drop n) n listed a' w' (fun j => by simp [List.getElem?_drop]) (by rw [hdl]; exact hL) (hq w' hw')
      rwa [hdl] at this)
    (l.take n) 0 _ a (fun j hj => by
      have hj' : j < n := by rw [htl] at hj; exact hj
      simp [hj']) (by simpa using htl) inv0 (fun j _ => Nat.zero_le _) (by rw [htl]; exact hlex) h
  refine wp_region_any hm ?_
  have := wpAny_of_M _ _ _ w.drew hC H
  rw [htl, show n + (l.toArray.size - n) = l.toArray.size by omega] at this
  exact this
/-- The same: the head's callees at most make memory. -/
theorem region_ext_float {P : Program} {id : Nat} {Q : Exit → Act → World → Prop} {a : Act} {w : World} {l : List Oper} (n : Nat) (fl : Nat → Bool) (hm : P.follows .mixedOrders = true)
    (hB : (Region.noSelect l.toArray && decide (n < l.toArray.size) && sinkF .any l.toArray n fl && Region.chainB .any l.toArray n && Region.lexHead .any l.toArray (l.toArray.size - n) n 0 (Array.replicate l.toArray.size false)) = true)
    (hex : ∀ k o, fl k = true → l.toArray[k]? = some o → ∃ t x, o.op = .extract t x)
    (h : wpQuiet P l.toArray (fun w' => ∃ m : ExtW w, w' = exw m) (fun a' => ∀ w', (∃ m : ExtW w, w' = exw m) → wpList P l.toArray (OnlyN Q) (l.drop n) a' w') (l.take n) a) : (Code.region id l.toArray true).wp P Q a w :=
  region_float_tail n fl hm hB hex ⟨⟨_, (Below.refl _ w).drew⟩, rfl⟩ h
end Go.Proofs.YtpebpfaecdmabaaGreatDoor
