/- Proved: for every list of keys and every list of nodes that are dropped the law HeapDrops (what is pushed and not dropped comes out, by rising keys) returns true. No condition. -/
import Derived.Test.YtpapknmkiampgaaRows
import Derived.Test.YtpapknmkiampgaaR
import Derived.Test.YtpapknmkiampgaaO
import Derived.WalkKit
import Derived.ProofKit
import Derived.OpenShut
import Derived.ShutString
import Derived.SizedLaws
import Derived.Below
namespace Go.Proofs.Ytpapknmkiampgaa.heapDrops
open Go.ChangeShapes Go.WideShapes Go.ChangeAt Go.RowKit
open Go.ChangeMaps (open_string shut_string)
set_option linter.unusedVariables false

theorem own : ownKnob Try.prog.godebug = none := by kernel_rfl
theorem laidOut : laidOutB Try.prog = true := by kernel_rfl

set_option maxHeartbeats 1000000 in
set_option maxRecDepth 100000 in
theorem lifted (os : Os) (started : os.Started) (H : Type) (enc : TypeId × Value → H) :
    ReturnsInHanded {} Try.checked os 3 .any (Rows.heapDropsSpec.pre6 enc Try.prog Try.f3 Rows.heapDropsRow.domain false) (Rows.heapDropsSpec.post enc Try.prog Try.f3 false true false false) := by
  refine returnsInHanded_of_change_sized (C := Try.checked) own started (by kernel_rfl) Try.func3
    (ChangeSpec.witness6 (enc := enc) (C := Try.checked) false ⟨#[], #[.slice none 0 0, .slice none 0 0], []⟩ 8 (by kernel_rfl) (by kernel_rfl) (by kernel_rfl) (by kernel_rfl)) ?_
  intro W base args ds gs before hval0 hW hcnd hsz0 _
  have hsz : (DataW.weightsEach Try.prog (Try.f3.params.toList ++ Rows.heapDropsSpec.plain.varTypes Try.prog) (ds ++ gs)).all (· ≤ reachBytes) = true := hsz0
  clear hsz0
  have hval : ∀ (j : Nat) t v, Try.f3.params[j]? = some t → args[j]? = some v → Value.okWide Try.prog W .any base t v := hval0
  have hW' := hW
  obtain ⟨p, q, hA0, hV, rfl, hfz, hnd⟩ := hW
  have hA : DataW.TrodAll enc Try.prog W 0 (fun _ => true) true Try.f3.params.toList args.toList ds p := hA0
  rw [Try.params3] at hA hval hsz
  obtain ⟨v0, vs0, d0, ds0, p0, q0, hargs, rfl, rfl, h0, r0⟩ := trodAll_cons hA
  obtain ⟨v1, vs1, d1, ds1, p1, q1, rfl, rfl, rfl, h1, r1⟩ := trodAll_cons r0
  obtain ⟨rfl, rfl, rfl⟩ := trodAll_nil r1
  obtain rfl : args = #[v0, v1] := by cases args; simp_all
  obtain ⟨rfl, rfl⟩ := trodVars_none hV
  have k0 := h0
  have lt0 : ∀ x ∈ p0, x.block < W.heap.size := by obtain ⟨m, hm⟩ := k0; exact DataW.trod_lt m _ _ _ hm
  obtain ⟨n0, cs0, sl0, el0, dd0⟩ := open_sl (sz := 1) Try.underlying22 (by kernel_rfl) (by decide) (hval 0 22 v0 rfl rfl) h0
  obtain ⟨z0, zl0, rfl, w0⟩ := list_of_chunks (fun x => [Value.int .i64 x]) (fun x => (Lit.int .i64 x).wf = true) 1 n0 cs0 sl0.1 (fun i hi => (fun ⟨_, _, h⟩ => by obtain ⟨x, h1, _, h2⟩ := DataW.trod_int Try.underlying3 h; exact ⟨x, h1, h2⟩) (el0 i hi))
  have s0 : n0 * 8 ≤ 140737488351232 := by
    rcases dd0 with ⟨rfl, _⟩ | ⟨elems, sp, rfl, rfl⟩
    · omega
    · have hb := sized_slice hsz (j := 0) (t := 22) (e := 3) rfl rfl Try.underlying22
      rw [show Try.prog.bytesOf 3 = 8 by kernel_rfl] at hb
      simp only [reachBytes] at hb
      omega
  subst zl0
  have k1 := h1
  have lt1 : ∀ x ∈ p1, x.block < W.heap.size := by obtain ⟨m, hm⟩ := k1; exact DataW.trod_lt m _ _ _ hm
  obtain ⟨n1, cs1, sl1, el1, dd1⟩ := open_sl (sz := 1) Try.underlying23 (by kernel_rfl) (by decide) (hval 1 23 v1 rfl rfl) h1
  obtain ⟨z1, zl1, rfl, w1⟩ := list_of_chunks enc8 (fun m => m ≤ 255) 1 n1 cs1 sl1.1 (fun i hi => (fun ⟨_, _, h⟩ => by obtain ⟨x, h1, _, h2⟩ := DataW.trod_int Try.underlying5 h; obtain ⟨m, rfl, h3⟩ := u8_nat h2; exact ⟨m, h1, h3⟩) (el1 i hi))
  have s1 : n1 * 1 ≤ 140737488351232 := by
    rcases dd1 with ⟨rfl, _⟩ | ⟨elems, sp, rfl, rfl⟩
    · omega
    · have hb := sized_slice hsz (j := 1) (t := 23) (e := 5) rfl rfl Try.underlying23
      rw [show Try.prog.bytesOf 5 = 1 by kernel_rfl] at hb
      simp only [reachBytes] at hb
      omega
  subst zl1
  clear hA0 hval0
  refine (HeapDrops_walk v0 v1 z0 z1 W (by rw [← flatMap_one]; exact sl0) sl1 w1).mono fun e W' ⟨he, bel⟩ => ?_
  subst he
  exact ⟨_, rfl, _, _, _, [], _, [], hW', trodAll_mk1 (shut_bool Try.underlying4 _), (trodAll_cons_mk (Below.trod laidOut (by kernel_rfl) (of_decide_eq_true (by kernel_rfl)) k0 bel lt0) (trodAll_cons_mk (Below.trod laidOut (by kernel_rfl) (of_decide_eq_true (by kernel_rfl)) k1 bel lt1) trodAll_mk0)), rfl, bel.frame _, fun h => by cases h⟩

theorem over : Rows.heapDropsRow.holds Try.pinned (OpenSpec.ofChange Rows.heapDropsSpec) :=
  OpenClaim.holds_of_wide 3 Try.f3 rfl rfl rfl rfl rfl rfl rfl ⟨rfl, rfl, rfl, rfl, rfl⟩ rfl rfl rfl rfl rfl (by kernel_rfl) Try.func3 (by kernel_rfl)
    (of_decide_eq_true (by kernel_rfl)) (by unfold Func.isWrapper; first | (rw [if_pos (by decide +kernel)]; kernel_rfl) | (rw [if_neg (by decide +kernel)]; exact ⟨rfl, rfl⟩))
    (fun os started H enc _ => lifted os started H enc)

theorem proved : Rows.HeapDropsSaid := over
#print axioms proved
end Go.Proofs.Ytpapknmkiampgaa.heapDrops
