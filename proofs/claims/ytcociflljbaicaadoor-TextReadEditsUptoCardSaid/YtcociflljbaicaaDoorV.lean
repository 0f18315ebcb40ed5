/- The library's variables that are read, and contracts of Itoa, Atoi, Read, Text over them. -/
import Derived.Test.YtcociflljbaicaaDoorM
import Derived.Test.YtcociflljbaicaaDoorY
import Derived.Test.YtcociflljbaicaaDoorL
import Derived.Lib.AppendIntMem
namespace Go.Proofs.YtcociflljbaicaaDoor
open Go.RowKit Go.Lib

/-- The library's variables are as they were laid. -/
structure VarsW (w : World) : Prop where
  pow : Lib.TabIs Tryd.prog w "internal/strconv.uint64pow10" .u64 Lib.pow10Tab
  es : ∃ tp p, w.var? Tryd.prog "strconv.ErrSyntax" = some #[.iface tp p]
  er : ∃ tp p, w.var? Tryd.prog "strconv.ErrRange" = some #[.iface tp p]
  ml : ∃ m, w.cell? ⟨0, 0, none⟩ = some (.int .i64 m)
theorem var_below {P : Program} {w w' : World} {n : String} {cs : Array Value} (h : w.var? P n = some cs) (b : Below w.heap.size w w') : w'.var? P n = some cs := by
  unfold World.var? at *
  cases hg : P.globalNamed n with
  | none => rw [hg] at h; cases h
  | some g =>
    rw [hg] at h
    simp only [Option.bind_some] at h ⊢
    cases ho : w.heap[g]? with
    | none => rw [ho] at h; cases h
    | some o =>
      rw [b.block g (Array.getElem?_eq_some_iff.1 ho).1, ho]
      rw [ho] at h
      exact h
theorem VarsW.below {w w' : World} (h : VarsW w) (b : Below w.heap.size w w') : VarsW w' := by
  obtain ⟨h1, ⟨t2, p2, h2⟩, ⟨t3, p3, h3⟩, ⟨m, h4⟩⟩ := h
  exact ⟨var_below h1 b, ⟨t2, p2, var_below h2 b⟩, ⟨t3, p3, var_below h3 b⟩, ⟨m, (b.cell (World.block_lt_of_cell? _ _ h4)).trans h4⟩⟩

theorem Itoa_any (n : Int) (h0 : -9223372036854775808 ≤ n) (h1 : n ≤ 9223372036854775807) (w : World) (hv : VarsW w) :
    Calls Tryd.prog 14 #[.int .i64 n] w fun e w' => e = .returned (.string ⟨(itoa n).toArray⟩) ∧ Below w.heap.size w w' := by
  refine (Tryd.strconv_Itoa n h0 h1 w hv.pow).mono ?_
  rintro e w' ⟨he, k, os, rfl⟩
  exact ⟨he, below_grow _ w (Nat.le_refl _) k os⟩
theorem Atoi_ok (s : ByteArray) (hs : s.size ≤ 140737488351232) (v : Int) (h : atoiAll s.data.toList = .ok v) (w : World) :
    Calls Tryd.prog 19 #[.string s] w fun e w' => e = .returned (.tuple #[.int .i64 v, .nilIface]) ∧ Below w.heap.size w w' := by
  refine (Tryd.strconv_Atoi_ok s (by omega) v h w).mono ?_
  rintro e w' ⟨he, rfl | ⟨t, rfl⟩⟩
  · exact ⟨he, Below.refl _ _⟩
  · exact ⟨he, bytesWorld_below _ _ _⟩
/-- A failing answer. -/
def BadAtoi (w : World) (e : Ending) (w' : World) : Prop := ∃ (n : Int) (N : Nat), e = .returned (.tuple #[.int .i64 n, .iface 78 (.pointer (some ⟨N, 0, none⟩))]) ∧ Below w.heap.size w w'
theorem Atoi_bad (s : ByteArray) (hs : s.size ≤ 140737488351232) (h : ∀ v, atoiAll s.data.toList ≠ .ok v) (w : World) (hv : VarsW w) : Calls Tryd.prog 19 #[.string s] w (BadAtoi w) := by
  obtain ⟨_, ⟨t2, p2, h2⟩, ⟨t3, p3, h3⟩, _⟩ := hv
  have hl : s.size ≤ 281474976710656 := by omega
  have key : ∀ e, atoiAll s.data.toList = e → Calls Tryd.prog 19 #[.string s] w (BadAtoi w) := by
    intro e he
    cases e with
    | ok v => exact absurd he (h v)
    | range =>
      refine (Any.strconv_Atoi_range_var Tryd.laysC172 s hl he t3 p3 w h3).mono ?_
      rintro e w' ⟨N, he, _, _, hb⟩
      exact ⟨_, N, he, hb⟩
    | _ =>
      refine (Any.strconv_Atoi_syntax_var Tryd.laysC172 s hl he t2 p2 w h2).mono ?_
      rintro e w' ⟨N, he, _, _, hb⟩
      exact ⟨_, N, he, hb⟩
  exact key _ rfl

theorem Atoi_any (s : ByteArray) (hs : s.size ≤ 140737488351232) (w : World) (hv : VarsW w) :
    Calls Tryd.prog 19 #[.string s] w fun e w' => ∃ n ev, e = .returned (.tuple #[.int .i64 n, ev]) ∧ (∀ v, atoiAll s.data.toList = .ok v → n = v) ∧ Below w.heap.size w w' := by
  by_cases h : ∃ v, atoiAll s.data.toList = .ok v
  · obtain ⟨v, hv'⟩ := h
    refine (Atoi_ok s hs v hv' w).mono ?_
    rintro e w' ⟨he, hb⟩
    exact ⟨v, _, he, fun v2 h2 => by rw [hv'] at h2; injection h2, hb⟩
  · refine (Atoi_bad s hs (fun v hv' => h ⟨v, hv'⟩) w hv).mono ?_
    rintro e w' ⟨n, N, he, hb⟩
    exact ⟨n, _, he, fun v2 h2 => absurd ⟨v2, h2⟩ h, hb⟩
end Go.Proofs.YtcociflljbaicaaDoor
