/- The laid variables of the row BitsTexts, read. -/
import Derived.Test.YthhinchifegofaaDoorTZ
import Derived.Test.YthhinchifegofaaDoorRows
import Derived.Test.YthhinchifegofaaDoorS
import Derived.ProofKit
import Derived.LaidMore
import Derived.OpenShut
import Derived.MakeChecks
import Derived.Stop.LaidErr
import Derived.Stop.Joined
import Derived.Shelf.Vars
import Derived.ChangeSame
namespace Go.Proofs.YthhinchifegofaaDoor.KT
open Go.ChangeShapes Go.WideShapes Go.ChangeAt Go.RowKit

theorem gES : Tryd.prog.globalNamed "strconv.ErrSyntax" = some 1 := by kernel_rfl
theorem tES : (Tryd.prog.globals[1]?).map (·.type) = some 51 := by kernel_rfl
theorem gER : Tryd.prog.globalNamed "strconv.ErrRange" = some 2 := by kernel_rfl
theorem tER : (Tryd.prog.globals[2]?).map (·.type) = some 51 := by kernel_rfl
theorem gPw : Tryd.prog.globalNamed "internal/strconv.uint64pow10" = some 4 := by kernel_rfl
theorem tPw : (Tryd.prog.globals[4]?).map (·.type) = some 103 := by kernel_rfl
theorem c22 : Tryd.prog.cellsOf 22 = 1 := by kernel_rfl
theorem cPw : Tryd.prog.cellsOf 103 = 20 := by kernel_rfl
theorem c101 : Tryd.prog.cellsOf 101 = 1 := by kernel_rfl
theorem c9 : Tryd.prog.cellsOf 9 = 1 := by kernel_rfl
theorem star : "*" ++ "errors.errorString" = "*errors.errorString" := by decide
theorem rowES (u : TypeId) (h : Tryd.prog.typeName? 3 u = some "*errors.errorString") : u = 99 :=
  typeName_ptr_named (nm := "errors.errorString") (by rw [star]; kernel_rfl) (by kernel_rfl) (by decide) u (by rw [star]; exact h)
theorem pow_data : (Rows.laid_internal_strconv_uint64pow10 : DataW Unit) = Lib.tabData .u64 Lib.pow10Tab := rfl

theorem gTab : Tryd.prog.globalNamed "math/bits.deBruijn64tab" = some 0 := by kernel_rfl
theorem tTab : (Tryd.prog.globals[0]?).map (·.type) = some 59 := by kernel_rfl
theorem tab_data {H : Type} : (Rows.laid_math_bits_deBruijn64tab : DataW H) = .agg (tzTab.map fun (k : Nat) => .lit (.int .u8 (k : Int))) := rfl

theorem of_laid {W : World} (h : laidMetH Tryd.prog Rows.bitsTextsUptoRow.laid W) (hsh : W.ShapedOpen Tryd.prog) : VarsW W := by
  rw [MakeChecks.laidMetH_plain _ _ _ (by kernel_rfl)] at h
  have h2 := laidMet.tail (laidMet.tail h)
  rw [pow_data] at h2
  have hp := Lib.tabIs_of_head gPw tPw Tryd.underlying103 Tryd.underlying22 c22 cPw h2
  have h3 := laidMet.tail (laidMet.tail h2)
  obtain ⟨a0, s0, hv0, -, -, -⟩ := laid_sentinel h3 gER tER Tryd.underlying51 rowES Tryd.underlying99 Tryd.underlying101 rfl rfl Tryd.underlying9 c101 c9
  obtain ⟨a1, s1, hv1, -, -, -⟩ := laid_sentinel (laidMet.tail h3) gES tES Tryd.underlying51 rowES Tryd.underlying99 Tryd.underlying101 rfl rfl Tryd.underlying9 c101 c9
  exact ⟨hp, ⟨_, _, hv1⟩, ⟨_, _, hv0⟩, cell_of_shapedOpen_int (zero := #[.int .i64 0]) (t := 3) hsh (of_decide_eq_true (by kernel_rfl)) (by kernel_rfl) rfl (by kernel_rfl) (by kernel_rfl) Tryd.underlying3⟩

theorem tab_of_laid {W : World} (h : laidMetH Tryd.prog Rows.bitsTextsUptoRow.laid W) : TabW W := by
  rw [MakeChecks.laidMetH_plain _ _ _ (by kernel_rfl)] at h
  replace h := laidMet.tail h
  obtain ⟨ps, ⟨g0, t0, cs0, f0, p0, q0, hg0, ht0, hv0, hd0, _⟩, _, _⟩ := h
  obtain rfl := Option.some.inj (gTab.symm.trans hg0)
  obtain rfl := Option.some.inj (tTab.symm.trans ht0)
  obtain ⟨xs, m1, rfl, hx1, hlen, hn3, hel⟩ := DataW.trod_array Tryd.underlying59 hd0
  rw [tab_data] at hx1
  simp only [Prod.mk.injEq, DataW.agg.injEq] at hx1
  have c5 : Tryd.prog.cellsOf 5 = 1 := by kernel_rfl
  refine ⟨fun i k hk => ?_⟩
  have hi : i < 64 := by
    have := (List.getElem?_eq_some_iff.1 hk).1
    exact Nat.lt_of_lt_of_eq this (by decide)
  have h1 := hel i hi
  rw [c5, Nat.mul_one] at h1
  obtain ⟨x, hx⟩ : ∃ x, xs[i]? = some x := ⟨xs[i], List.getElem?_eq_getElem (by omega)⟩
  rw [hx] at h1
  obtain ⟨n, e1, e2, _⟩ := DataW.trod_int Tryd.underlying5 h1
  have hm : (xs.map (·.1))[i]? = some (.lit (.int .u8 n)) := by rw [List.getElem?_map, hx, e2]; rfl
  rw [← hx1.1, List.getElem?_map, hk] at hm
  have hnk : n = (k : Int) := by simpa using hm.symm
  subst hnk
  rw [World.var?_cell hg0 hv0 i, ← Array.getElem?_toList]
  have h2 : cs0.toList[i]? = (cs0.toList.drop i)[0]? := by rw [List.getElem?_drop]; rfl
  have h3 : ((cs0.toList.drop i).take 1)[0]? = (cs0.toList.drop i)[0]? := by rw [List.getElem?_take]; rfl
  rw [h2, ← h3, e1]
  rfl
end Go.Proofs.YthhinchifegofaaDoor.KT
