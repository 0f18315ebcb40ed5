/- The laid variables of the row TextPrefixes, read; a prefix among the arguments, opened. -/
import Derived.Test.YtcociflljbaicaaDoorS
import Derived.Test.YtcociflljbaicaaDoorRows
import Derived.ProofKit
import Derived.LaidMore
import Derived.OpenShut
import Derived.MakeChecks
import Derived.Stop.LaidErr
import Derived.Stop.Joined
import Derived.Shelf.Vars
import Derived.ChangeSame
namespace Go.Proofs.YtcociflljbaicaaDoor
open Go.ChangeShapes Go.WideShapes Go.ChangeAt Go.RowKit

theorem gES : Tryd.prog.globalNamed "strconv.ErrSyntax" = some 1 := by kernel_rfl
theorem tES : (Tryd.prog.globals[1]?).map (·.type) = some 46 := by kernel_rfl
theorem gER : Tryd.prog.globalNamed "strconv.ErrRange" = some 2 := by kernel_rfl
theorem tER : (Tryd.prog.globals[2]?).map (·.type) = some 46 := by kernel_rfl
theorem gPw : Tryd.prog.globalNamed "internal/strconv.uint64pow10" = some 3 := by kernel_rfl
theorem tPw : (Tryd.prog.globals[3]?).map (·.type) = some 108 := by kernel_rfl
theorem cPw : Tryd.prog.cellsOf 108 = 20 := by kernel_rfl
theorem c66 : Tryd.prog.cellsOf 66 = 1 := by kernel_rfl
theorem c117 : Tryd.prog.cellsOf 117 = 1 := by kernel_rfl
theorem c9 : Tryd.prog.cellsOf 9 = 1 := by kernel_rfl
theorem c24 : Tryd.prog.cellsOf 24 = 2 := by kernel_rfl
theorem c22 : Tryd.prog.cellsOf 22 = 1 := by kernel_rfl
theorem c3 : Tryd.prog.cellsOf 3 = 1 := by kernel_rfl
theorem star : "*" ++ "errors.errorString" = "*errors.errorString" := by decide
theorem rowES (u : TypeId) (h : Tryd.prog.typeName? 3 u = some "*errors.errorString") : u = 115 :=
  typeName_ptr_named (nm := "errors.errorString") (by rw [star]; kernel_rfl) (by kernel_rfl) (by decide) u (by rw [star]; exact h)
theorem pow_data : (Rows.laid_internal_strconv_uint64pow10 : DataW Unit) = Lib.tabData .u64 Lib.pow10Tab := rfl

theorem of_laid {W : World} (h : laidMetH Tryd.prog Rows.textPrefixesUptoRow.laid W) (hsh : W.ShapedOpen Tryd.prog) : VarsW W := by
  rw [MakeChecks.laidMetH_plain _ _ _ (by kernel_rfl)] at h
  have h2 := laidMet.tail (laidMet.tail h)
  rw [pow_data] at h2
  have hp := Lib.tabIs_of_head gPw tPw Tryd.underlying108 Tryd.underlying66 c66 cPw h2
  have h3 := laidMet.tail (laidMet.tail h2)
  obtain ⟨a0, s0, hv0, -, -, -⟩ := laid_sentinel h3 gER tER Tryd.underlying46 rowES Tryd.underlying115 Tryd.underlying117 rfl rfl Tryd.underlying9 c117 c9
  obtain ⟨a1, s1, hv1, -, -, -⟩ := laid_sentinel (laidMet.tail h3) gES tES Tryd.underlying46 rowES Tryd.underlying115 Tryd.underlying117 rfl rfl Tryd.underlying9 c117 c9
  exact ⟨hp, ⟨_, _, hv1⟩, ⟨_, _, hv0⟩, cell_of_shapedOpen_int (zero := #[.int .i64 0]) (t := 3) hsh (of_decide_eq_true (by kernel_rfl)) (by kernel_rfl) rfl (by kernel_rfl) (by kernel_rfl) Tryd.underlying3⟩

set_option maxRecDepth 100000 in
theorem open_pfx {H : Type} {enc : TypeId × Value → H} {W : World} {b : Nat} {v : Value} {d : DataW H} {p : List MemPlace}
    (hok : Value.okWide Tryd.prog W .any b 24 v) (h : DataW.Trod enc Tryd.prog W 0 (fun _ => true) true 24 v d p) : ∃ (a : Nat) (n : Int), a < 4294967296 ∧ v = pv a n := by
  simp only [Value.okWide, Tryd.underlying24] at hok
  obtain ⟨cs, rfl, _, _⟩ := hok
  obtain ⟨fuel, hf⟩ := h
  obtain ⟨y0, y1, m, _, hl, h0, h1⟩ := trod_struct2 Tryd.underlying24 hf
  obtain ⟨x0, e0, _, w0⟩ := DataW.trod_int Tryd.underlying22 h0
  obtain ⟨x1, e1, _, w1⟩ := DataW.trod_int Tryd.underlying3 h1
  rw [c22] at e0
  rw [c3] at e1
  rw [c24] at hl
  have w0' : 0 ≤ x0 ∧ x0 < 4294967296 := by
    simp [Lit.wf, IntKind.min, IntKind.max, IntKind.signed, IntKind.bits] at w0
    omega
  refine ⟨x0.toNat, x1, by omega, ?_⟩
  unfold pv
  rw [show ((x0.toNat : Nat) : Int) = x0 by omega]
  congr 1
  apply Array.toList_inj.1
  simp only [Value.cells, List.drop_zero] at hl e0 e1
  have h2 := List.take_append_drop 1 cs.toList
  rw [e0] at h2
  have h3 : (cs.toList.drop 1).take 1 = cs.toList.drop 1 := List.take_of_length_le (by simp; simp at hl; omega)
  rw [← h2, ← h3, e1]
  rfl
end Go.Proofs.YtcociflljbaicaaDoor
