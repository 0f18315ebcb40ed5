/- The machine's words: Or, And, Minus, and the count of a word's ones. -/
import Derived.Test.YtbbiakpieakfoaaRows
import Derived.Test.YtbbiakpieakfoaaR
import Derived.Test.YtbbiakpieakfoaaU
import Derived.Test.YtbbiakpieakfoaaQ
import Derived.Test.YtbbiakpieakfoaaP
import Derived.Laws.Bits128
namespace Go.Proofs.Ytbbiakpieakfoaa.Port
open Go.RowKit

def orB (a b : Bt) : Bt := (a.1 ||| b.1, a.2 ||| b.2)
def andB (a b : Bt) : Bt := (a.1 &&& b.1, a.2 &&& b.2)
def minusB (a b : Bt) : Bt := (a.1 &&& ~~~b.1, a.2 &&& ~~~b.2)

set_option maxHeartbeats 400000 in
theorem Or_any (a b : Bt) (w : World) :
    Calls Try.prog 19 #[bv a, bv b] w fun e w' => e = .returned (bv (orB a b)) ∧ Below w.heap.size w w' := by
  have h1 := u_or a.1 b.1
  have h2 := u_or a.2 b.2
  go_enter Try.func19, Try.ntmps19
  go_wp2
  exact bodyPost_ret (v := bv (orB a b)) (by simp [results, Try.results19, go_sem, orB]) rfl ⟨rfl, (((Below.refl _ _).alloc (Nat.le_refl _) _).alloc (by simp) _).alloc (by simp; omega) _⟩

theorem ex_int (n : Int) : ∃ m : Int, n = m := ⟨n, rfl⟩
theorem wrap_nat (n : Nat) (h : n < 18446744073709551616) : IntKind.u64.wrap (n : Int) = (n : Int) := by
  simp [IntKind.wrap, IntKind.signed, go_sem]
  omega
theorem wrap_nat_i (n : Nat) (h : n < 9223372036854775808) : IntKind.i64.wrap (n : Int) = (n : Int) := by
  simp [IntKind.wrap, IntKind.signed, go_sem]
  omega

end Go.Proofs.Ytbbiakpieakfoaa.Port
