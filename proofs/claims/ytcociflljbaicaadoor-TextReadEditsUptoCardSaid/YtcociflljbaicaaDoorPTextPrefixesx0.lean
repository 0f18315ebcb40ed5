-- PRINTED BY print.sh 35421559b90ae4d0a3588c463048766b98c2df88dd9212a6774a882060cdf62d: not written by this session
import Derived.Test.YtcociflljbaicaaDoorProg
import Derived.Below
import Derived.Deep.Draws
import Derived.Deep.AppendLies
import Derived.Maps.AppendAt
import Derived.OwnWalk
import Derived.Laws.BytesArg
import Derived.Laws.MakeOwn
import Derived.Laws.OwnMore
import Derived.Deep.OwnRows
import Derived.Tactics
import Derived.Lib.ConvBytes
import Derived.Laws.Slices
import Derived.WalkKit
import Derived.KernelRfl
import Derived.RowKit3
import Derived.Deep.LoopGhost
import Derived.Deep.QuietTactic
import Derived.BigQuiet
import Derived.WideLaws
import Derived.Deep.DeepCutAuto
import Derived.Deep.CutBlock
import Derived.Deep.RegionHeld3
import Derived.Laws.Rows
import Derived.Lib.AppendStr
import Derived.ArgAppend
import Derived.Laws.IdiomCopy
import Derived.OrdersHeld
import Derived.Laws.BitsLemmas
import Derived.RowKit
import Derived.Test.YtcociflljbaicaaDoorWWords
import Derived.Test.YtcociflljbaicaaDoorWLast
import Derived.Test.YtcociflljbaicaaDoorWTab
import Derived.Test.YtcociflljbaicaaDoorWFour
import Derived.Test.YtcociflljbaicaaDoorWQPut
import Derived.Test.YtcociflljbaicaaDoorWApart
import Derived.Test.YtcociflljbaicaaDoorWArr
import Derived.Test.YtcociflljbaicaaDoorWZeros
import Derived.Test.YtcociflljbaicaaDoorWFoot
import Derived.Test.YtcociflljbaicaaDoorWKept
import Derived.Test.YtcociflljbaicaaDoorWShare
import Derived.Test.YtcociflljbaicaaDoorWN
import Derived.Test.YtcociflljbaicaaDoorWFootNe
import Derived.Test.YtcociflljbaicaaDoorWAt
import Derived.Test.YtcociflljbaicaaDoorWEqStruct
import Derived.Test.YtcociflljbaicaaDoorWRepsOne
import Derived.Test.YtcociflljbaicaaDoorWInv
import Derived.Test.YtcociflljbaicaaDoorWInvWords
import Derived.Test.YtcociflljbaicaaDoorWGuard
import Derived.Test.YtcociflljbaicaaDoorWNEv
import Derived.Test.YtcociflljbaicaaDoorWMore
namespace Go.Proofs.YtcociflljbaicaaDoor.PTextPrefixes
open Go.RowKit Go.Proofs.YtcociflljbaicaaDoorW.PrintWords Go.Proofs.YtcociflljbaicaaDoorW.PrintLast Go.Proofs.YtcociflljbaicaaDoorW.PrintMore
attribute [local go_sem] max2_int min2_int max_two min_two max_three min_three max_four min_four   -- for this text's walks alone
set_option linter.unusedVariables false
set_option linter.unusedSimpArgs false



def errW : Option Int → Value
  | none => .nilIface
  | some c => .iface 75 (.int .i64 c)
theorem errW_none : errW none = .nilIface := rfl
theorem errW_some (c : Int) : errW (some c) = .iface 75 (.int .i64 c) := rfl

theorem info5 : (Tryd.prog.info? 5).map (fun i => (i.zero, i.size, i.bytes)) = some (some (.int .u8 0), 1, 1) := by kernel_rfl
theorem info9 : (Tryd.prog.info? 9).map (fun i => (i.zero, i.size, i.bytes)) = some (some (.string ⟨#[]⟩), 1, 16) := by kernel_rfl
-- the values' own types

end Go.Proofs.YtcociflljbaicaaDoor.PTextPrefixes
