-- PRINTED BY print.sh 35421559b90ae4d0a3588c463048766b98c2df88dd9212a6774a882060cdf62d: not written by this session
import Derived.Test.YthhinchifegofaaDoorProg
import Derived.Below
import Derived.Deep.Draws
import Derived.Deep.AppendLies
import Derived.Maps.AppendAt
import Derived.OwnWalk
import Derived.Laws.BytesArg
import Derived.Laws.MakeOwn
import Derived.Laws.OwnMore
import Derived.Deep.OwnRows
import Derived.Tactics
import Derived.Lib.ConvBytes
import Derived.Laws.Slices
import Derived.WalkKit
import Derived.KernelRfl
import Derived.RowKit3
import Derived.Deep.LoopGhost
import Derived.Deep.QuietTactic
import Derived.BigQuiet
import Derived.WideLaws
import Derived.Deep.DeepCutAuto
import Derived.Deep.CutBlock
import Derived.Deep.RegionHeld3
import Derived.Laws.Rows
import Derived.Lib.AppendStr
import Derived.ArgAppend
import Derived.Laws.IdiomCopy
import Derived.OrdersHeld
import Derived.Laws.BitsLemmas
import Derived.RowKit
import Derived.Test.YthhinchifegofaaDoorWWords
import Derived.Test.YthhinchifegofaaDoorWLast
import Derived.Test.YthhinchifegofaaDoorWTab
import Derived.Test.YthhinchifegofaaDoorWFour
import Derived.Test.YthhinchifegofaaDoorWQPut
import Derived.Test.YthhinchifegofaaDoorWApart
import Derived.Test.YthhinchifegofaaDoorWArr
import Derived.Test.YthhinchifegofaaDoorWZeros
import Derived.Test.YthhinchifegofaaDoorWFoot
import Derived.Test.YthhinchifegofaaDoorWKept
import Derived.Test.YthhinchifegofaaDoorWShare
import Derived.Test.YthhinchifegofaaDoorWN
import Derived.Test.YthhinchifegofaaDoorWFootNe
import Derived.Test.YthhinchifegofaaDoorWAt
import Derived.Test.YthhinchifegofaaDoorWEqStruct
import Derived.Test.YthhinchifegofaaDoorWRepsOne
import Derived.Test.YthhinchifegofaaDoorWInv
import Derived.Test.YthhinchifegofaaDoorWInvWords
import Derived.Test.YthhinchifegofaaDoorWGuard
import Derived.Test.YthhinchifegofaaDoorWNEv
import Derived.Test.YthhinchifegofaaDoorWMore
namespace Go.Proofs.YthhinchifegofaaDoor.PBitsTexts
open Go.RowKit Go.Proofs.YthhinchifegofaaDoorW.PrintWords Go.Proofs.YthhinchifegofaaDoorW.PrintLast Go.Proofs.YthhinchifegofaaDoorW.PrintMore
attribute [local go_sem] max2_int min2_int max_two min_two max_three min_three max_four min_four   -- for this text's walks alone
set_option linter.unusedVariables false
set_option linter.unusedSimpArgs false



def errW : Option Int → Value
  | none => .nilIface
  | some c => .iface 71 (.int .i64 c)
theorem errW_none : errW none = .nilIface := rfl
theorem errW_some (c : Int) : errW (some c) = .iface 71 (.int .i64 c) := rfl

theorem info5 : (Tryd.prog.info? 5).map (fun i => (i.zero, i.size, i.bytes)) = some (some (.int .u8 0), 1, 1) := by kernel_rfl
-- the values' own types

end Go.Proofs.YthhinchifegofaaDoor.PBitsTexts
