-- PRINTED BY print.sh 35421559b90ae4d0a3588c463048766b98c2df88dd9212a6774a882060cdf62d: not written by this session
import Derived.Test.YtpebpfaecdmabaaGreatDoorProg
import Derived.Below
import Derived.Deep.Draws
import Derived.Deep.AppendLies
import Derived.Maps.AppendAt
import Derived.OwnWalk
import Derived.Laws.BytesArg
import Derived.Laws.MakeOwn
import Derived.Laws.OwnMore
import Derived.Deep.OwnRows
import Derived.Tactics
import Derived.Lib.ConvBytes
import Derived.Laws.Slices
import Derived.WalkKit
import Derived.KernelRfl
import Derived.RowKit3
import Derived.Deep.LoopGhost
import Derived.Deep.QuietTactic
import Derived.BigQuiet
import Derived.WideLaws
import Derived.Deep.DeepCutAuto
import Derived.Deep.CutBlock
import Derived.Deep.RegionHeld3
import Derived.Laws.Rows
import Derived.Lib.AppendStr
import Derived.ArgAppend
import Derived.Laws.IdiomCopy
import Derived.OrdersHeld
import Derived.Laws.BitsLemmas
import Derived.RowKit
import Derived.Test.YtpebpfaecdmabaaGreatDoorWWords
import Derived.Test.YtpebpfaecdmabaaGreatDoorWLast
import Derived.Test.YtpebpfaecdmabaaGreatDoorWTab
import Derived.Test.YtpebpfaecdmabaaGreatDoorWFour
import Derived.Test.YtpebpfaecdmabaaGreatDoorWQPut
import Derived.Test.YtpebpfaecdmabaaGreatDoorWApart
import Derived.Test.YtpebpfaecdmabaaGreatDoorWArr
import Derived.Test.YtpebpfaecdmabaaGreatDoorWZeros
import Derived.Test.YtpebpfaecdmabaaGreatDoorWFoot
import Derived.Test.YtpebpfaecdmabaaGreatDoorWKept
import Derived.Test.YtpebpfaecdmabaaGreatDoorWShare
import Derived.Test.YtpebpfaecdmabaaGreatDoorWN
import Derived.Test.YtpebpfaecdmabaaGreatDoorWFootNe
import Derived.Test.YtpebpfaecdmabaaGreatDoorWAt
import Derived.Test.YtpebpfaecdmabaaGreatDoorWEqStruct
import Derived.Test.YtpebpfaecdmabaaGreatDoorWRepsOne
import Derived.Test.YtpebpfaecdmabaaGreatDoorWInv
import Derived.Test.YtpebpfaecdmabaaGreatDoorWInvWords
import Derived.Test.YtpebpfaecdmabaaGreatDoorWGuard
import Derived.Test.YtpebpfaecdmabaaGreatDoorWNEv
import Derived.Test.YtpebpfaecdmabaaGreatDoorWMore
namespace Go.Proofs.YtpebpfaecdmabaaGreatDoor.PPrefixFinds
open Go.RowKit Go.Proofs.YtpebpfaecdmabaaGreatDoorW.PrintWords Go.Proofs.YtpebpfaecdmabaaGreatDoorW.PrintLast Go.Proofs.YtpebpfaecdmabaaGreatDoorW.PrintMore
attribute [local go_sem] max2_int min2_int max_two min_two max_three min_three max_four min_four   -- for this text's walks alone
set_option linter.unusedVariables false
set_option linter.unusedSimpArgs false



def errW : Option Int → Value
  | none => .nilIface
  | some c => .iface 0 (.int .i64 c)
theorem errW_none : errW none = .nilIface := rfl
theorem errW_some (c : Int) : errW (some c) = .iface 0 (.int .i64 c) := rfl

theorem info3 : (Tryz.prog.info? 3).map (fun i => (i.zero, i.size, i.bytes)) = some (some (.int .i64 0), 1, 8) := by kernel_rfl
-- the values' own types

end Go.Proofs.YtpebpfaecdmabaaGreatDoor.PPrefixFinds
