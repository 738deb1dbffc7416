-- Laid by a program of this session (a turned printer)
import Derived.Test.YtcpijkckjahfdaaProg
import Derived.Below
import Derived.Deep.Draws
import Derived.Deep.AppendLies
import Derived.Maps.AppendAt
import Derived.OwnWalk
import Derived.Laws.BytesArg
import Derived.Laws.MakeOwn
import Derived.Laws.OwnMore
import Derived.Deep.OwnRows
import Derived.Tactics
import Derived.Lib.ConvBytes
import Derived.Laws.Slices
import Derived.WalkKit
import Derived.KernelRfl
import Derived.RowKit3
import Derived.Deep.LoopGhost
import Derived.Deep.QuietTactic
import Derived.BigQuiet
import Derived.WideLaws
import Derived.Deep.DeepCutAuto
import Derived.Deep.CutBlock
import Derived.Deep.RegionHeld3
import Derived.Laws.Rows
import Derived.Lib.AppendStr
import Derived.ArgAppend
import Derived.Laws.IdiomCopy
import Derived.OrdersHeld
import Derived.Laws.BitsLemmas
import Derived.RowKit
import Derived.Test.YtcpijkckjahfdaaWWords
import Derived.Test.YtcpijkckjahfdaaWLast
import Derived.Test.YtcpijkckjahfdaaWTab
import Derived.Test.YtcpijkckjahfdaaWFour
import Derived.Test.YtcpijkckjahfdaaWQPut
import Derived.Test.YtcpijkckjahfdaaWApart
import Derived.Test.YtcpijkckjahfdaaWArr
import Derived.Test.YtcpijkckjahfdaaWZeros
import Derived.Test.YtcpijkckjahfdaaWFoot
import Derived.Test.YtcpijkckjahfdaaWKept
import Derived.Test.YtcpijkckjahfdaaWShare
import Derived.Test.YtcpijkckjahfdaaWN
import Derived.Test.YtcpijkckjahfdaaWFootNe
import Derived.Test.YtcpijkckjahfdaaWAt
import Derived.Test.YtcpijkckjahfdaaWEqStruct
import Derived.Test.YtcpijkckjahfdaaWRepsOne
import Derived.Test.YtcpijkckjahfdaaWInv
import Derived.Test.YtcpijkckjahfdaaWInvWords
import Derived.Test.YtcpijkckjahfdaaWGuard
import Derived.Test.YtcpijkckjahfdaaWNEv
import Derived.Test.YtcpijkckjahfdaaWMore
namespace Go.Proofs.Ytcpijkckjahfdaa.PAll
open Go.RowKit Go.Proofs.YtcpijkckjahfdaaW.PrintWords Go.Proofs.YtcpijkckjahfdaaW.PrintLast Go.Proofs.YtcpijkckjahfdaaW.PrintMore
attribute [local go_sem] max2_int min2_int max_two min_two max_three min_three max_four min_four   -- for this text's walks alone
set_option linter.unusedVariables false
set_option linter.unusedSimpArgs false



def errW : Option Int → Value
  | none => .nilIface
  | some c => .iface 0 (.int .i64 c)
theorem errW_none : errW none = .nilIface := rfl
theorem errW_some (c : Int) : errW (some c) = .iface 0 (.int .i64 c) := rfl

theorem info5 : (Try.prog.info? 5).map (fun i => (i.zero, i.size, i.bytes)) = some (some (.int .u8 0), 1, 1) := by kernel_rfl
-- the values' own types

end Go.Proofs.Ytcpijkckjahfdaa.PAll
