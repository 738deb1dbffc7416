-- Laid by a program of this session (a turned printer)
import Derived.Test.YtlomhifacokgmaaProg
import Derived.Below
import Derived.Deep.Draws
import Derived.Deep.AppendLies
import Derived.Maps.AppendAt
import Derived.OwnWalk
import Derived.Laws.BytesArg
import Derived.Laws.MakeOwn
import Derived.Laws.OwnMore
import Derived.Deep.OwnRows
import Derived.Tactics
import Derived.Lib.ConvBytes
import Derived.Laws.Slices
import Derived.WalkKit
import Derived.KernelRfl
import Derived.RowKit3
import Derived.Deep.LoopGhost
import Derived.Deep.QuietTactic
import Derived.BigQuiet
import Derived.WideLaws
import Derived.Deep.DeepCutAuto
import Derived.Deep.CutBlock
import Derived.Deep.RegionHeld3
import Derived.Laws.Rows
import Derived.Lib.AppendStr
import Derived.ArgAppend
import Derived.Laws.IdiomCopy
import Derived.OrdersHeld
import Derived.Laws.BitsLemmas
import Derived.RowKit
import Derived.Test.YtlomhifacokgmaaWWords
import Derived.Test.YtlomhifacokgmaaWLast
import Derived.Test.YtlomhifacokgmaaWTab
import Derived.Test.YtlomhifacokgmaaWFour
import Derived.Test.YtlomhifacokgmaaWQPut
import Derived.Test.YtlomhifacokgmaaWApart
import Derived.Test.YtlomhifacokgmaaWArr
import Derived.Test.YtlomhifacokgmaaWZeros
import Derived.Test.YtlomhifacokgmaaWFoot
import Derived.Test.YtlomhifacokgmaaWKept
import Derived.Test.YtlomhifacokgmaaWShare
import Derived.Test.YtlomhifacokgmaaWN
import Derived.Test.YtlomhifacokgmaaWFootNe
import Derived.Test.YtlomhifacokgmaaWAt
import Derived.Test.YtlomhifacokgmaaWEqStruct
import Derived.Test.YtlomhifacokgmaaWRepsOne
import Derived.Test.YtlomhifacokgmaaWInv
import Derived.Test.YtlomhifacokgmaaWInvWords
import Derived.Test.YtlomhifacokgmaaWGuard
import Derived.Test.YtlomhifacokgmaaWNEv
import Derived.Test.YtlomhifacokgmaaWMore
namespace Go.Proofs.Ytlomhifacokgmaa.PAll
open Go.RowKit Go.Proofs.YtlomhifacokgmaaW.PrintWords Go.Proofs.YtlomhifacokgmaaW.PrintLast Go.Proofs.YtlomhifacokgmaaW.PrintMore
attribute [local go_sem] max2_int min2_int max_two min_two max_three min_three max_four min_four   -- for this text's walks alone
set_option linter.unusedVariables false
set_option linter.unusedSimpArgs false



def errW : Option Int → Value
  | none => .nilIface
  | some c => .iface 0 (.int .i64 c)
theorem errW_none : errW none = .nilIface := rfl
theorem errW_some (c : Int) : errW (some c) = .iface 0 (.int .i64 c) := rfl

theorem info5 : (Try.prog.info? 5).map (fun i => (i.zero, i.size, i.bytes)) = some (some (.int .u8 0), 1, 1) := by kernel_rfl
-- the values' own types

end Go.Proofs.Ytlomhifacokgmaa.PAll
