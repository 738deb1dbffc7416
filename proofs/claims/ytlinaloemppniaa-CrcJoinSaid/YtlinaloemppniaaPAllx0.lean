-- Laid by a program of this session (a turned printer)
import Derived.Test.YtlinaloemppniaaProg
import Derived.Below
import Derived.Deep.Draws
import Derived.Deep.AppendLies
import Derived.Maps.AppendAt
import Derived.OwnWalk
import Derived.Laws.BytesArg
import Derived.Laws.MakeOwn
import Derived.Laws.OwnMore
import Derived.Deep.OwnRows
import Derived.Tactics
import Derived.Lib.ConvBytes
import Derived.Laws.Slices
import Derived.WalkKit
import Derived.KernelRfl
import Derived.RowKit3
import Derived.Deep.LoopGhost
import Derived.Deep.QuietTactic
import Derived.BigQuiet
import Derived.WideLaws
import Derived.Deep.DeepCutAuto
import Derived.Deep.CutBlock
import Derived.Deep.RegionHeld3
import Derived.Laws.Rows
import Derived.Lib.AppendStr
import Derived.ArgAppend
import Derived.Laws.IdiomCopy
import Derived.OrdersHeld
import Derived.Laws.BitsLemmas
import Derived.RowKit
import Derived.Test.YtlinaloemppniaaWWords
import Derived.Test.YtlinaloemppniaaWLast
import Derived.Test.YtlinaloemppniaaWTab
import Derived.Test.YtlinaloemppniaaWFour
import Derived.Test.YtlinaloemppniaaWQPut
import Derived.Test.YtlinaloemppniaaWApart
import Derived.Test.YtlinaloemppniaaWArr
import Derived.Test.YtlinaloemppniaaWZeros
import Derived.Test.YtlinaloemppniaaWFoot
import Derived.Test.YtlinaloemppniaaWKept
import Derived.Test.YtlinaloemppniaaWShare
import Derived.Test.YtlinaloemppniaaWN
import Derived.Test.YtlinaloemppniaaWFootNe
import Derived.Test.YtlinaloemppniaaWAt
import Derived.Test.YtlinaloemppniaaWEqStruct
import Derived.Test.YtlinaloemppniaaWRepsOne
import Derived.Test.YtlinaloemppniaaWInv
import Derived.Test.YtlinaloemppniaaWInvWords
import Derived.Test.YtlinaloemppniaaWGuard
import Derived.Test.YtlinaloemppniaaWNEv
import Derived.Test.YtlinaloemppniaaWMore
namespace Go.Proofs.Ytlinaloemppniaa.PAll
open Go.RowKit Go.Proofs.YtlinaloemppniaaW.PrintWords Go.Proofs.YtlinaloemppniaaW.PrintLast Go.Proofs.YtlinaloemppniaaW.PrintMore
attribute [local go_sem] max2_int min2_int max_two min_two max_three min_three max_four min_four   -- for this text's walks alone
set_option linter.unusedVariables false
set_option linter.unusedSimpArgs false



def errW : Option Int → Value
  | none => .nilIface
  | some c => .iface 0 (.int .i64 c)
theorem errW_none : errW none = .nilIface := rfl
theorem errW_some (c : Int) : errW (some c) = .iface 0 (.int .i64 c) := rfl

-- the values' own types

end Go.Proofs.Ytlinaloemppniaa.PAll
