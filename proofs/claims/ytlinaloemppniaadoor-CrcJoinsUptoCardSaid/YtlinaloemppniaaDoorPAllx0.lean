-- Laid by a program of this session (a turned printer)
import Derived.Test.YtlinaloemppniaaDoorProg
import Derived.Below
import Derived.Deep.Draws
import Derived.Deep.AppendLies
import Derived.Maps.AppendAt
import Derived.OwnWalk
import Derived.Laws.BytesArg
import Derived.Laws.MakeOwn
import Derived.Laws.OwnMore
import Derived.Deep.OwnRows
import Derived.Tactics
import Derived.Lib.ConvBytes
import Derived.Laws.Slices
import Derived.WalkKit
import Derived.KernelRfl
import Derived.RowKit3
import Derived.Deep.LoopGhost
import Derived.Deep.QuietTactic
import Derived.BigQuiet
import Derived.WideLaws
import Derived.Deep.DeepCutAuto
import Derived.Deep.CutBlock
import Derived.Deep.RegionHeld3
import Derived.Laws.Rows
import Derived.Lib.AppendStr
import Derived.ArgAppend
import Derived.Laws.IdiomCopy
import Derived.OrdersHeld
import Derived.Laws.BitsLemmas
import Derived.RowKit
import Derived.Test.YtlinaloemppniaaDoorWWords
import Derived.Test.YtlinaloemppniaaDoorWLast
import Derived.Test.YtlinaloemppniaaDoorWTab
import Derived.Test.YtlinaloemppniaaDoorWFour
import Derived.Test.YtlinaloemppniaaDoorWQPut
import Derived.Test.YtlinaloemppniaaDoorWApart
import Derived.Test.YtlinaloemppniaaDoorWArr
import Derived.Test.YtlinaloemppniaaDoorWZeros
import Derived.Test.YtlinaloemppniaaDoorWFoot
import Derived.Test.YtlinaloemppniaaDoorWKept
import Derived.Test.YtlinaloemppniaaDoorWShare
import Derived.Test.YtlinaloemppniaaDoorWN
import Derived.Test.YtlinaloemppniaaDoorWFootNe
import Derived.Test.YtlinaloemppniaaDoorWAt
import Derived.Test.YtlinaloemppniaaDoorWEqStruct
import Derived.Test.YtlinaloemppniaaDoorWRepsOne
import Derived.Test.YtlinaloemppniaaDoorWInv
import Derived.Test.YtlinaloemppniaaDoorWInvWords
import Derived.Test.YtlinaloemppniaaDoorWGuard
import Derived.Test.YtlinaloemppniaaDoorWNEv
import Derived.Test.YtlinaloemppniaaDoorWMore
namespace Go.Proofs.YtlinaloemppniaaDoor.PAll
open Go.RowKit Go.Proofs.YtlinaloemppniaaDoorW.PrintWords Go.Proofs.YtlinaloemppniaaDoorW.PrintLast Go.Proofs.YtlinaloemppniaaDoorW.PrintMore
attribute [local go_sem] max2_int min2_int max_two min_two max_three min_three max_four min_four   -- for this text's walks alone
set_option linter.unusedVariables false
set_option linter.unusedSimpArgs false



def errW : Option Int → Value
  | none => .nilIface
  | some c => .iface 0 (.int .i64 c)
theorem errW_none : errW none = .nilIface := rfl
theorem errW_some (c : Int) : errW (some c) = .iface 0 (.int .i64 c) := rfl

-- the values' own types

end Go.Proofs.YtlinaloemppniaaDoor.PAll
