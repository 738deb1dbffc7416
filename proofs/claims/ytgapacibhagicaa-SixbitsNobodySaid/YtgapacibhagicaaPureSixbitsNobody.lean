import Derived.Test.YtgapacibhagicaaNobody
import Derived.Test.YtgapacibhagicaaPureSixbitsWhole
namespace Go.Proofs.Ytgapacibhagicaa.Pure
open Go.RowKit Go.Proofs.Ytgapacibhagicaa.PAll
set_option linter.unusedVariables false
theorem nobody (a : Int) (w : World) (wf : (Lit.int .u8 a).wf = true) : Calls Try.prog 9 #[.int .u8 a] w fun e w' => e = .returned (.bool true) ∧ Below w.heap.size w w' := nobody_calls 40 a w Six.awake40
end Go.Proofs.Ytgapacibhagicaa.Pure
