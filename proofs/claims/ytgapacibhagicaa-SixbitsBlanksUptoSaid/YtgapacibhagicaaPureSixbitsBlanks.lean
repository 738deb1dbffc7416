import Derived.Test.YtgapacibhagicaaSixIns
namespace Go.Proofs.Ytgapacibhagicaa.Pure
open Go.RowKit Go.Proofs.Ytgapacibhagicaa.PAll Go.Proofs.YtgapacibhagicaaW.PrintWords Go.Proofs.YtgapacibhagicaaW.PrintLast Go.Proofs.Ytgapacibhagicaa.Six

/-- SixbitsBlanks in the second form: inputs of length at most 1048576. -/
theorem SixbitsBlanks : ∀ (l0 : List Int) (l1 : List Int), l0.length ≤ maxLen → l0.length ≤ 1048576 → (∀ x ∈ l0, (Lit.int .u8 x).wf = true) → l1.length ≤ maxLen → l1.length ≤ 1048576 → (∀ x ∈ l1, (Lit.int .u8 x).wf = true) → ∃ k, winklelaw10_SixbitsBlanks.f k l0 l1 = some true := by
  intro l0 l1 _ h0 b0 _ h1 b1
  exact ⟨5 * l0.length + 4194304, blanks_l0 l0 l1 h0 (bytes_of b0) h1 (bytes_of b1) l0.length [] _ 0 (by omega) .nil (by simp) (by omega)⟩

end Go.Proofs.Ytgapacibhagicaa.Pure
