import Derived.Test.YtgapacibhagicaaSixRun
namespace Go.Proofs.Ytgapacibhagicaa.Six
open Go.RowKit Go.Proofs.Ytgapacibhagicaa.PAll Go.Proofs.YtgapacibhagicaaW.PrintWords Go.Proofs.YtgapacibhagicaaW.PrintLast
theorem awake40 : winklelaw10_awake.f 40 = some true := by decide +kernel
theorem awake_f (k : Nat) (h : 40 ≤ k) : winklelaw10_awake.f k = some true := up (fun k => winklelaw10_awake.mono k) awake40 h
theorem run_len (rest : List Int) : ∀ (i P Q H : Int), (run rest i P Q H).out.length ≤ rest.length := by
  induction rest with
  | nil => intro i P Q H; simp [run]
  | cons c r ih =>
    intro i P Q H
    simp only [run]
    have := ih (i + 1) (st P Q H c).P (st P Q H c).Q (st P Q H c).H
    split
    · split
      · simp; omega
      · simp; omega
    · simp
end Go.Proofs.Ytgapacibhagicaa.Six
namespace Go.Proofs.Ytgapacibhagicaa.Pure
open Go.RowKit Go.Proofs.Ytgapacibhagicaa.PAll Go.Proofs.YtgapacibhagicaaW.PrintWords Go.Proofs.YtgapacibhagicaaW.PrintLast Go.Proofs.Ytgapacibhagicaa.Six

/-- SixbitsWhole in the second form: inputs of length at most 1048576. -/
theorem SixbitsWhole : ∀ (l0 : List Int), l0.length ≤ maxLen → l0.length ≤ 1048576 → (∀ x ∈ l0, (Lit.int .u8 x).wf = true) → ∃ k, winklelaw10_SixbitsWhole.f k l0 = some true := by
  intro l hm hl hb
  have hB := bytes_of hb
  have hr := run_len l 0 0 0 0
  refine ⟨3 * l.length + 100, ?_⟩
  unfold winklelaw10_SixbitsWhole.f
  rw [Option.bind_some, if_pos (by simp; omega), Option.bind_some, List.nil_append, whole_f l hB (by omega) _ (by omega), Option.bind_some, of_f l hB (by omega) _ (by omega), Option.bind_some]
  dsimp only
  rw [same_f _ (by omega) _ (by omega), Option.bind_some, if_pos rfl, if_pos rfl, if_pos rfl, same_f _ (by omega) _ (by omega), Option.bind_some, if_pos rfl, awake_f _ (by omega)]
  rfl

end Go.Proofs.Ytgapacibhagicaa.Pure
