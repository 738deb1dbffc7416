import Derived.Test.YtgapacibhagicaaSixWr
import Derived.Test.YtgapacibhagicaaPAllx6
namespace Go.Proofs.Ytgapacibhagicaa.Six
open Go.RowKit Go.Proofs.Ytgapacibhagicaa.PAll Go.Proofs.YtgapacibhagicaaW.PrintWords Go.Proofs.YtgapacibhagicaaW.PrintLast
theorem back_run (L : List Int) (hL : Bytes L) (line : Int) : (run (brk line 0 (lets L)) 0 0 0 0).out = L ∧ (run (brk line 0 (lets L)) 0 0 0 0).why = 0 ∧ (run (brk line 0 (lets L)) 0 0 0 0).pos = ((brk line 0 (lets L)).length : Int) := by
  obtain ⟨h1, h2, _⟩ := (brk_ins line (lets L) 0).run 0 0 0 0 0 (by omega)
  have hl := lets_len L
  have hc := cut_run L hL (lets L).length (Nat.le_refl _) 0 0
  rw [List.take_length] at hc
  obtain ⟨c1, c2, _⟩ := hc
  rw [if_pos (by omega)] at c2
  have ht : told L.length (lets L).length = L.length := by unfold told; omega
  rw [ht, List.take_length] at c1
  have hw : (run (brk line 0 (lets L)) 0 0 0 0).why = 0 := h2.trans c2
  refine ⟨h1.trans c1, hw, ?_⟩
  have := pos_end _ _ _ _ _ hw
  omega
end Go.Proofs.Ytgapacibhagicaa.Six
namespace Go.Proofs.Ytgapacibhagicaa.Pure
open Go.RowKit Go.Proofs.Ytgapacibhagicaa.PAll Go.Proofs.YtgapacibhagicaaW.PrintWords Go.Proofs.YtgapacibhagicaaW.PrintLast Go.Proofs.Ytgapacibhagicaa.Six

/-- SixbitsBack in the second form: inputs of length at most 1048576. -/
theorem SixbitsBack : ∀ (l0 : List Int) (a1 : Int), l0.length ≤ maxLen → l0.length ≤ 1048576 → (∀ x ∈ l0, (Lit.int .u8 x).wf = true) → (Lit.int .i64 a1).wf = true → ∃ k, winklelaw10_SixbitsBack.f k l0 a1 = some true := by
  intro l a _ h0 b0 _
  have hL := bytes_of b0
  have h1 := brk_len a (lets l) 0
  have h2 := lets_len l
  have h3 := (brk_ins a (lets l) 0).len
  obtain ⟨r1, r2, r3⟩ := back_run l hL a
  refine ⟨25165824, ?_⟩
  unfold winklelaw10_SixbitsBack.f
  rw [write_f l hL h0, Option.bind_some, whole_f _ (write_bytes a l) (by omega) _ (by omega), Option.bind_some]
  dsimp only
  rw [r1, r2, r3, same_f _ (by omega) _ (by omega), Option.bind_some, if_pos rfl, if_pos rfl, if_pos rfl]
  rw [w64 ((l.length : Int) + 2) (by omega) (by omega), Int.tdiv_eq_ediv_of_nonneg (by omega), w64 (((l.length : Int) + 2) / 3) (by omega) (by omega), w64 _ (by omega) (by omega), if_pos (by omega), awake_f _ (by omega)]
  rfl

end Go.Proofs.Ytgapacibhagicaa.Pure
