import Derived.Test.YtgapacibhagicaaSixWr
namespace Go.Proofs.Ytgapacibhagicaa.Pure
open Go.RowKit Go.Proofs.Ytgapacibhagicaa.PAll Go.Proofs.YtgapacibhagicaaW.PrintWords Go.Proofs.YtgapacibhagicaaW.PrintLast Go.Proofs.Ytgapacibhagicaa.Six

/-- SixbitsCuts in the second form: inputs of length at most 1048576. -/
theorem SixbitsCuts : ∀ (l0 : List Int) (a1 : Int), l0.length ≤ maxLen → l0.length ≤ 1048576 → (∀ x ∈ l0, (Lit.int .u8 x).wf = true) → (Lit.int .u16 a1).wf = true → ∃ k, winklelaw10_SixbitsCuts.f k l0 a1 = some true := by
  intro l a _ h0 b0 ha
  have hL := bytes_of b0
  have ha : 0 ≤ a ∧ a ≤ 65535 := by simpa [Lit.wf, IntKind.min, IntKind.max, IntKind.signed, IntKind.bits] using ha
  have h2 := lets_len l
  refine ⟨8388608, ?_⟩
  unfold winklelaw10_SixbitsCuts.f
  rw [write_f l hL h0, Option.bind_some, brk_none]
  have e4 : wrap64 ((wrap64 (Int.tdiv (wrap64 ((l.length : Int) + 2)) 3)) * 4) = ((lets l).length : Int) := by
    rw [w64 ((l.length : Int) + 2) (by omega) (by omega), Int.tdiv_eq_ediv_of_nonneg (by omega), w64 (((l.length : Int) + 2) / 3) (by omega) (by omega), w64 _ (by omega) (by omega)]; omega
  obtain ⟨m, hm, hml⟩ : ∃ m : Nat, Int.tmod (wrap64 a) (wrap64 (((lets l).length : Int) + 1)) = (m : Int) ∧ m ≤ (lets l).length := by
    rw [w64 a (by omega) (by omega), w64 _ (by omega) (by omega), Int.tmod_eq_emod_of_nonneg (by omega)]
    have h1 : 0 ≤ a % (((lets l).length : Int) + 1) := Int.emod_nonneg _ (by omega)
    have h2 : a % (((lets l).length : Int) + 1) < ((lets l).length : Int) + 1 := Int.emod_lt_of_pos _ (by omega)
    exact ⟨(a % (((lets l).length : Int) + 1)).toNat, by omega, by omega⟩
  rw [if_pos e4.symm, hm, if_neg (by rw [w64 _ (by omega) (by omega)]; omega), if_pos (by omega), if_pos (by omega)]
  have hb : Bytes ((lets l).take m) := fun x hx => lets_bytes l x (List.mem_of_mem_take hx)
  obtain ⟨c1, c2, c3⟩ := cut_run l hL m hml 0 0
  have htl : told l.length m ≤ l.length := by unfold told; omega
  have hlen : (l.take (told l.length m)).length = told l.length m := by rw [List.length_take]; omega
  rw [show ((m : Int)).toNat = m by omega, whole_f _ hb (by rw [List.length_take]; omega) _ (by rw [List.length_take]; omega), Option.bind_some]
  dsimp only
  rw [c1, c2, c3, hlen, if_pos (by omega), if_neg (by omega), if_pos (by omega), if_pos (by omega), show ((told l.length m : Nat) : Int).toNat = told l.length m by omega, same_f _ (by omega) _ (by omega), Option.bind_some, if_pos rfl]
  have hmod : Int.tmod (m : Int) 4 = ((m % 4 : Nat) : Int) := by rw [Int.tmod_eq_emod_of_nonneg (by omega)]; omega
  have hdiv : Int.tdiv (m : Int) 4 = ((m / 4 : Nat) : Int) := by rw [Int.tdiv_eq_ediv_of_nonneg (by omega)]; omega
  have hcnt : m < (lets l).length → ((told l.length m : Nat) : Int) = wrap64 ((wrap64 (3 * (wrap64 (Int.tdiv (m : Int) 4)))) + (mx 0 (mn (wrap64 ((Int.tmod (m : Int) 4) - 1)) (wrap64 ((l.length : Int) - (wrap64 (3 * (wrap64 (Int.tdiv (m : Int) 4))))))))) := by
    intro hlt
    rw [hmod, hdiv, w64 ((m / 4 : Nat) : Int) (by omega) (by omega), w64 (3 * _) (by omega) (by omega), w64 (_ - 1) (by omega) (by omega), w64 ((l.length : Int) - _) (by omega) (by omega)]
    unfold told mx mn
    rw [w64 _ (by split <;> split <;> omega) (by split <;> split <;> omega)]
    split <;> split <;> omega
  have hbe : (((if m % 4 = 0 then (0 : Int) else 1) == 0) == (Int.tmod (m : Int) 4 == 0)) = true := by
    rw [hmod]
    by_cases h : m % 4 = 0
    · rw [if_pos h, h]; rfl
    · rw [if_neg h]; simp; omega
  have hw : ∀ (x : Option Bool), (if (if m % 4 = 0 then (0 : Int) else 1) = 0 then ((winklelaw10_awake.f 8388608).bind fun t => (some t)) else (if (if m % 4 = 0 then (0 : Int) else 1) = 1 then ((winklelaw10_awake.f 8388608).bind fun t => (some t)) else (some false))) = some true := by
    intro _
    rw [awake_f _ (by omega)]
    by_cases h : m % 4 = 0
    · rw [if_pos (by rw [if_pos h])]; rfl
    · rw [if_neg (by rw [if_neg h]; decide), if_pos (by rw [if_neg h])]; rfl
  by_cases hlt : m < (lets l).length
  · rw [if_pos (by omega), if_pos (hcnt hlt), if_pos hbe]
    exact hw none
  · rw [if_neg (by omega), if_pos hbe]
    exact hw none

end Go.Proofs.Ytgapacibhagicaa.Pure
