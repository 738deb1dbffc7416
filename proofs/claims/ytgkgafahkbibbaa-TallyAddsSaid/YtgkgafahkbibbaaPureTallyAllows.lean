/- TallyAllows: the plain law: what is allowed is never more than the total, and just that where the ratio allows enough; and the walk with it. -/
import Derived.Test.YtgkgafahkbibbaaAllows
namespace Go.Proofs.Ytgkgafahkbibbaa.PAll
open Go.RowKit Go.Proofs.YtgkgafahkbibbaaW.PrintWords Go.Proofs.YtgkgafahkbibbaaW.PrintLast Go.Proofs.YtgkgafahkbibbaaW.PrintMore Go.Proofs.Ytgkgafahkbibbaa.Sat
set_option linter.unusedVariables false
theorem mn_cases (a b : Int) : (mn a b = a ∧ a ≤ b) ∨ (mn a b = b ∧ b ≤ a) := by unfold mn; split <;> omega
theorem allows_walk (a b : Int) (xs : List Int) (w : World) (wa : (Lit.int .u64 a).wf = true) (wb : (Lit.int .u64 b).wf = true) (hl : xs.length = 3) (hw : ∀ x ∈ xs, (Lit.int .u64 x).wf = true) :
    Calls Try.prog 8 #[.int .u64 a, .int .u64 b, .agg (xs.map (Value.int .u64)).toArray] w fun e w' => e = .returned (.bool true) ∧ Below w.heap.size w w' := by
  match xs, hl, hw with
  | [m0, m1, m2], _, hw =>
    have ha := u64_of wa
    have hb := u64_of wb
    have h0 : Rg m0 := u64_of (hw m0 (by simp))
    have h1 : Rg m1 := u64_of (hw m1 (by simp))
    have h2 : Rg m2 := u64_of (hw m2 (by simp))
    have z0 : Rg 0 := ⟨by omega, by omega⟩
    have z7 : Rg 7 := ⟨by omega, by omega⟩
    have hm : Rg (satN (m1 + m2)) := satN_range (by have := h1.1; have := h2.1; omega)
    have rT : Rg (satN (b * m1)) := satN_range (Int.mul_nonneg hb.1 h1.1)
    have e7 : tally_Allowed.f a 0 a 7 = some a := by
      rw [allowed_f a 0 a 7 z0 ha z7]
      have : satN (satN (0 * 7) + a) = a := by
        rw [Int.zero_mul, satN_id z0, Int.zero_add, satN_id ha]
      rw [this]
      rcases mn_cases a a with h | h <;> rw [h.1]
    have hge : m1 ≤ satN (m1 + m2) := Int.le_trans (Int.le_of_eq (satN_id h1).symm) (satN_mono (by have := h2.1; omega))
    have hmul : b * m1 ≤ b * satN (m1 + m2) := Int.mul_le_mul_of_nonneg_left hge hb.1
    have hmost : satN (satN (b * m1) + m0) ≤ satN (satN (b * satN (m1 + m2)) + m0) := satN_mono (by have := satN_mono hmul; omega)
    have c1 := mn_cases a (satN (satN (b * m1) + m0))
    have c2 := mn_cases a (satN (satN (b * satN (m1 + m2)) + m0))
    refine allows_calls a b m0 m1 m2 _ _ _ _ _ w (allowed_f a b m0 m1 hb h0 h1) (add_f m1 m2 h1 h2) (allowed_f a b m0 _ hb h0 hm) (times_f b m1 hb h1) (add_f _ m0 rT h0) e7 ?_ ?_ ?_ ?_
    · exact decide_eq_true (by omega)
    · exact decide_eq_true (by omega)
    · by_cases h : mn a (satN (satN (b * m1) + m0)) = a
      · exact .inl (by rw [h]; simp)
      · refine .inr ⟨by simpa using h, ?_⟩
        have : mn a (satN (satN (b * m1) + m0)) = satN (satN (b * m1) + m0) := by omega
        rw [this]; simp
    · exact decide_eq_true (by omega)
end Go.Proofs.Ytgkgafahkbibbaa.PAll
