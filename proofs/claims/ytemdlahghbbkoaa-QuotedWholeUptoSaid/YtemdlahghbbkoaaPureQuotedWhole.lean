/- QuotedWhole: the plain law. -/
import Derived.Test.YtemdlahghbbkoaaPAllx4
import Derived.Test.YtemdlahghbbkoaaQlib
import Derived.Test.YtemdlahghbbkoaaQwl
namespace Go.Proofs.Ytemdlahghbbkoaa.Pure
open Go.RowKit Go.Proofs.Ytemdlahghbbkoaa.PAll Go.Proofs.Ytemdlahghbbkoaa.Qth Go.Proofs.YtemdlahghbbkoaaW.PrintWords Go.Proofs.YtemdlahghbbkoaaW.PrintLast
set_option linter.unusedVariables false
set_option linter.unusedSimpArgs false
theorem ofR_len (l : List Int) (L : Nat) (hl : l.length = L) (k : Nat) : ∀ (i : Nat) (o t : List Int) (wy a : Int), i ≤ L → o.length ≤ i → (ofR l L k i o t wy a).1.length ≤ L := by
  induction k with
  | zero => intro i o t wy a h1 h2; simp only [ofR]; omega
  | succ k ih =>
    intro i o t wy a h1 h2
    by_cases h : i < L ∧ wy = 0
    · obtain ⟨hi, rfl⟩ := h
      obtain ⟨n, hn, hn1, hn2, _⟩ := ofS_len l L i hl hi o t a
      rw [ofR, if_pos ⟨hi, rfl⟩, hn, Int.toNat_natCast]
      exact ih _ _ _ _ _ hn1 (by omega)
    · rw [ofR_stop h]
      show o.length ≤ L
      omega
theorem QuotedWhole (l0 : List Int) (hm : l0.length ≤ maxLen) (y0 : l0.length ≤ 1048576) (hw : ∀ x ∈ l0, (Lit.int .u8 x).wf = true) : ∃ k, winklelaw11_QuotedWhole.f k l0 = some true := by
  have hb := byt_of hw
  have h1 : quoted_Whole.f l0 = some ((ofA l0).1, (ofA l0).2.2.1, (ofA l0).2.2.2) := by
    unfold quoted_Whole.f
    rw [if_pos ⟨by omega, byt_bytesB hb⟩, whole_of]
  have ho : winkleref11_Of.f l0 = some (ofA l0) := by
    unfold winkleref11_Of.f
    rw [if_pos (by omega)]
  have hlen : (ofA l0).1.length ≤ l0.length := ofR_len l0 l0.length rfl _ 0 [] [] 0 _ (by omega) (by simp)
  have s1 : winkleref03_Same.f (l0.length + (ofA l0).1.length + 1) (ofA l0).1 (ofA l0).1 = some true := by
    have := same_f (ofA l0).1 (by omega) l0.length
    rw [show (ofA l0).1.length + 1 + l0.length = l0.length + (ofA l0).1.length + 1 by omega] at this
    exact this
  have s2 : winkleref03_Same.f (l0.length + (ofA l0).1.length + 1) l0 l0 = some true := by
    have := same_f l0 (by omega) (ofA l0).1.length
    rw [show l0.length + 1 + (ofA l0).1.length = l0.length + (ofA l0).1.length + 1 by omega] at this
    exact this
  refine ⟨l0.length + (ofA l0).1.length + 1, ?_⟩
  unfold winklelaw11_QuotedWhole.f
  simp only [Option.bind_some, List.length_nil, List.nil_append]
  rw [if_pos (by omega), h1]
  simp only [Option.bind_some]
  rw [ho]
  simp only [Option.bind_some]
  rw [s1]
  simp only [Option.bind_some, if_true]
  rw [s2]
  simp only [Option.bind_some, if_true]
  rw [awake_f]
  rfl
end Go.Proofs.Ytemdlahghbbkoaa.Pure
