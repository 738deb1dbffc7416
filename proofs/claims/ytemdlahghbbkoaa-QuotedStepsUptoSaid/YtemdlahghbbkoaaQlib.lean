/- Plain laws that the laws of chapter 11 share. -/
import Derived.Test.YtemdlahghbbkoaaPAllx4
import Derived.Test.YtemdlahghbbkoaaPAllx2
import Derived.Test.YtemdlahghbbkoaaQth
namespace Go.Proofs.Ytemdlahghbbkoaa.Pure
open Go.RowKit Go.Proofs.Ytemdlahghbbkoaa.PAll Go.Proofs.Ytemdlahghbbkoaa.Qth Go.Proofs.YtemdlahghbbkoaaW.PrintWords Go.Proofs.YtemdlahghbbkoaaW.PrintLast
set_option linter.unusedVariables false
set_option linter.unusedSimpArgs false
theorem awake_f : winklelaw11_awake.f = some true := by decide +kernel
theorem byt_of {l : List Int} (h : ∀ x ∈ l, (Lit.int .u8 x).wf = true) : Byt l := fun b hb => by
  simpa [Lit.wf, IntKind.min, IntKind.max, IntKind.signed, IntKind.bits] using h b hb
theorem same_l (l : List Int) (hm : l.length ≤ 9223372036854775806) : ∀ (j i r : Nat), i + j = l.length → winkleref03_Same.l0 (j + 1 + r) l l (i : Int) = some true := by
  intro j
  induction j with
  | zero =>
    intro i r h
    rw [Nat.zero_add, Nat.add_comm]
    simp only [winkleref03_Same.l0]
    rw [if_neg (by omega)]
  | succ j ih =>
    intro i r h
    rw [show j + 1 + 1 + r = (j + 1 + r) + 1 by omega]
    simp only [winkleref03_Same.l0]
    have hw : wrap64 ((i : Int) + 1) = ((i + 1 : Nat) : Int) := by unfold wrap64; omega
    rw [if_pos (by omega), if_pos (by omega), if_pos (by omega), if_pos trivial, hw]
    exact ih (i + 1) r (by omega)
theorem same_f (l : List Int) (hm : l.length ≤ 9223372036854775806) (r : Nat) : winkleref03_Same.f (l.length + 1 + r) l l = some true := by
  unfold winkleref03_Same.f
  rw [if_pos rfl]
  exact same_l l hm l.length 0 r (by omega)
theorem rd_drop {l : List Int} {i : Nat} {b : Int} {r : List Int} (h : l.drop i = b :: r) : i < l.length ∧ rd l (i : Int) = b ∧ l.drop (i + 1) = r := by
  have h1 : i < l.length := by
    rcases Nat.lt_or_ge i l.length with h1 | h1
    · exact h1
    · rw [List.drop_of_length_le h1] at h; cases h
  rw [List.drop_eq_getElem_cons h1] at h
  injection h with h2 h3
  refine ⟨h1, ?_, h3⟩
  simp [rd, h1, h2]
theorem w_succ (i : Nat) (h : i ≤ 1048576 * 1048576) : wrap64 ((i : Int) + 1) = ((i + 1 : Nat) : Int) := by unfold wrap64; omega
theorem w_one (n : Int) (h : 0 ≤ n ∧ n ≤ 1048576) : wrap64 (n + 1) = n + 1 := by unfold wrap64; omega
theorem w_sub (wd : Int) (h : 4 ≤ wd ∧ wd ≤ 76) : wrap64 (wd - 1) = wd - 1 := by unfold wrap64; omega
theorem w_add (n : Int) (m : Nat) (h0 : 0 ≤ n) (h1 : n ≤ 80) (h2 : m ≤ 3) : wrap64 (n + (m : Int)) = n + (m : Int) := by unfold wrap64; omega
theorem rd_byt {l : List Int} {i : Nat} {b : Int} {r : List Int} (hb : Byt l) (h : l.drop i = b :: r) : 0 ≤ b ∧ b ≤ 255 := hb b (List.mem_of_mem_drop (by rw [h]; simp))
theorem write_f (l : List Int) (a1 : Int) (hl : l.length ≤ 1048576 * 1024) (hb : Byt l) : quoted_Write.f l a1 = some (writeS (if a1 < 4 ∨ a1 > 76 then 76 else a1) l 0 []) := by
  unfold quoted_Write.f
  rw [if_pos ⟨by omega, byt_bytesB hb⟩]
theorem whole_f (l : List Int) (hl : l.length ≤ 1048576 * 1024) (hb : Byt l) : quoted_Whole.f l = some (wholeS 0 0 [] l 0 []) := by
  unfold quoted_Whole.f
  rw [if_pos ⟨by omega, byt_bytesB hb⟩]
end Go.Proofs.Ytemdlahghbbkoaa.Pure
