/- The document's run over a text: one step, and all. -/
import Derived.Test.YtemdlahghbbkoaaEscR
import Derived.Test.YtemdlahghbbkoaaBl
namespace Go.Proofs.Ytemdlahghbbkoaa.PAll
open Go.RowKit Go.Proofs.YtemdlahghbbkoaaW.PrintWords Go.Proofs.YtemdlahghbbkoaaW.PrintLast Go.Proofs.YtemdlahghbbkoaaW.PrintMore
set_option linter.unusedVariables false
set_option linter.unusedSimpArgs false
/-- how many blanks a text begins with. -/
def nB : List Int → Nat
  | [] => 0
  | b :: r => if b = 9 ∨ b = 32 then nB r + 1 else 0
theorem blank_f (b : Int) : winkleref11_Blank.f b = some (decide (b = 9 ∨ b = 32)) := by
  unfold winkleref11_Blank.f
  by_cases h : b = 9
  · simp [h]
  · by_cases h2 : b = 32 <;> simp [h, h2]
theorem nB_le (x : List Int) : nB x ≤ x.length := by
  induction x with
  | nil => simp [nB]
  | cons b r ih => simp only [nB]; split <;> simp <;> omega
theorem nB_all (x : List Int) : ∀ j, j < nB x → x.getD j 0 = 9 ∨ x.getD j 0 = 32 := by
  induction x with
  | nil => intro j h; simp [nB] at h
  | cons b r ih =>
    intro j h
    simp only [nB] at h
    split at h
    · rename_i hb
      cases j with
      | zero => simpa using hb
      | succ j => simpa using ih j (by omega)
    · omega
theorem nB_end (x : List Int) (h : nB x < x.length) : ¬ (x.getD (nB x) 0 = 9 ∨ x.getD (nB x) 0 = 32) := by
  induction x with
  | nil => simp at h
  | cons b r ih =>
    simp only [nB] at h ⊢
    split at h
    · rename_i hb
      rw [if_pos hb]
      have := ih (by simp at h; exact h)
      simpa using this
    · rename_i hb
      rw [if_neg hb]
      simpa using hb
theorem getD_drop0 (l : List Int) (i j : Nat) : (l.drop i).getD j 0 = l.getD (i + j) 0 := by
  simp [List.getD_eq_getElem?_getD, List.getElem?_drop]
def blDrop (l : List Int) (L e : Nat) : Bool := decide (e = L) || decide (brk (l.drop e) > 0)
def blKnown (l : List Int) (L e : Nat) : Nat := if e < L ∧ l.getD e 0 = 13 then e + 1 else e
theorem bl_f (l : List Int) (L i : Nat) (hl : l.length = L) (hi : i ≤ L) (hL : LenOk L) : BlF l i (nB (l.drop i)) (i + nB (l.drop i)) L (blDrop l L (i + nB (l.drop i))) (blKnown l L (i + nB (l.drop i))) := by
  have h1 := nB_le (l.drop i)
  rw [List.length_drop, hl] at h1
  refine ⟨fun j hj => ⟨by omega, ?_⟩, rfl, by omega, fun he => ?_, rfl, rfl, hL⟩
  · have h2 := nB_all _ j hj
    rw [getD_drop0] at h2
    rw [blank_f, decide_eq_true h2]
  · have h2 := nB_end (l.drop i) (by rw [List.length_drop, hl]; omega)
    rw [getD_drop0] at h2
    rw [blank_f, decide_eq_false h2]
/-- one step at i: bytes gone through, what is said, when, why, at. -/
def ofS (l : List Int) (L i : Nat) (o t : List Int) (wy a : Int) : Int × List Int × List Int × Int × Int :=
  if brk (l.drop i) = 1 then (1, o ++ [10], t ++ [(i : Int)], wy, a)
  else if brk (l.drop i) = 2 then (2, o ++ [13] ++ [10], t ++ [((i + 1 : Nat) : Int)] ++ [((i + 1 : Nat) : Int)], wy, a)
  else if l.getD i 0 = 61 then escS l L i o t wy a
  else if l.getD i 0 = 9 ∨ l.getD i 0 = 32 then
    (((nB (l.drop i) : Nat) : Int), o ++ blkO l (i + nB (l.drop i)) (blDrop l L (i + nB (l.drop i))) i (nB (l.drop i)), t ++ blkT l (i + nB (l.drop i)) (blDrop l L (i + nB (l.drop i))) ((blKnown l L (i + nB (l.drop i)) : Nat) : Int) i (nB (l.drop i)), wy, a)
  else if l.getD i 0 = 13 then (1, o ++ [13], t ++ [((i + 1 : Nat) : Int)], wy, a)
  else (1, o ++ [l.getD i 0], t ++ [(i : Int)], wy, a)
/-- all, from i on; k bounds the rounds. -/
def ofR (l : List Int) (L : Nat) : Nat → Nat → List Int → List Int → Int → Int → List Int × List Int × Int × Int
  | 0, _, o, t, wy, a => (o, t, wy, a)
  | k + 1, i, o, t, wy, a => if i < L ∧ wy = 0 then ofR l L k (i + (ofS l L i o t wy a).1.toNat) (ofS l L i o t wy a).2.1 (ofS l L i o t wy a).2.2.1 (ofS l L i o t wy a).2.2.2.1 (ofS l L i o t wy a).2.2.2.2 else (o, t, wy, a)
def ofA (l : List Int) : List Int × List Int × Int × Int := ofR l l.length (l.length + 2) 0 [] [] 0 (l.length : Int)
/-- what a step leaves. -/
theorem brk_lt (l : List Int) (i : Nat) : (brk (l.drop i) = 1 → i + 1 ≤ l.length) ∧ (brk (l.drop i) = 2 → i + 2 ≤ l.length) := by
  have h : (l.drop i).length = l.length - i := List.length_drop ..
  constructor <;> intro hb <;> (unfold brk at hb; split at hb <;> simp_all <;> omega)
theorem escS_len (l : List Int) (L i : Nat) (hl : l.length = L) (hi : i < L) (o t : List Int) (a : Int) : ∃ n : Nat, (escS l L i o t 0 a).1 = (n : Int) ∧ i + n ≤ L ∧ (escS l L i o t 0 a).2.1.length ≤ o.length + n ∧ (escS l L i o t 0 a).2.2.1.length ≤ t.length + n ∧ ((escS l L i o t 0 a).2.2.2.1 = 0 → 1 ≤ n) := by
  have hb := brk_lt l (i + 1)
  subst hl
  unfold escS
  split
  · exact ⟨2, rfl, by have := hb.1 (by assumption); omega, by simp, by simp, by simp⟩
  split
  · exact ⟨3, rfl, by have := hb.2 (by assumption); omega, by simp, by simp, by simp⟩
  split
  · exact ⟨1, rfl, by omega, by simp, by simp, by simp⟩
  split
  · split
    · exact ⟨2, rfl, by omega, by simp, by simp, by simp⟩
    · exact ⟨2, rfl, by omega, by simp, by simp, by simp⟩
  split
  · exact ⟨0, rfl, by omega, by simp, by simp, by simp⟩
  split
  · exact ⟨0, rfl, by omega, by simp, by simp, by simp⟩
  split
  · exact ⟨0, rfl, by omega, by simp, by simp, by simp⟩
  · exact ⟨3, rfl, by omega, by simp, by simp, by simp⟩
theorem ofS_len (l : List Int) (L i : Nat) (hl : l.length = L) (hi : i < L) (o t : List Int) (a : Int) : ∃ n : Nat, (ofS l L i o t 0 a).1 = (n : Int) ∧ i + n ≤ L ∧ (ofS l L i o t 0 a).2.1.length ≤ o.length + n ∧ (ofS l L i o t 0 a).2.2.1.length ≤ t.length + n ∧ ((ofS l L i o t 0 a).2.2.2.1 = 0 → 1 ≤ n) := by
  have hb := brk_lt l i
  unfold ofS
  split
  · exact ⟨1, rfl, by omega, by simp, by simp, by simp⟩
  split
  · exact ⟨2, rfl, by have := hb.2 (by assumption); omega, by simp, by simp, by simp⟩
  split
  · exact escS_len l L i hl hi o t a
  split
  · rename_i h9
    have h1 := nB_le (l.drop i)
    rw [List.length_drop, hl] at h1
    have h2 := blk_len l (i + nB (l.drop i)) (blDrop l L (i + nB (l.drop i))) ((blKnown l L (i + nB (l.drop i)) : Nat) : Int) (nB (l.drop i)) i
    have h3 : 1 ≤ nB (l.drop i) := by
      rw [List.drop_eq_getElem_cons (by omega)]
      simp only [nB]
      rw [if_pos (by simpa [List.getD_eq_getElem?_getD, List.getElem?_eq_getElem (show i < l.length by omega)] using h9)]
      omega
    exact ⟨_, rfl, by omega, by simp; omega, by simp; omega, fun _ => h3⟩
  split
  · exact ⟨1, rfl, by omega, by simp, by simp, by simp⟩
  · exact ⟨1, rfl, by omega, by simp, by simp, by simp⟩
end Go.Proofs.Ytemdlahghbbkoaa.PAll
