/- Plain: what the document's run says of the bytes one after the other. -/
import Derived.Test.YtemdlahghbbkoaaQwt
namespace Go.Proofs.Ytemdlahghbbkoaa.Pure
open Go.RowKit Go.Proofs.Ytemdlahghbbkoaa.PAll
set_option linter.unusedVariables false
set_option linter.unusedSimpArgs false
/-- what is answered begins with what was told; the rest becomes known at i or behind. -/
theorem wholeT_shape : ∀ (x : List Int) (st hi : Int) (q : List Int) (i : Nat) (o t : List Int), ∃ o' t' y a, wholeT st hi q x i o t = (o ++ o', t ++ t', y, a) ∧ o'.length = t'.length ∧ (∀ s ∈ t', (i : Int) ≤ s) ∧ (i : Int) ≤ a := by
  intro x
  induction x with
  | nil =>
    intro st hi q i o t
    exact ⟨(endS st q).2, List.replicate (endS st q).2.length (i : Int), _, _, rfl, by simp, fun s hs => by rw [List.eq_of_mem_replicate hs]; omega, by omega⟩
  | cons b r ih =>
    intro st hi q i o t
    unfold wholeT
    split
    · obtain ⟨o', t', y, a, h1, h2, h3, h4⟩ := ih (stepS st hi q b).1 (stepS st hi q b).2.1 (stepS st hi q b).2.2.2.1 (i + 1) (o ++ (stepS st hi q b).2.2.2.2) (t ++ List.replicate (stepS st hi q b).2.2.2.2.length (i : Int))
      refine ⟨(stepS st hi q b).2.2.2.2 ++ o', List.replicate (stepS st hi q b).2.2.2.2.length (i : Int) ++ t', y, a, by rw [h1, List.append_assoc, List.append_assoc], by simp [h2], fun s hs => ?_, by omega⟩
      rcases List.mem_append.1 hs with hs | hs
      · rw [List.eq_of_mem_replicate hs]; omega
      · have := h3 s hs; omega
    · exact ⟨_, _, _, _, rfl, by simp, fun s hs => by rw [List.eq_of_mem_replicate hs]; omega, by omega⟩
/-- where the bytes go on: the state ahead of byte i, with o told at t. -/
def QSt (b : List Int) (i : Nat) (st hi : Int) (q o t : List Int) : Prop := i ≤ b.length ∧ o.length = t.length ∧ wholeT st hi q (b.drop i) i o t = ofA b
theorem qst_start (b : List Int) : QSt b 0 0 0 [] [] [] := ⟨by omega, rfl, by rw [List.drop_zero]; exact whole_ofT b⟩
/-- what the run says: what is told by now (o ++ e), and when; the next is later. -/
theorem qst_told {b : List Int} {i : Nat} {st hi : Int} {q o t : List Int} (h : QSt b i st hi q o t) : ∃ o' t', (ofA b).1 = o ++ o' ∧ (ofA b).2.1 = t ++ t' ∧ o'.length = t'.length ∧ (∀ s ∈ t', (i : Int) ≤ s) ∧ (i : Int) ≤ (ofA b).2.2.2 := by
  obtain ⟨o', t', y, a, h1, h2, h3, h4⟩ := wholeT_shape (b.drop i) st hi q i o t
  rw [h.2.2] at h1
  rw [h1]
  exact ⟨o', t', rfl, rfl, h2, h3, h4⟩
/-- a byte that is taken. -/
theorem qst_step {b : List Int} {i : Nat} {st hi : Int} {q o t : List Int} (h : QSt b i st hi q o t) (hi' : i < b.length) {s2 h2 : Int} {q2 e2 : List Int} (hs : stepS st hi q (b.getD i 0) = (s2, h2, 0, q2, e2)) : QSt b (i + 1) s2 h2 q2 (o ++ e2) (t ++ List.replicate e2.length (i : Int)) := by
  have hd : b.drop i = b.getD i 0 :: b.drop (i + 1) := by rw [List.drop_eq_getElem_cons hi']; congr 1; simp [List.getD_eq_getElem?_getD, List.getElem?_eq_getElem hi']
  refine ⟨hi', by simp [h.2.1], ?_⟩
  rw [← h.2.2, hd, wt_cons hs]
/-- a byte that is wrong. -/
theorem qst_bad {b : List Int} {i : Nat} {st hi : Int} {q o t : List Int} (h : QSt b i st hi q o t) (hi' : i < b.length) {s2 h2 y : Int} {q2 : List Int} (hs : stepS st hi q (b.getD i 0) = (s2, h2, y, q2, [])) (hy : y ≠ 0) : ofA b = (o, t, y, (i : Int)) := by
  have hd : b.drop i = b.getD i 0 :: b.drop (i + 1) := by rw [List.drop_eq_getElem_cons hi']; congr 1; simp [List.getD_eq_getElem?_getD, List.getElem?_eq_getElem hi']
  rw [← h.2.2, hd, wt_bad hs hy]
/-- behind the last byte. -/
theorem qst_end {b : List Int} {st hi : Int} {q o t : List Int} (h : QSt b b.length st hi q o t) : ofA b = (o ++ (endS st q).2, t ++ List.replicate (endS st q).2.length (b.length : Int), (endS st q).1, (b.length : Int)) := by
  rw [← h.2.2, List.drop_length]; rfl
theorem stepS_why (st hi : Int) (q : List Int) (b : Int) : (stepS st hi q b).2.2.1 = 0 ∨ ((stepS st hi q b).2.2.1 = 22 ∧ (stepS st hi q b).2.2.2.2 = []) := by
  unfold stepS
  repeat' split
  all_goals first
    | exact .inl rfl
    | exact .inr ⟨rfl, rfl⟩
theorem gd_r {a b : List Int} {n : Nat} {d : Int} (h : a.length ≤ n) : (a ++ b).getD n d = b.getD (n - a.length) d := by simp [List.getD_eq_getElem?_getD, List.getElem?_append_right h]
theorem gd_l {a b : List Int} {n : Nat} {d : Int} (h : n < a.length) : (a ++ b).getD n d = a.getD n d := by simp [List.getD_eq_getElem?_getD, List.getElem?_append_left h]
/-- what is told next: byte j of the new ones, at i; behind them another time. -/
theorem qst_next {b : List Int} {i : Nat} {st hi : Int} {q o t e : List Int} {at_ : Int} (h : QSt b i st hi q (o ++ e) (t ++ List.replicate e.length at_)) (hlt : at_ < (i : Int)) (ho : o.length = t.length) :
    (∀ j, j < e.length → (ofA b).1.getD (o.length + j) 0 = e.getD j 0 ∧ (ofA b).2.1.getD (o.length + j) 0 = at_ ∧ o.length + j < (ofA b).1.length) ∧ (o.length + e.length < (ofA b).1.length → (ofA b).2.1.getD (o.length + e.length) 0 ≠ at_) ∧ o.length + e.length ≤ (ofA b).1.length ∧ (ofA b).1.length = (ofA b).2.1.length := by
  obtain ⟨o', t', h1, h2, h3, h4, h5⟩ := qst_told h
  rw [h1, h2]
  refine ⟨fun j hj => ⟨?_, ?_, by simp; omega⟩, fun hlt2 => ?_, by simp, by simp [ho, h3]⟩
  · rw [List.append_assoc, gd_r (by omega), Nat.add_sub_cancel_left, gd_l hj]
  · rw [List.append_assoc, ho, gd_r (by omega), Nat.add_sub_cancel_left, gd_l (by simpa using hj)]
    simp [List.getD_eq_getElem?_getD, hj]
  · have hl : 0 < t'.length := by rw [← h3]; simp at hlt2; omega
    have e1 : (t ++ List.replicate e.length at_ ++ t').getD (o.length + e.length) 0 = t'.getD 0 0 := by
      rw [gd_r (by simp; omega)]; simp [ho]
    rw [e1]
    have : t'.getD 0 0 ∈ t' := by simp [List.getD_eq_getElem?_getD, List.getElem?_eq_getElem hl]
    have := h4 _ this
    omega
end Go.Proofs.Ytemdlahghbbkoaa.Pure
