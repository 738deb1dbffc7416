/- An argument that is a slice of slices of bytes, opened. -/
import Derived.Test.YtemdlahghbbkoaaPAllx0
import Derived.Deep.Slices
import Derived.ChangeSlices
import Derived.WalkKit
import Derived.ProofKit
import Derived.OpenShut
namespace Go.Proofs.Ytemdlahghbbkoaa.Lists
open Go.ChangeShapes Go.WideShapes Go.RowKit Go.Proofs.YtemdlahghbbkoaaW.PrintWords
set_option linter.unusedVariables false
theorem lists_open {H : Type} {enc : TypeId × Value → H} {P : Program} {W : World} {held : Bool} {t s e : TypeId} {a : Option Addr} {len cap : Nat} {d : DataW H} {ps : List MemPlace}
    (ht : P.underlying t = some (.slice s)) (hs : P.underlying s = some (.slice e)) (he : P.underlying e = some (.int .u8)) (cs : P.cellsOf s = 1) (ce : P.cellsOf e = 1)
    (h : DataW.Trod enc P W 0 (fun _ => true) held t (.slice a len cap) d ps) : ∃ l : List (List Int), len = l.length ∧ l.length ≤ cap ∧ l.length ≤ maxLen ∧ Kd.C (Kd.slice e (Kd.int .u8)) W a l.length l ∧ (∀ x ∈ l, ∀ b ∈ x, (Lit.int .u8 b).wf = true) := by
  obtain ⟨fuel, hf0⟩ := h
  rcases Go.Deep.open_slice1 ht cs hf0 with ⟨hcs, _⟩ | ⟨x, ln, cp, m, n, V, D, Pl, hcs, _, hl, hm, hmm, _, hall⟩
  · simp [Value.cells] at hcs
    obtain ⟨rfl, rfl, rfl⟩ := hcs
    exact ⟨[], rfl, Nat.le_refl _, Nat.zero_le _, ⟨rfl, by simp, fun h => absurd h (by simp)⟩, by simp⟩
  · simp [Value.cells] at hcs
    obtain ⟨rfl, rfl, rfl⟩ := hcs
    simp at hmm
    subst hmm
    have hel : ∀ i, i < len → ∃ y : List Int, ∃ A c, W.cell? (x.add i) = some (.slice A y.length c) ∧ y.length ≤ c ∧ Kd.C (Kd.int .u8) W A y.length y ∧ (∀ b ∈ y, (Lit.int .u8 b).wf = true) := by
      intro i hi
      obtain ⟨h1, h2⟩ := hall i (by omega)
      rcases open_ints hs he ce h2 with ⟨hcs, _⟩ | ⟨x2, l2, c2, zs, hcs, _, hl2, hm2, hz2, _, hcell2, hwz2⟩
      · have hv : V i = .slice none 0 0 := by simpa using hcs
        exact ⟨[], none, 0, by rw [h1, hv]; rfl, Nat.le_refl _, ⟨rfl, by simp, fun h => absurd h (by simp)⟩, by simp⟩
      · have hv : V i = .slice (some x2) l2 c2 := by simpa using hcs
        obtain ⟨y, hy, hr, _, hw, hc⟩ := ReadsInt.ofRowC (w := W) (k := .u8) (a := some x2) (len := l2) (cap := c2) (zs := zs) (.inr ⟨x2, rfl, hl2, hm2, by simpa using hz2, hcell2, hwz2⟩)
        subst hy
        exact ⟨y, some x2, c2, by rw [h1, hv], hc, Kd.C_of_reads (d := (0 : Int)) (h1 := fun _ => rfl) hr, hw⟩
    obtain ⟨q, hq⟩ := Go.Deep.choose_lt hel
    have hlen : ((List.range len).map q).length = len := by simp
    refine ⟨(List.range len).map q, hlen.symm, by rw [hlen]; exact hl, by rw [hlen]; omega, ⟨rfl, by rw [hlen]; exact Nat.le_trans (Nat.le_trans hl hm) (by decide), fun _ => ⟨x, rfl, fun j p hj => ?_⟩⟩, ?_⟩
    · have hj' : j < len := by have := (List.getElem?_eq_some_iff.1 hj).1; simpa using this
      have hp : p = q j := by simp [hj'] at hj; exact hj.symm
      subst hp
      obtain ⟨A, c, h1, h2, h3, h4⟩ := hq j hj'
      refine ⟨[.slice A (q j).length c], rfl, ⟨A, c, rfl, h2, h3⟩, fun i u hu => ?_⟩
      cases i with
      | zero =>
        simp only [List.getElem?_cons_zero, Option.some.injEq] at hu
        subst hu
        show W.cell? (x.add (j * 1 + 0)) = _
        rw [Nat.mul_one, Nat.add_zero]; exact h1
      | succ i => simp at hu
    · intro y hy b hb
      obtain ⟨j, hj, rfl⟩ := List.mem_map.1 hy
      obtain ⟨A, c, h1, h2, h3, h4⟩ := hq j (by simpa using hj)
      exact h4 b hb
end Go.Proofs.Ytemdlahghbbkoaa.Lists
