/- A row of structs, all of whose fields are whole numbers, opened from an argument's reading. -/
import Derived.Test.YtcpijkckjahfdaaPAllx0
import Derived.Deep.Slices
import Derived.ChangeSame
import Derived.WalkKit
import Derived.ProofKit
import Derived.OpenShut
namespace Go.Proofs.Ytcpijkckjahfdaa.Acts
open Go.ChangeShapes Go.WideShapes Go.RowKit
set_option linter.unusedVariables false
/-- the cells of a row of structs of whole numbers. -/
def Reads (w : World) (ks : List IntKind) (a : Option Addr) (l : List (List Int)) : Prop :=
  ∀ i, i < l.length → ∃ x, a = some x ∧ ∀ j k, ks[j]? = some k → w.cell? (x.add (i * ks.length + j)) = some (.int k ((l.getD i []).getD j 0)) ∧ (Lit.int k ((l.getD i []).getD j 0)).wf = true
theorem acts_open {H : Type} {enc : TypeId × Value → H} {P : Program} {W : World} {held : Bool} {t e : TypeId} {fs : Array Field} (ks : List IntKind) {a : Option Addr} {len cap : Nat} {d : DataW H} {ps : List MemPlace}
    (ht : P.underlying t = some (.slice e)) (he : P.underlying e = some (.struct fs)) (ce : P.cellsOf e = ks.length) (hfs : fs.size = ks.length)
    (hf : ∀ (j : Nat) (k : IntKind) (f : Field), ks[j]? = some k → fs[j]? = some f → f.offset = j ∧ P.cellsOf f.type = 1 ∧ P.underlying f.type = some (.int k))
    (h : DataW.Trod enc P W 0 (fun _ => true) held t (.slice a len cap) d ps) : ∃ l : List (List Int), l.length = len ∧ len ≤ cap ∧ len ≤ maxLen ∧ Reads W ks a l := by
  obtain ⟨fuel, hf0⟩ := h
  rcases Go.Deep.open_slice ht hf0 with ⟨hcs, _⟩ | ⟨x, ln, cp, m, n, D, Pl, hcs, _, hl, hm, hmm, _, hall⟩
  · simp [Value.cells] at hcs
    obtain ⟨rfl, rfl, rfl⟩ := hcs
    exact ⟨[], rfl, Nat.le_refl _, Nat.zero_le _, fun i hi => absurd hi (by simp)⟩
  · simp [Value.cells] at hcs
    obtain ⟨rfl, rfl, rfl⟩ := hcs
    simp at hmm
    subst hmm
    have hel : ∀ i, i < len → ∃ y : List Int, ∀ j k, ks[j]? = some k → W.cell? (x.add (i * ks.length + j)) = some (.int k (y.getD j 0)) ∧ (Lit.int k (y.getD j 0)).wf = true := by
      intro i hi'
      obtain ⟨cs', h1, h2⟩ := hall i (by omega)
      rw [ce] at h1
      obtain ⟨_, hlen, hcell⟩ := World.cells?_some h1
      obtain ⟨xs, k', hk', hxy, _, hxl, hfld⟩ := DataW.trod_struct he h2
      have one : ∀ j, j < ks.length → ∃ v : Int, ∀ k, ks[j]? = some k → W.cell? (x.add (i * ks.length + j)) = some (.int k v) ∧ (Lit.int k v).wf = true := by
        intro j hj
        obtain ⟨f, hfj⟩ : ∃ f, fs[j]? = some f := ⟨fs[j]'(by omega), Array.getElem?_eq_getElem (by omega)⟩
        have hkj : ks[j]? = some ks[j] := List.getElem?_eq_getElem hj
        obtain ⟨ho, hc1, hu⟩ := hf j _ f hkj hfj
        have hg := hfld j f hfj
        rw [ho, hc1] at hg
        have hcsj : (cs'.drop j).take 1 = [cs'[j]'(by omega)] := by
          rw [List.drop_eq_getElem_cons (by omega)]; rfl
        rw [hcsj] at hg
        have hxj : ∃ q, xs[j]? = some q := ⟨xs[j]'(by omega), List.getElem?_eq_getElem (by omega)⟩
        obtain ⟨q, hq⟩ := hxj
        rw [hq] at hg
        obtain ⟨v, hv, _, hwf⟩ := DataW.trod_int hu hg
        refine ⟨v, fun k hk => ?_⟩
        rw [hkj] at hk
        cases hk
        have hcj := hcell j (by omega)
        rw [Go.Deep.add_add] at hcj
        have e1 : cs'[j]? = some (cs'[j]'(by omega)) := List.getElem?_eq_getElem (by omega)
        have e2 : cs'[j]'(by omega) = .int ks[j] v := by simpa using hv
        refine ⟨?_, hwf⟩
        rw [hcj, e1, e2]
      obtain ⟨q, hq⟩ := Go.Deep.choose_lt one
      refine ⟨(List.range ks.length).map q, fun j k hk => ?_⟩
      have hj : j < ks.length := (List.getElem?_eq_some_iff.1 hk).1
      have e : ((List.range ks.length).map q).getD j 0 = q j := by simp [List.getD, hj]
      rw [e]
      exact hq j hj k hk
    obtain ⟨q, hq⟩ := Go.Deep.choose_lt hel
    refine ⟨(List.range len).map q, by simp, hl, by omega, fun i hi => ⟨x, rfl, fun j k hk => ?_⟩⟩
    have hi' : i < len := by simpa using hi
    have e : ((List.range len).map q).getD i [] = q i := by simp [List.getD, hi']
    rw [e]
    exact hq i hi' j k hk
end Go.Proofs.Ytcpijkckjahfdaa.Acts
