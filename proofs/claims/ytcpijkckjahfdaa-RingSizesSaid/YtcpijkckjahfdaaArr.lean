/- An argument that is an array of whole numbers, opened. -/
import Derived.WalkKit
import Derived.ProofKit
import Derived.OpenShut
import Derived.ChangeSlices
/-! An argument that is an array of whole numbers, opened. -/
namespace Go.Proofs.Ytcpijkckjahfdaa.Arr
open Go.ChangeShapes Go.WideShapes Go.ChangeAt Go.RowKit
set_option linter.unusedVariables false
theorem open_ints_arr {H : Type} {enc : TypeId × Value → H} {P : Program} {w : World} {base b0 : Nat} {spare : Nat → Bool} {held : Bool} {r : Reach} {t e : TypeId} {n : Nat} {k : IntKind} {v : Value} {d : DataW H} {p : List MemPlace}
    (ht : P.underlying t = some (.array n e)) (he : P.underlying e = some (.int k)) (ce : P.cellsOf e = 1) (ct : P.cellsOf t = n) (hv : Value.okWide P w r b0 t v) (h : DataW.Trod enc P w base spare held t v d p) :
    ∃ xs : List Int, xs.length = n ∧ v = .agg (xs.map (Value.int k)).toArray ∧ ∀ x ∈ xs, (Lit.int k x).wf = true := by
  obtain ⟨cs, rfl, hsz⟩ : ∃ cs, v = .agg cs ∧ cs.size = n := by
    simp only [Value.okWide, ht] at hv
    obtain ⟨cs, h1, h2, _⟩ := hv
    exact ⟨cs, h1, by rw [h2, ct]⟩
  obtain ⟨fuel, hf⟩ := h
  obtain ⟨ys, m, _, _, hlen, hyl, hi⟩ := DataW.trod_array ht hf
  have hel : ∀ i (h : i < cs.size), ∃ x : Int, cs[i] = .int k x ∧ (Lit.int k x).wf = true := by
    intro i h
    have h1 := hi i (by omega)
    rw [ce, Nat.mul_one] at h1
    have h2 : ((Value.agg cs).cells.toList.drop i).take 1 = [cs[i]] := by
      show (cs.toList.drop i).take 1 = _
      rw [List.drop_eq_getElem_cons (by simpa using h)]
      simp
    rw [h2, List.getElem?_eq_getElem (by omega)] at h1
    obtain ⟨x, hx, _, hw⟩ := DataW.trod_int he h1
    exact ⟨x, by simpa using hx, hw⟩
  have hall : ∀ l : List Value, (∀ v ∈ l, ∃ x : Int, v = .int k x ∧ (Lit.int k x).wf = true) → ∃ xs : List Int, xs.length = l.length ∧ l = xs.map (Value.int k) ∧ ∀ x ∈ xs, (Lit.int k x).wf = true := by
    intro l
    induction l with
    | nil => intro _; exact ⟨[], rfl, rfl, by simp⟩
    | cons v r ih =>
      intro h
      obtain ⟨x, rfl, hx⟩ := h v (by simp)
      obtain ⟨xs, h1, h2, h3⟩ := ih (fun v hv => h v (by simp [hv]))
      exact ⟨x :: xs, by simp [h1], by simp [h2], fun y hy => (List.mem_cons.1 hy).elim (fun e => e ▸ hx) (fun hy => h3 y hy)⟩
  obtain ⟨xs, h1, h2, h3⟩ := hall cs.toList (fun v hv => by
    obtain ⟨i, hi', rfl⟩ := List.getElem_of_mem hv
    obtain ⟨x, hx, hw⟩ := hel i (by simpa using hi')
    exact ⟨x, by simpa using hx, hw⟩)
  refine ⟨xs, by rw [h1]; simpa using hsz, ?_, h3⟩
  rw [← h2]
def IsRow (k : IntKind) (w : World) (a : Option Addr) (len cap : Nat) (zs : List Int) : Prop :=
  (a = none ∧ len = 0 ∧ cap = 0 ∧ zs = []) ∨
  ∃ x, a = some x ∧ len ≤ cap ∧ cap ≤ maxLen ∧ zs.length = cap ∧ (∀ i, i < zs.length → w.cell? (x.add i) = some (.int k (zs.getD i 0))) ∧ ∀ n ∈ zs, (Lit.int k n).wf = true
theorem open_rows_two {H : Type} {enc : TypeId × Value → H} {P : Program} {w : World} {b0 : Nat} {held : Bool} {r : Reach} {t e f : TypeId} {k : IntKind} {v : Value} {d : DataW H} {p : List MemPlace}
    (ht : P.underlying t = some (.array 2 e)) (he : P.underlying e = some (.slice f)) (hf : P.underlying f = some (.int k)) (ce : P.cellsOf e = 1) (cf : P.cellsOf f = 1) (ct : P.cellsOf t = 2) (hv : Value.okWide P w r b0 t v) (h : DataW.Trod enc P w 0 (fun _ => true) held t v d p) :
    ∃ a0 l0 c0 z0 a1 l1 c1 z1, v = .agg #[.slice a0 l0 c0, .slice a1 l1 c1] ∧ IsRow k w a0 l0 c0 z0 ∧ IsRow k w a1 l1 c1 z1 := by
  obtain ⟨cs, rfl, hsz⟩ : ∃ cs, v = .agg cs ∧ cs.size = 2 := by
    simp only [Value.okWide, ht] at hv
    obtain ⟨cs, h1, h2, _⟩ := hv
    exact ⟨cs, h1, by rw [h2, ct]⟩
  obtain ⟨fuel, hf'⟩ := h
  obtain ⟨ys, m, _, _, hlen, hyl, hi⟩ := DataW.trod_array ht hf'
  have hel : ∀ i (h : i < cs.size), ∃ a l c z, cs[i] = .slice a l c ∧ IsRow k w a l c z := by
    intro i h
    have h1 := hi i (by omega)
    rw [ce, Nat.mul_one] at h1
    have h2 : ((Value.agg cs).cells.toList.drop i).take 1 = [cs[i]] := by
      show (cs.toList.drop i).take 1 = _
      rw [List.drop_eq_getElem_cons (by simpa using h)]
      simp
    rw [h2, List.getElem?_eq_getElem (by omega)] at h1
    rcases open_ints he hf cf h1 with ⟨hcs, _⟩ | ⟨x, l, c, zs, hcs, _, hl, hm, hz, _, hcell, hwz⟩
    · exact ⟨none, 0, 0, [], by simpa using hcs, .inl ⟨rfl, rfl, rfl, rfl⟩⟩
    · exact ⟨some x, l, c, zs, by simpa using hcs, .inr ⟨x, rfl, hl, hm, by simpa using hz, hcell, hwz⟩⟩
  obtain ⟨a0, l0, c0, z0, e0, r0⟩ := hel 0 (by omega)
  obtain ⟨a1, l1, c1, z1, e1, r1⟩ := hel 1 (by omega)
  refine ⟨a0, l0, c0, z0, a1, l1, c1, z1, ?_, r0, r1⟩
  congr 1
  rw [← e0, ← e1]
  apply Array.ext
  · simp [hsz]
  · intro i h1 h2
    have : i = 0 ∨ i = 1 := by omega
    rcases this with rfl | rfl <;> simp
end Go.Proofs.Ytcpijkckjahfdaa.Arr
