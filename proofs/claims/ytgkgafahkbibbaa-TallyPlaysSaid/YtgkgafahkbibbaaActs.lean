/- A row of acts (a bool and a number each), opened from an argument's reading. -/
import Derived.Test.YtgkgafahkbibbaaPAllx0
import Derived.Test.YtgkgafahkbibbaaSat
import Derived.Deep.SlicePairs
import Derived.WalkKit
import Derived.ProofKit
import Derived.OpenShut
namespace Go.Proofs.Ytgkgafahkbibbaa.PAll
open Go.ChangeShapes Go.WideShapes Go.RowKit Go.Proofs.YtgkgafahkbibbaaW.PrintWords Go.Proofs.YtgkgafahkbibbaaW.PrintLast Go.Proofs.YtgkgafahkbibbaaW.PrintMore Go.Proofs.Ytgkgafahkbibbaa.Sat
set_option linter.unusedVariables false
theorem acts_open {H : Type} {enc : TypeId × Value → H} {P : Program} {W : World} {held : Bool} {t e : TypeId} {f0 f1 : Field} {a : Option Addr} {len cap : Nat} {d : DataW H} {ps : List MemPlace}
    (ht : P.underlying t = some (.slice e)) (he : P.underlying e = some (.struct #[f0, f1])) (ce : P.cellsOf e = 2) (o0 : f0.offset = 0) (o1 : f1.offset = 1) (c0 : P.cellsOf f0.type = 1) (c1 : P.cellsOf f1.type = 1)
    (hb : P.underlying f0.type = some .bool) (hi : P.underlying f1.type = some (.int .u64))
    (h : DataW.Trod enc P W 0 (fun _ => true) held t (.slice a len cap) d ps) : ∃ l : List S31, l.length = len ∧ len ≤ cap ∧ len ≤ maxLen ∧ Kd.C k31 W a len l ∧ ∀ x ∈ l, Rg x.f1 := by
  obtain ⟨fuel, hf⟩ := h
  rcases Go.Deep.open_slice_pairs ht he ce o0 o1 c0 c1 hf with ⟨hcs, _⟩ | ⟨x, ln, cp, m, n, V0, V1, D0, D1, P0, P1, hcs, _, hl, hm, hmm, _, hall⟩
  · simp [Value.cells] at hcs
    obtain ⟨rfl, rfl, rfl⟩ := hcs
    exact ⟨[], rfl, Nat.le_refl _, Nat.zero_le _, ⟨rfl, by omega, fun h => absurd h (by omega)⟩, by simp⟩
  · simp [Value.cells] at hcs
    obtain ⟨rfl, rfl, rfl⟩ := hcs
    simp at hmm
    subst hmm
    have hel : ∀ i, i < len → ∃ y : S31, W.cell? (x.add (i * 2)) = some (.bool y.f0) ∧ W.cell? (x.add (i * 2 + 1)) = some (.int .u64 y.f1) ∧ Rg y.f1 := by
      intro i hi'
      obtain ⟨h1, h2, h3, h4⟩ := hall i (by omega)
      obtain ⟨b, eb, _⟩ := DataW.trod_bool hb h3
      obtain ⟨v, ev, _, hwf⟩ := DataW.trod_int hi h4
      simp at eb ev
      rw [eb] at h1
      rw [ev] at h2
      exact ⟨⟨b, v⟩, h1, h2, u64_of hwf⟩
    haveI : Inhabited S31 := ⟨z31⟩
    obtain ⟨q, hq⟩ := Go.Deep.choose_lt hel
    have hmx : len ≤ 9223372036854775807 := by
      have : maxLen ≤ 9223372036854775807 := by decide
      omega
    refine ⟨(List.range len).map q, by simp, hl, by omega, ⟨by simp, hmx, fun _ => ⟨x, rfl, ?_⟩⟩, ?_⟩
    · intro j p hp
      obtain ⟨hj, rfl⟩ : j < len ∧ q j = p := by
        rw [List.getElem?_map] at hp
        rcases Nat.lt_or_ge j len with h | h
        · rw [List.getElem?_range h] at hp
          exact ⟨h, by simpa using hp⟩
        · rw [List.getElem?_eq_none (by simpa using h)] at hp
          cases hp
      obtain ⟨h1, h2, h3⟩ := hq j hj
      refine ⟨[.bool (q j).f0, .int .u64 (q j).f1], rfl, k31_mk W (q j), ?_⟩
      intro i u hu
      match i, hu with
      | 0, hu => obtain rfl := Option.some.inj hu; exact h1
      | 1, hu => obtain rfl := Option.some.inj hu; exact h2
      | i + 2, hu => simp at hu
    · intro y hy
      obtain ⟨j, hj, rfl⟩ := List.mem_map.1 hy
      exact (hq j (List.mem_range.1 hj)).2.2
end Go.Proofs.Ytgkgafahkbibbaa.PAll
