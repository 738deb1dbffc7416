/- Plain: what is used and what is left are together the limit, whatever is claimed and given back. -/
import Derived.Test.YtgkgafahkbibbaaPAllx2
import Derived.Test.YtgkgafahkbibbaaSat
import Derived.Test.YtgkgafahkbibbaaActs
namespace Go.Proofs.Ytgkgafahkbibbaa.Pure
open Go.RowKit Go.Proofs.Ytgkgafahkbibbaa.PAll Go.Proofs.YtgkgafahkbibbaaW.PrintWords Go.Proofs.YtgkgafahkbibbaaW.PrintLast Go.Proofs.Ytgkgafahkbibbaa.Sat
set_option linter.unusedVariables false
theorem never_run (a : Int) (ha : Rg a) (l : List S31) (hl : l.length ≤ 9223372036854775807) (hr : ∀ x ∈ l, Rg x.f1) (n : Nat) : ∀ (k i : Nat) (u : Int), i + n = l.length → 0 ≤ u → u ≤ a → 2 * n + 1 ≤ k → winklelaw01_TallyNever.l0 k a l (i : Int) a u = some true := by
  induction n with
  | zero =>
    intro k i u hi hu hua hk
    obtain ⟨k, rfl⟩ : ∃ j, k = j + 1 := ⟨k - 1, by omega⟩
    have h1 := ha.2
    simp only [winklelaw01_TallyNever.l0]
    rw [if_neg (by omega)]
    simp only [tally_Ledger_Left.f, tally_Ledger_Claim.f, tally_Ledger_Give.f, tally_Ledger_Used.f, Option.bind_some, wu64]
    have e1 : (a - u) % 18446744073709551616 = a - u := by omega
    rw [e1, if_neg (by omega)]
    simp only [Option.bind_some]
    have e2 : (u + (a - u)) % 18446744073709551616 = a := by omega
    rw [e2]
    have e3 : (a - a) % 18446744073709551616 = 0 := by omega
    rw [e3]
    simp
  | succ n ih =>
    intro k i u hi hu hua hk
    obtain ⟨k, rfl⟩ : ∃ j, k = j + 2 := ⟨k - 2, by omega⟩
    have h1 := ha.2
    have hit : i < l.length := by omega
    have hx : rd_T31 l (i : Int) = l[i] := by simp [rd_T31, hit]
    have hxr : Rg (l[i]).f1 := hr _ (List.getElem_mem hit)
    have hj : ∀ v : Int, 0 ≤ v → v ≤ a → winklelaw01_TallyNever.j1 (k + 1) a l (i : Int) a v = some true := by
      intro v hv hva
      simp only [winklelaw01_TallyNever.j1, tally_Ledger_Left.f, tally_Ledger_Used.f, Option.bind_some, wu64]
      rw [if_neg (by omega), if_pos (by omega)]
      rw [show wrap64 ((i : Int) + 1) = ((i + 1 : Nat) : Int) by unfold wrap64; omega]
      exact ih k (i + 1) v (by omega) hv hva (by omega)
    rw [show k + 2 = k + 1 + 1 from rfl]
    unfold winklelaw01_TallyNever.l0
    rw [if_pos (by omega)]
    simp only [tally_Ledger_Used.f, Option.bind_some]
    rw [if_pos (by omega), hx]
    obtain ⟨hx0, hx1⟩ := hxr
    generalize (l[i]).f1 = x at hx0 hx1
    generalize (l[i]).f0 = g
    cases g
    · rw [if_neg (by simp)]
      simp only [tally_Ledger_Claim.f, wu64]
      have e1 : (a - u) % 18446744073709551616 = a - u := by omega
      rw [e1]
      by_cases hc : x > a - u
      · rw [if_pos hc, Option.bind_some, decide_eq_false (by omega)]
        simp only [bne_self_eq_false, if_false, Bool.false_eq_true]
        exact hj u hu hua
      · rw [if_neg hc, Option.bind_some, decide_eq_true (by omega)]
        simp only [bne_self_eq_false, if_false, Bool.false_eq_true]
        exact hj _ (by omega) (by omega)
    · rw [if_pos rfl]
      simp only [tally_Ledger_Give.f, wu64]
      by_cases hc : x > u
      · rw [if_pos hc, Option.bind_some, decide_eq_false (by omega)]
        simp only [bne_self_eq_false, if_false, Bool.false_eq_true]
        exact hj u hu hua
      · rw [if_neg hc, Option.bind_some, decide_eq_true (by omega)]
        simp only [bne_self_eq_false, if_false, Bool.false_eq_true]
        exact hj _ (by omega) (by omega)
theorem TallyNever (a : Int) (ha : Rg a) (l : List S31) (hl : l.length ≤ 9223372036854775807) (hr : ∀ x ∈ l, Rg x.f1) : ∃ k, winklelaw01_TallyNever.f k a l = some true :=
  ⟨2 * l.length + 1, never_run a ha l hl hr l.length _ 0 0 (by omega) (by omega) ha.1 (by omega)⟩
end Go.Proofs.Ytgkgafahkbibbaa.Pure
namespace Go.Proofs.Ytgkgafahkbibbaa.PAll
open Go.RowKit Go.Proofs.YtgkgafahkbibbaaW.PrintWords Go.Proofs.YtgkgafahkbibbaaW.PrintLast Go.Proofs.Ytgkgafahkbibbaa.Sat
theorem never_walk (a0 : Int) (A1 : Option Addr) (c1 : Nat) (l : List S31) (w : World) (wf : (Lit.int .u64 a0).wf = true) (hC : Kd.C k31 w A1 l.length l) (hc : l.length ≤ c1) (hm : l.length ≤ maxLen) (hr : ∀ x ∈ l, Rg x.f1) :
    Calls Try.prog 5 #[.int .u64 a0, .slice A1 l.length c1] w fun e w' => e = .returned (.bool true) ∧ Below w.heap.size w w' := by
  have h60 : maxLen ≤ 9223372036854775807 := by decide
  obtain ⟨k, h⟩ := Pure.TallyNever a0 (u64_of wf) l (by omega) hr
  exact winklelaw01_TallyNever.calls k a0 A1 c1 l true w hC hc h
end Go.Proofs.Ytgkgafahkbibbaa.PAll
