/- The walk of tally.Add, by hand: the model's own Add64, and the sum that stays at the greatest number. -/
import Derived.Test.YtgkgafahkbibbaaPAllx0
import Derived.Laws.MathBits
import Derived.Laws.Externs
namespace Go.Proofs.Ytgkgafahkbibbaa.PAll
open Go.RowKit Go.Proofs.YtgkgafahkbibbaaW.PrintWords Go.Proofs.YtgkgafahkbibbaaW.PrintLast Go.Proofs.YtgkgafahkbibbaaW.PrintMore
set_option linter.unusedVariables false
def hi64 (a : Int) : Int := a / 18446744073709551616
def lo64 (a : Int) : Int := a % 18446744073709551616
theorem add64_run (x y : Int) (hx : 0 ≤ x) (hy : 0 ≤ y) (w : World) :
    (callFunc 22 #[.int .u64 x, .int .u64 y, .int .u64 0]).run Try.prog w = .ok (.value (.tuple #[.int .u64 (lo64 (x + y)), .int .u64 (hi64 (x + y))])) w := by
  rw [run_callFunc_extern Try.func22 (by kernel_rfl) (by kernel_rfl) (by kernel_rfl) (e := add64Entry) (by kernel_rfl), run_add64 x y 0 hx hy (by omega) (by omega)]
  simp only [Result.andThen, Int.add_zero]
  rfl
def top : Int := 18446744073709551615
/-- The sum, or the greatest number. -/
def satAdd (a b : Int) : Int := if a + b ≤ top then a + b else top
theorem satAdd_hi (a b : Int) (h : (hi64 (a + b) != 0) = true) (ha : 0 ≤ a ∧ a ≤ 18446744073709551615) (hb : 0 ≤ b ∧ b ≤ 18446744073709551615) : satAdd a b = top := by
  unfold satAdd top hi64 at *
  simp only [bne_iff_ne] at h
  rw [if_neg (by omega)]
theorem satAdd_lo (a b : Int) (h : (hi64 (a + b) != 0) = false) (ha : 0 ≤ a ∧ a ≤ 18446744073709551615) (hb : 0 ≤ b ∧ b ≤ 18446744073709551615) : satAdd a b = lo64 (a + b) := by
  unfold satAdd top lo64 hi64 at *
  simp only [bne_eq_false_iff_eq] at h
  rw [if_pos (by omega)]; omega
def tally_Add.f (a b : Int) : Option Int := if 0 ≤ a ∧ a ≤ 18446744073709551615 ∧ 0 ≤ b ∧ b ≤ 18446744073709551615 then some (satAdd a b) else none
theorem tally_Add.calls (a b : Int) (r : Int) (w : World) (h : tally_Add.f a b = some r) :
    Calls Try.prog 16 #[.int .u64 a, .int .u64 b] w fun e w' => e = .returned (.int .u64 r) ∧ Drawn0 w w' := by
  unfold tally_Add.f at h
  by_cases hr : 0 ≤ a ∧ a ≤ 18446744073709551615 ∧ 0 ≤ b ∧ b ≤ 18446744073709551615
  · rw [if_pos hr] at h
    obtain rfl := Option.some.inj h
    have ha : 0 ≤ a ∧ a ≤ 18446744073709551615 := ⟨hr.1, hr.2.1⟩
    have hb : 0 ≤ b ∧ b ≤ 18446744073709551615 := hr.2.2
    clear h hr
    have hadd := fun w => add64_run a b ha.1 hb.1 w
    cases h : (hi64 (a + b) != 0)
    · rw [satAdd_lo a b h ha hb]
      go_enter Try.func16, Try.ntmps16
      go_wp2
      go_ret
      exact ⟨rfl, Drawn0.refl _⟩
    · rw [satAdd_hi a b h ha hb]
      go_enter Try.func16, Try.ntmps16
      go_wp2
      go_ret
      exact ⟨rfl, Drawn0.refl _⟩
  · rw [if_neg hr] at h; cases h
end Go.Proofs.Ytgkgafahkbibbaa.PAll
