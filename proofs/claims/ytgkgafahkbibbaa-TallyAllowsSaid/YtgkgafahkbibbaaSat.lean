/- Plain: sums and products that stay at the greatest number: what the program's wide arithmetic comes to, and the laws of order and grouping. -/
import Derived.Test.YtgkgafahkbibbaaPAllx3
namespace Go.Proofs.Ytgkgafahkbibbaa.Sat
open Go.RowKit Go.Proofs.Ytgkgafahkbibbaa.PAll Go.Proofs.YtgkgafahkbibbaaW.PrintWords Go.Proofs.YtgkgafahkbibbaaW.PrintLast Go.Proofs.YtgkgafahkbibbaaW.PrintMore
set_option linter.unusedVariables false
theorem wu64 (n : Int) : IntKind.u64.wrap n = n % 18446744073709551616 := by simp [IntKind.wrap, IntKind.bits, IntKind.signed]
theorem u64_of {x : Int} (h : (Lit.int .u64 x).wf = true) : 0 ≤ x ∧ x ≤ 18446744073709551615 := by
  simpa [Lit.wf, IntKind.min, IntKind.max, IntKind.signed, IntKind.bits] using h
def Rg (x : Int) : Prop := 0 ≤ x ∧ x ≤ 18446744073709551615
theorem mask32 (x : Int) (h : Rg x) : Go.bits .and .u64 x 4294967295 = x % 4294967296 := by
  have := bits_mask .u64 64 (by decide) (fun n h0 h1 => by rw [wu64]; omega) 32 (by omega) x h.1 (by have := h.2; omega)
  have e : (2 : Int) ^ 32 = 4294967296 := by decide
  rw [e] at this
  exact this
/-- the product of two halves' parts, told by atoms alone. -/
theorem wide (P p11 p10 p01 p00 : Int) (hP : P = p11 * 18446744073709551616 + (p10 + p01) * 4294967296 + p00) (h11 : 0 ≤ p11 ∧ p11 ≤ 18446744065119617025) (h10 : 0 ≤ p10 ∧ p10 ≤ 18446744065119617025) (h01 : 0 ≤ p01 ∧ p01 ≤ 18446744065119617025) (h00 : 0 ≤ p00 ∧ p00 ≤ 18446744065119617025) :
    ((p11 % 18446744073709551616 + (p10 % 18446744073709551616 + p00 % 18446744073709551616 / 4294967296) % 18446744073709551616 / 4294967296) % 18446744073709551616 + ((p10 % 18446744073709551616 + p00 % 18446744073709551616 / 4294967296) % 18446744073709551616 % 4294967296 + p01 % 18446744073709551616) % 18446744073709551616 / 4294967296) % 18446744073709551616 = P / 18446744073709551616 := by
  subst hP
  rw [Int.emod_eq_of_lt h11.1 (by omega), Int.emod_eq_of_lt h10.1 (by omega), Int.emod_eq_of_lt h01.1 (by omega), Int.emod_eq_of_lt h00.1 (by omega)]
  omega
theorem half_mul {a b : Int} (ha : 0 ≤ a ∧ a < 4294967296) (hb : 0 ≤ b ∧ b < 4294967296) : 0 ≤ a * b ∧ a * b ≤ 18446744065119617025 := by
  refine ⟨Int.mul_nonneg ha.1 hb.1, ?_⟩
  have h1 : a * b ≤ 4294967295 * b := Int.mul_le_mul_of_nonneg_right (by omega) hb.1
  have h2 : (4294967295 : Int) * b ≤ 4294967295 * 4294967295 := Int.mul_le_mul_of_nonneg_left (by omega) (by omega)
  omega
theorem mul64 (a b : Int) (ha : Rg a) (hb : Rg b) : bits_Mul64.f a b = some (a * b / 18446744073709551616, a * b % 18446744073709551616) := by
  unfold bits_Mul64.f
  have a1 : 0 ≤ a / 4294967296 ∧ a / 4294967296 < 4294967296 := by have := ha.1; have := ha.2; omega
  have a0 : 0 ≤ a % 4294967296 ∧ a % 4294967296 < 4294967296 := by omega
  have b1 : 0 ≤ b / 4294967296 ∧ b / 4294967296 < 4294967296 := by have := hb.1; have := hb.2; omega
  have b0 : 0 ≤ b % 4294967296 ∧ b % 4294967296 < 4294967296 := by omega
  have p11 := half_mul a1 b1
  have p10 := half_mul a1 b0
  have p01 := half_mul a0 b1
  have p00 := half_mul a0 b0
  have e : a * b = (a / 4294967296) * (b / 4294967296) * 18446744073709551616 + ((a / 4294967296) * (b % 4294967296) + (a % 4294967296) * (b / 4294967296)) * 4294967296 + (a % 4294967296) * (b % 4294967296) := by
    have ea : a = (a / 4294967296) * 4294967296 + a % 4294967296 := by omega
    have eb : b = (b / 4294967296) * 4294967296 + b % 4294967296 := by omega
    generalize a / 4294967296 = x1 at *
    generalize a % 4294967296 = x0 at *
    generalize b / 4294967296 = y1 at *
    generalize b % 4294967296 = y0 at *
    subst ea; subst eb
    rw [Int.add_mul, Int.mul_add, Int.mul_add]
    have h1 : x1 * 4294967296 * (y1 * 4294967296) = x1 * y1 * 18446744073709551616 := by
      rw [Int.mul_assoc x1, ← Int.mul_assoc 4294967296 y1, Int.mul_comm 4294967296 y1, Int.mul_assoc y1, ← Int.mul_assoc x1]
      rfl
    have h2 : x1 * 4294967296 * y0 = x1 * y0 * 4294967296 := by rw [Int.mul_assoc, Int.mul_comm 4294967296, ← Int.mul_assoc]
    have h3 : x0 * (y1 * 4294967296) = x0 * y1 * 4294967296 := by rw [← Int.mul_assoc]
    rw [h1, h2, h3]; omega
  simp only [mask32 a ha, mask32 b hb, wu64]
  have ht : Rg (((a / 4294967296) * (b % 4294967296) % 18446744073709551616 + (a % 4294967296) * (b % 4294967296) % 18446744073709551616 / 4294967296) % 18446744073709551616) := by
    constructor <;> omega
  rw [mask32 _ ht]
  rw [wide (a * b) _ _ _ _ e p11 p10 p01 p00]
/-- The number, or the greatest one. -/
def satN (x : Int) : Int := if x ≤ 18446744073709551615 then x else 18446744073709551615
theorem satN_range {x : Int} (h : 0 ≤ x) : Rg (satN x) := by unfold satN Rg; split <;> omega
theorem satAdd_eq (a b : Int) : satAdd a b = satN (a + b) := rfl
theorem add_f (a b : Int) (ha : Rg a) (hb : Rg b) : tally_Add.f a b = some (satN (a + b)) := by
  unfold tally_Add.f
  rw [if_pos ⟨ha.1, ha.2, hb.1, hb.2⟩]; rfl
theorem times_f (a b : Int) (ha : Rg a) (hb : Rg b) : tally_Times.f a b = some (satN (a * b)) := by
  unfold tally_Times.f
  rw [mul64 a b ha hb]
  simp only [Option.bind_some]
  have hp : 0 ≤ a * b := Int.mul_nonneg ha.1 hb.1
  generalize a * b = p at *
  unfold satN
  by_cases h : p ≤ 18446744073709551615
  · rw [if_pos (by omega), if_pos h]; congr 1; omega
  · rw [if_neg (by omega), if_neg h]
theorem satN_add_l (x b : Int) (hx : 0 ≤ x) (hb : 0 ≤ b) : satN (satN x + b) = satN (x + b) := by
  unfold satN; (repeat' split) <;> omega
theorem satN_mul_l (x b : Int) (hx : 0 ≤ x) (hb : 0 ≤ b) : satN (satN x * b) = satN (x * b) := by
  by_cases h : x ≤ 18446744073709551615
  · unfold satN; rw [if_pos h]
  · have e : satN x = 18446744073709551615 := by unfold satN; rw [if_neg h]
    rw [e]
    by_cases hb0 : b = 0
    · subst hb0; simp
    · have h1 : 18446744073709551615 ≤ 18446744073709551615 * b := by omega
      have h2 : x * 1 ≤ x * b := Int.mul_le_mul_of_nonneg_left (by omega) hx
      unfold satN
      by_cases h3 : b = 1
      · subst h3; rw [if_pos (by omega), if_neg (by omega)]; omega
      · rw [if_neg (by omega), if_neg (by omega)]
theorem satN_mono {x y : Int} (h : x ≤ y) : satN x ≤ satN y := by unfold satN; (repeat' split) <;> omega
theorem satN_id {x : Int} (h : Rg x) : satN x = x := by unfold satN; rw [if_pos h.2]
end Go.Proofs.Ytgkgafahkbibbaa.Sat
