/- Plain: what the shifts and masks of a bit reader come to; no walk. -/
import Derived.Test.YteamaaiicjjidaaPAllx0
import Derived.ScopeJumps
namespace Go.Proofs.Yteamaaiicjjidaa.PAll
open Go.RowKit Go.Proofs.YteamaaiicjjidaaW.PrintWords Go.Proofs.YteamaaiicjjidaaW.PrintLast Go.Proofs.YteamaaiicjjidaaW.PrintMore
set_option linter.unusedVariables false
set_option linter.unusedSimpArgs false
/-- with a byte behind. -/
def bits_Reader_Put.f (s0 s1 a1 : Int) : Option (Bool × Int × Int) :=
  if s1 > 56 then some (false, s0, s1) else if 0 ≤ a1 ∧ a1 ≤ 255 ∧ 0 ≤ s1 ∧ 0 ≤ s0 ∧ s0 < 2 ^ s1.toNat then some (true, s0 + a1 * 2 ^ s1.toNat, s1 + 8) else none
/-- the first bits' number. -/
def bits_Reader_Peek.f (s0 s1 a1 : Int) : Option (Int × Bool × Int × Int) :=
  if a1 < 0 ∨ a1 > 32 ∨ a1 > s1 then some (0, false, s0, s1) else if 0 ≤ s0 ∧ s0 < 18446744073709551616 then some (s0 % 2 ^ a1.toNat, true, s0, s1) else none
theorem pow_le56 (n : Nat) (h : n ≤ 56) : (2 : Int) ^ n ≤ 72057594037927936 := by
  have : (2 : Nat) ^ n ≤ 2 ^ 56 := Nat.pow_le_pow_right (by omega) h
  have e : ((2 ^ n : Nat) : Int) = (2 : Int) ^ n := by simp
  rw [← e]
  have e2 : (2 : Nat) ^ 56 = 72057594037927936 := by decide
  omega
theorem pow_nn (n : Nat) : (0 : Int) ≤ 2 ^ n := by
  have e : ((2 ^ n : Nat) : Int) = (2 : Int) ^ n := by simp
  rw [← e]; exact Int.natCast_nonneg _
theorem or_comm64 (x y : Int) : Go.bits .or .u64 x y = Go.bits .or .u64 y x := by
  show IntKind.u64.wrap (((BitVec.ofInt 64 x ||| BitVec.ofInt 64 y).toNat : Nat) : Int) = IntKind.u64.wrap (((BitVec.ofInt 64 y ||| BitVec.ofInt 64 x).toNat : Nat) : Int)
  rw [BitVec.or_comm]
theorem w64 (x : Int) (h0 : 0 ≤ x) (h1 : x < 18446744073709551616) : IntKind.u64.wrap x = x := by simp [IntKind.wrap, IntKind.bits, IntKind.signed]; omega
theorem put_bits (s0 a1 : Int) (n : Nat) (hn : n ≤ 56) (h0 : 0 ≤ s0) (h1 : s0 < 2 ^ n) (h2 : 0 ≤ a1) (h3 : a1 ≤ 255) :
    IntKind.u64.wrap (a1 * 2 ^ n) = a1 * 2 ^ n ∧ Go.bits .or .u64 s0 (a1 * 2 ^ n) = s0 + a1 * 2 ^ n := by
  have hp := pow_le56 n hn
  have hp0 := pow_nn n
  have hm : a1 * 2 ^ n ≤ 255 * 2 ^ n := Int.mul_le_mul_of_nonneg_right h3 hp0
  have hm0 : 0 ≤ a1 * 2 ^ n := Int.mul_nonneg h2 hp0
  have e64 : (2 : Int) ^ 64 = 18446744073709551616 := by decide
  refine ⟨w64 _ hm0 (by omega), ?_⟩
  have := bits_join .u64 64 (by decide) (fun n h0 h1 => w64 n h0 (by omega)) n (a1 * 2 ^ n) s0 hm0 (Int.mul_emod_left _ _) (by omega) h0 h1 (by omega)
  rw [or_comm64, this, Int.add_comm]
theorem pow_le32 (n : Nat) (h : n ≤ 32) : (2 : Int) ^ n ≤ 4294967296 := by
  have : (2 : Nat) ^ n ≤ 2 ^ 32 := Nat.pow_le_pow_right (by omega) h
  have e : ((2 ^ n : Nat) : Int) = (2 : Int) ^ n := by simp
  rw [← e]
  have e2 : (2 : Nat) ^ 32 = 4294967296 := by decide
  omega
theorem pow_pos' (n : Nat) : (1 : Int) ≤ 2 ^ n := by
  have e : ((2 ^ n : Nat) : Int) = (2 : Int) ^ n := by simp
  rw [← e]; have := Nat.pos_of_ne_zero (n := 2 ^ n) (by simp); omega
theorem peek_bits (s0 : Int) (n : Nat) (hn : n ≤ 32) (h0 : 0 ≤ s0) (h1 : s0 < 18446744073709551616) :
    IntKind.u64.wrap (1 * 2 ^ n) = 2 ^ n ∧ IntKind.u64.wrap (2 ^ n) = 2 ^ n ∧ IntKind.u64.wrap (2 ^ n - 1) = 2 ^ n - 1 ∧ Go.bits .and .u64 s0 (2 ^ n - 1) = s0 % 2 ^ n ∧ IntKind.u32.wrap (s0 % 2 ^ n) = s0 % 2 ^ n := by
  have hp := pow_le32 n hn
  have hp1 := pow_pos' n
  have e64 : (2 : Int) ^ 64 = 18446744073709551616 := by decide
  have := bits_mask .u64 64 (by decide) (fun n h0 h1 => w64 n h0 (by omega)) n (by omega) s0 h0 (by omega)
  have hm0 : 0 ≤ s0 % 2 ^ n := Int.emod_nonneg _ (by omega)
  have hm1 : s0 % 2 ^ n < 2 ^ n := Int.emod_lt_of_pos _ (by omega)
  refine ⟨by rw [Int.one_mul]; exact w64 _ (by omega) (by omega), w64 _ (by omega) (by omega), w64 _ (by omega) (by omega), this, ?_⟩
  simp [IntKind.wrap, IntKind.bits, IntKind.signed]; omega
end Go.Proofs.Yteamaaiicjjidaa.PAll
