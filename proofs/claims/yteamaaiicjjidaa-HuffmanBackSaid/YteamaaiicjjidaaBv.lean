/- Plain: u32 as bit vectors; the reversing network's bits; a number's lowest bits turned round. -/
import Derived.Laws.Entries
import Derived.Laws.BitsLemmas
namespace Go.Proofs.Yteamaaiicjjidaa.Bv
abbrev B := BitVec 32
def toI (b : B) : Int := (b.toNat : Int)
theorem toI_of (x : Int) (h0 : 0 ≤ x) (h1 : x < 4294967296) : toI (BitVec.ofNat 32 x.toNat) = x := by
  unfold toI; rw [BitVec.toNat_ofNat]; omega
theorem toI_range (b : B) : 0 ≤ toI b ∧ toI b < 4294967296 := by
  unfold toI; have := b.isLt; omega
theorem wrap_toI (b : B) : IntKind.u32.wrap (toI b) = toI b := by
  rw [IntKind.wrap_u32]; have := toI_range b; omega
theorem ofInt_toI (b : B) : BitVec.ofInt 32 (toI b) = b := by
  unfold toI; rw [BitVec.ofInt_natCast, BitVec.ofNat_toNat, BitVec.setWidth_eq]
theorem or_toI (a b : B) : Go.bits .or .u32 (toI a) (toI b) = toI (a ||| b) := by
  show IntKind.u32.wrap (toI (BitVec.ofInt 32 (toI a) ||| BitVec.ofInt 32 (toI b))) = _
  rw [ofInt_toI, ofInt_toI, wrap_toI]
theorem and_toI (a b : B) : Go.bits .and .u32 (toI a) (toI b) = toI (a &&& b) := by
  show IntKind.u32.wrap (toI (BitVec.ofInt 32 (toI a) &&& BitVec.ofInt 32 (toI b))) = _
  rw [ofInt_toI, ofInt_toI, wrap_toI]
theorem xor_toI (a b : B) : Go.bits .xor .u32 (toI a) (toI b) = toI (a ^^^ b) := by
  show IntKind.u32.wrap (toI (BitVec.ofInt 32 (toI a) ^^^ BitVec.ofInt 32 (toI b))) = _
  rw [ofInt_toI, ofInt_toI, wrap_toI]
theorem shr_toI (a : B) (n : Nat) : toI a / (2 ^ n : Nat) = toI (a >>> n) := by
  unfold toI; rw [BitVec.toNat_ushiftRight, Nat.shiftRight_eq_div_pow]; exact (Int.natCast_ediv _ _).symm
theorem shl_toI (a : B) (n : Nat) : (toI a * (2 ^ n : Nat)) % 4294967296 = toI (a <<< n) := by
  unfold toI; rw [BitVec.toNat_shiftLeft, Nat.shiftLeft_eq, ← Int.natCast_mul]; generalize a.toNat * 2 ^ n = t; omega
def net (x : B) : B :=
  let a := x >>> 16 ||| x <<< 16
  let b := (a >>> 8 &&& 0x00ff00ff#32) ||| (a &&& 0x00ff00ff#32) <<< 8
  let c := (b >>> 4 &&& 0x0f0f0f0f#32) ||| (b &&& 0x0f0f0f0f#32) <<< 4
  let d := (c >>> 2 &&& 0x33333333#32) ||| (c &&& 0x33333333#32) <<< 2
  (d >>> 1 &&& 0x55555555#32) ||| (d &&& 0x55555555#32) <<< 1
def sg (k i : Nat) : Nat := if i / k % 2 = 0 then i + k else i - k
theorem st16 (x : B) (i : Nat) (hi : i < 32) : (x >>> 16 ||| x <<< 16).getLsbD i = x.getLsbD (sg 16 i) := by
  rw [BitVec.getLsbD_or, BitVec.getLsbD_ushiftRight, BitVec.getLsbD_shiftLeft]
  unfold sg
  by_cases h : i < 16
  · rw [if_pos (by omega)]; simp [h, Nat.add_comm]
  · rw [if_neg (by omega), BitVec.getLsbD_of_ge x (16 + i) (by omega)]; simp [h, hi]
theorem st (k : Nat) (M x : B) (hk : k ≤ 8) (hM : ∀ i : Fin 32, M.getLsbD i.1 = decide (i.1 / k % 2 = 0)) (hs : ∀ i : Fin 32, k ≤ i.1 → ((i.1 - k) / k % 2 = 0 ↔ ¬ i.1 / k % 2 = 0)) (hl : ∀ i : Fin 32, i.1 < k → i.1 / k % 2 = 0) (i : Nat) (hi : i < 32) :
    ((x >>> k &&& M) ||| (x &&& M) <<< k).getLsbD i = x.getLsbD (sg k i) := by
  rw [BitVec.getLsbD_or, BitVec.getLsbD_and, BitVec.getLsbD_ushiftRight, BitVec.getLsbD_shiftLeft, BitVec.getLsbD_and]
  have h1 := hM ⟨i, hi⟩
  simp only at h1
  unfold sg
  by_cases h : i / k % 2 = 0
  · rw [if_pos h, h1]
    by_cases hik : i < k
    · simp [h, hik, Nat.add_comm]
    · have h2 := hM ⟨i - k, by omega⟩
      have h3 := hs ⟨i, hi⟩ (by simpa using hik)
      simp only at h2 h3
      rw [h2]; simp [h, h3, Nat.add_comm]
  · rw [if_neg h, h1]
    have hik : ¬ i < k := fun hc => h (hl ⟨i, hi⟩ hc)
    have h2 := hM ⟨i - k, by omega⟩
    have h3 := hs ⟨i, hi⟩ (by simpa using hik)
    simp only at h2 h3
    rw [h2]; simp [h, h3, hik, hi]
theorem sg_lt : ∀ k : Fin 17, k.1 = 1 ∨ k.1 = 2 ∨ k.1 = 4 ∨ k.1 = 8 → ∀ i : Fin 32, sg k.1 i.1 < 32 := by decide
theorem sg_all : ∀ i : Fin 32, sg 16 (sg 8 (sg 4 (sg 2 (sg 1 i.1)))) = 31 - i.1 := by decide
theorem net_bit (x : B) (i : Nat) (hi : i < 32) : (net x).getLsbD i = x.getLsbD (31 - i) := by
  have l1 := sg_lt ⟨1, by omega⟩ (by simp) ⟨i, hi⟩
  have l2 := sg_lt ⟨2, by omega⟩ (by simp) ⟨_, l1⟩
  have l4 := sg_lt ⟨4, by omega⟩ (by simp) ⟨_, l2⟩
  have l8 := sg_lt ⟨8, by omega⟩ (by simp) ⟨_, l4⟩
  simp only at l1 l2 l4 l8
  have ha := sg_all ⟨i, hi⟩
  simp only at ha
  unfold net
  simp only
  rw [st 1 0x55555555#32 _ (by omega) (by decide) (by decide) (by decide) i hi, st 2 0x33333333#32 _ (by omega) (by decide) (by decide) (by decide) _ l1,
    st 4 0x0f0f0f0f#32 _ (by omega) (by decide) (by decide) (by decide) _ l2, st 8 0x00ff00ff#32 _ (by omega) (by decide) (by decide) (by decide) _ l4, st16 _ _ l8, ha]
def rv : Nat → Nat → Nat → Nat
  | 0, _, out => out
  | m + 1, v, out => rv m (v / 2) (2 * out + v % 2)
theorem rv_bit (m v out j : Nat) : (rv m v out).testBit j = if j < m then v.testBit (m - 1 - j) else out.testBit (j - m) := by
  induction m generalizing v out with
  | zero => simp [rv]
  | succ m ih =>
    rw [rv, ih]
    have h2 : ∀ i, (v / 2).testBit i = v.testBit (i + 1) := fun i => (Nat.testBit_succ v i).symm
    have h3 : ∀ i, (2 * out + v % 2).testBit (i + 1) = out.testBit i := fun i => by
      rw [Nat.testBit_succ]; congr 1; omega
    by_cases h : j < m
    · rw [if_pos h, if_pos (by omega), h2]; congr 1; omega
    · rw [if_neg h]
      by_cases hj : j = m
      · subst hj
        rw [if_pos (by omega)]
        simp [Nat.testBit_zero]
      · rw [if_neg (by omega), show j - m = (j - (m + 1)) + 1 by omega, h3]
theorem rv_lt (m v : Nat) : rv m v 0 < 2 ^ m := by
  apply Nat.lt_pow_two_of_testBit
  intro i hi
  rw [rv_bit, if_neg (by omega)]; simp
theorem rv_rv (m v : Nat) : rv m (rv m v 0) 0 = v % 2 ^ m := by
  apply Nat.eq_of_testBit_eq
  intro i
  rw [rv_bit, Nat.testBit_mod_two_pow]
  by_cases h : i < m
  · rw [if_pos h, rv_bit, if_pos (by omega)]; simp only [h, decide_true, Bool.true_and]; congr 1; omega
  · rw [if_neg h]; simp [h]
end Go.Proofs.Yteamaaiicjjidaa.Bv
