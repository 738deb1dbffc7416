/- Plain: turning round a number's lowest bits by the network is the document's turning round, and turning twice gives the lowest bits; for every number and every count of bits. -/
import Derived.Test.YtanbckcknfoifaaPBitsReversesx1
import Derived.Test.YtanbckcknfoifaaBv
namespace Go.Proofs.Ytanbckcknfoifaa.Pure
open Go.RowKit Go.Proofs.Ytanbckcknfoifaa.PBitsReverses Go.Proofs.YtanbckcknfoifaaW.PrintWords Go.Proofs.YtanbckcknfoifaaW.PrintLast
open Go.Proofs.Ytanbckcknfoifaa.Bv

theorem c1 : (16711935 : Int) = toI 0x00ff00ff#32 := by decide
theorem c2 : (252645135 : Int) = toI 0x0f0f0f0f#32 := by decide
theorem c3 : (858993459 : Int) = toI 0x33333333#32 := by decide
theorem c4 : (1431655765 : Int) = toI 0x55555555#32 := by decide
theorem r16 (a : B) : toI a / (65536 : Int) = toI (a >>> 16) := shr_toI a 16
theorem r8 (a : B) : toI a / (256 : Int) = toI (a >>> 8) := shr_toI a 8
theorem r4 (a : B) : toI a / (16 : Int) = toI (a >>> 4) := shr_toI a 4
theorem r2 (a : B) : toI a / (4 : Int) = toI (a >>> 2) := shr_toI a 2
theorem r1 (a : B) : toI a / (2 : Int) = toI (a >>> 1) := shr_toI a 1
theorem l16 (a : B) : (toI a * (65536 : Int)) % (4294967296 : Int) = toI (a <<< 16) := shl_toI a 16
theorem l8 (a : B) : (toI a * (256 : Int)) % (4294967296 : Int) = toI (a <<< 8) := shl_toI a 8
theorem l4 (a : B) : (toI a * (16 : Int)) % (4294967296 : Int) = toI (a <<< 4) := shl_toI a 4
theorem l2 (a : B) : (toI a * (4 : Int)) % (4294967296 : Int) = toI (a <<< 2) := shl_toI a 2
theorem l1 (a : B) : (toI a * (2 : Int)) % (4294967296 : Int) = toI (a <<< 1) := shl_toI a 1
def cl (n : Int) : Nat := (mx 0 (mn 32 n)).toNat
theorem cl_le (n : Int) : cl n ≤ 32 ∧ mx 0 (mn 32 n) = (cl n : Int) := by
  unfold cl mx mn; constructor <;> (repeat' split) <;> omega
theorem wrap_u64 (n : Int) : IntKind.u64.wrap n = n % 18446744073709551616 := by simp [IntKind.wrap, IntKind.bits, IntKind.signed]
theorem rev_f (x : B) (n : Int) : bits_Reverse.f (toI x) n = some ((rv (cl n) x.toNat 0 : Nat) : Int) := by
  unfold bits_Reverse.f
  obtain ⟨hm, he⟩ := cl_le n
  simp only [r16, l16, or_toI, r8, l8, c1, and_toI, r4, l4, c2, r2, l2, c3, r1, l1, c4]
  rw [he]
  generalize cl n = m at *
  have hx : ∀ i, (net x).toNat.testBit i = (decide (i < 32) && x.toNat.testBit (31 - i)) := fun i => by
    by_cases hi : i < 32
    · have := net_bit x i hi
      simp only [BitVec.testBit_toNat]
      rw [this]; simp [hi]
    · rw [BitVec.testBit_toNat, BitVec.getLsbD_of_ge _ _ (by omega)]; simp [hi]
  have key : (net x).toNat / 2 ^ (32 - m) = rv m x.toNat 0 := by
    apply Nat.eq_of_testBit_eq
    intro i
    rw [Nat.testBit_div_two_pow, hx, rv_bit]
    by_cases h : i < m
    · rw [if_pos h, decide_eq_true (show i + (32 - m) < 32 by omega), Bool.true_and]; congr 1; omega
    · rw [if_neg h, decide_eq_false (show ¬ i + (32 - m) < 32 by omega)]; simp
  congr 1
  show IntKind.u64.wrap (toI (net x)) / 2 ^ (32 - (m : Int)).toNat % 4294967296 = _
  rw [wrap_u64]
  have hr := toI_range (net x)
  rw [Int.emod_eq_of_lt hr.1 (by omega), show (32 - (m : Int)).toNat = 32 - m by omega]
  have h1 : toI (net x) / 2 ^ (32 - m) = ((rv m x.toNat 0 : Nat) : Int) := by
    rw [← key]; unfold toI; rw [Int.natCast_ediv]; simp
  rw [h1]
  have := rv_lt m x.toNat
  have h3 : 2 ^ m ≤ 2 ^ 32 := Nat.pow_le_pow_right (by omega) hm
  omega
theorem ref_l (m : Nat) : ∀ (d : Nat) (k : Nat) (v out i : Int), 0 ≤ v → v < 4294967296 → 0 ≤ out → 0 ≤ i → i + d = m → m ≤ 32 → out < 2 ^ i.toNat → d < k →
    winkleref02_Reverse.l0 k v m out i = some ((rv d v.toNat out.toNat : Nat) : Int) := by
  intro d
  induction d with
  | zero =>
    intro k v out i hv0 hv ho hi he hm hlt hk
    obtain ⟨k, rfl⟩ : ∃ j, k = j + 1 := ⟨k - 1, by omega⟩
    simp only [winkleref02_Reverse.l0]
    rw [if_neg (by omega)]; simp [rv, Int.toNat_of_nonneg ho]
  | succ d ih =>
    intro k v out i hv0 hv ho hi he hm hlt hk
    obtain ⟨k, rfl⟩ : ∃ j, k = j + 1 := ⟨k - 1, by omega⟩
    simp only [winkleref02_Reverse.l0]
    have hp : (2 : Int) ^ (i.toNat + 1) = 2 * 2 ^ i.toNat := by rw [Int.pow_succ]; omega
    have hp2 : (2 : Int) ^ (i.toNat + 1) ≤ 2 ^ 32 := by
      have := Nat.pow_le_pow_right (n := 2) (by omega) (show i.toNat + 1 ≤ 32 by omega)
      exact_mod_cast this
    rw [if_pos (by omega)]
    have e1 : Int.tdiv v 2 % 4294967296 = v / 2 := by rw [Int.tdiv_eq_ediv_of_nonneg hv0]; omega
    have e2 : Int.tmod v 2 = v % 2 := Int.tmod_eq_emod_of_nonneg hv0
    have e3 : wrap64 (i + 1) = i + 1 := by unfold wrap64; omega
    rw [e1, e2, e3]
    have e4 : (2 * out % 4294967296 + v % 2) % 4294967296 = 2 * out + v % 2 := by omega
    rw [e4, ih k (v / 2) (2 * out + v % 2) (i + 1) (by omega) (by omega) (by omega) (by omega) (by omega) hm (by rw [show (i + 1).toNat = i.toNat + 1 by omega]; omega) (by omega)]
    congr 1
    show _ = ((rv d (v.toNat / 2) (2 * out.toNat + v.toNat % 2) : Nat) : Int)
    rw [show (v / 2).toNat = v.toNat / 2 by omega, show (2 * out + v % 2).toNat = 2 * out.toNat + v.toNat % 2 by omega]
theorem ref_f (x : B) (n : Int) : winkleref02_Reverse.f 34 (toI x) n = some ((rv (cl n) x.toNat 0 : Nat) : Int) := by
  obtain ⟨hm, he⟩ := cl_le n
  unfold winkleref02_Reverse.f
  rw [he, ref_l (cl n) (cl n) 34 _ _ _ (toI_range x).1 (toI_range x).2 (by omega) (by omega) (by omega) hm (by decide) (by omega)]
  rfl
theorem BitsReverses : winklelaw02_BitsReverses.Pure := by
  intro a0 a1 w0 w1
  have hx : 0 ≤ a0 ∧ a0 ≤ 4294967295 := by simpa [Lit.wf, IntKind.min, IntKind.max, IntKind.signed, IntKind.bits] using w0
  obtain ⟨x, rfl⟩ : ∃ x : B, a0 = toI x := ⟨_, (toI_of a0 hx.1 (by omega)).symm⟩
  refine ⟨34, ?_⟩
  unfold winklelaw02_BitsReverses.f
  obtain ⟨hm, he⟩ := cl_le a1
  rw [rev_f]
  simp only [Option.bind_some]
  rw [he]
  have hpN : 1 ≤ 2 ^ cl a1 ∧ 2 ^ cl a1 ≤ 4294967296 := ⟨Nat.one_le_two_pow, by have := Nat.pow_le_pow_right (n := 2) (by omega) hm; omega⟩
  have hpc : (2 : Int) ^ cl a1 = ((2 ^ cl a1 : Nat) : Int) := by simp
  have hw : IntKind.u64.wrap (2 ^ ((cl a1 : Nat) : Int).toNat) = ((2 ^ cl a1 : Nat) : Int) := by
    rw [wrap_u64, Int.toNat_natCast, hpc]; omega
  rw [hw, if_neg (by omega), ref_f]
  simp only [Option.bind_some, if_true]
  have hl := rv_lt (cl a1) x.toNat
  obtain ⟨y, hy⟩ : ∃ y : B, ((rv (cl a1) x.toNat 0 : Nat) : Int) = toI y := ⟨BitVec.ofNat 32 (rv (cl a1) x.toNat 0), by unfold toI; rw [BitVec.toNat_ofNat]; omega⟩
  have hy' : y.toNat = rv (cl a1) x.toNat 0 := by unfold toI at hy; omega
  rw [hy, rev_f, hy', rv_rv]
  simp only [Option.bind_some]
  have hr := toI_range x
  have ht : Int.tmod (IntKind.u64.wrap (toI x)) ((2 ^ cl a1 : Nat) : Int) % 4294967296 = ((x.toNat % 2 ^ cl a1 : Nat) : Int) := by
    rw [wrap_u64, Int.emod_eq_of_lt hr.1 (by omega), Int.tmod_eq_emod_of_nonneg hr.1]
    unfold toI
    have := Nat.mod_lt x.toNat hpN.1
    rw [← Int.natCast_emod]; omega
  rw [ht, if_pos rfl]
  rw [show bits_Reverse.f 1 3 = some 4 by decide]
  rfl
end Go.Proofs.Ytanbckcknfoifaa.Pure
