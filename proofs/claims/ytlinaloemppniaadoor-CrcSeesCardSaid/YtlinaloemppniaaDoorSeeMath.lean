/- Plain: bytes that differ within 32 bits side by side have sums that differ. -/
import Derived.Test.YtlinaloemppniaaDoorSteps
namespace Go.Proofs.YtlinaloemppniaaDoor.PAll
open Go.RowKit Go.Proofs.YtlinaloemppniaaDoor.Crc Go.Proofs.YtlinaloemppniaaDoor.CrcMath Go.Proofs.YtlinaloemppniaaDoorW.PrintWords Go.Proofs.YtlinaloemppniaaDoorW.PrintLast Go.Proofs.YtlinaloemppniaaDoorW.PrintMore
set_option linter.unusedVariables false
set_option linter.unusedSimpArgs false
/-- bit j of a row of bytes. -/
def xb (l : List Int) (j : Nat) : Bool := (bv (l.getD (j / 8) 0)).getLsbD (j % 8)
theorem bv_high {x : Int} (hx : 0 ≤ x ∧ x ≤ 255) {t : Nat} (ht : 8 ≤ t) : (bv x).getLsbD t = false := by
  have h := bvI hx.1 hx.2
  unfold I at h
  have h2 : (bv x).toNat < 2 ^ 8 := by have e : (2 : Nat) ^ 8 = 256 := by decide
                                       omega
  unfold BitVec.getLsbD
  exact Nat.testBit_lt_two_pow (Nat.lt_of_lt_of_le h2 (Nat.pow_le_pow_right (by omega) ht))
theorem not_step (s : B) (x : Int) : ~~~(stepB s x) = mvn 8 (~~~s ^^^ bv x) := by unfold stepB; rw [BitVec.not_not]
theorem getD_bytes {l : List Int} (h : Bytes l) (i : Nat) : 0 ≤ l.getD i 0 ∧ l.getD i 0 ≤ 255 := by
  rw [List.getD_eq_getElem?_getD]
  by_cases hi : i < l.length
  · rw [List.getElem?_eq_getElem hi]; exact h _ (List.getElem_mem _)
  · rw [List.getElem?_eq_none (by omega)]; simp
theorem rd_getD (l : List Int) (i : Nat) : rd l (i : Int) = l.getD i 0 := by simp [rd]
theorem diff (l l' : List Int) (h : Bytes l) (h' : Bytes l') (he : l.length = l'.length) : ∀ i, i ≤ l.length →
    ~~~(sumB 0#32 (l.take i)) ^^^ ~~~(sumB 0#32 (l'.take i)) = Gn (fun j => xb l j ^^ xb l' j) (8 * i) := by
  intro i
  induction i with
  | zero => intro _; simp [sumB, Gn]
  | succ i ih =>
    intro hi
    rw [sumB_take _ _ _ (by omega), sumB_take _ _ _ (by omega), not_step, not_step, ← mvn_xor, x4, ih (by omega), rd_getD, rd_getD]
    rw [show 8 * (i + 1) = 8 * i + 8 by omega]
    refine (Gn_bits _ (8 * i) 8 _ (fun t ht => ?_) (fun t ht => ?_)).symm
    · unfold xb
      rw [BitVec.getLsbD_xor, show (8 * i + t) / 8 = i by omega, show (8 * i + t) % 8 = t by omega]
    · rw [BitVec.getLsbD_xor, bv_high (getD_bytes h i) ht, bv_high (getD_bytes h' i) ht]; rfl
theorem xor_zero_iff (a b : B) : a ^^^ b = 0#32 ↔ a = b := by
  constructor
  · intro h
    have : a ^^^ b ^^^ b = 0#32 ^^^ b := by rw [h]
    rw [BitVec.xor_assoc, BitVec.xor_self, BitVec.xor_zero, BitVec.zero_xor] at this
    exact this
  · rintro rfl; exact BitVec.xor_self
/-- how far the bytes have been turned. -/
structure See (l xs : List Int) (p : Nat) (y : B) (i : Nat) (tb : Bool) : Prop where
  len : xs.length = l.length
  byt : Bytes xs
  bit : ∀ j, xb xs j = (xb l j ^^ (decide (p ≤ j ∧ j < p + i) && y.getLsbD (j - p)))
  tur : tb = true ↔ ∃ k, k < i ∧ y.getLsbD k = true
theorem See.start (l : List Int) (h : Bytes l) (p : Nat) (y : B) : See l l p y 0 false :=
  ⟨rfl, h, fun j => by rw [show decide (p ≤ j ∧ j < p + 0) = false by apply decide_eq_false; omega]; simp, by simp⟩
theorem flip_byte : ∀ v : Fin 256, ∀ t : Fin 8, bv (Go.bits .xor .u8 (v.1 : Int) ((2 : Int) ^ t.1 % 256)) = bv (v.1 : Int) ^^^ (1#32 <<< t.1) ∧ 0 ≤ Go.bits .xor .u8 (v.1 : Int) ((2 : Int) ^ t.1 % 256) ∧ Go.bits .xor .u8 (v.1 : Int) ((2 : Int) ^ t.1 % 256) ≤ 255 := by decide +kernel
theorem flip_b {x : Int} (hx : 0 ≤ x ∧ x ≤ 255) {t : Nat} (ht : t < 8) : bv (Go.bits .xor .u8 x ((2 : Int) ^ t % 256)) = bv x ^^^ (1#32 <<< t) ∧ 0 ≤ Go.bits .xor .u8 x ((2 : Int) ^ t % 256) ∧ Go.bits .xor .u8 x ((2 : Int) ^ t % 256) ≤ 255 := by
  have := flip_byte ⟨x.toNat, by omega⟩ ⟨t, ht⟩
  simp only at this
  rwa [Int.toNat_of_nonneg hx.1] at this
theorem See.no {l xs : List Int} {p i : Nat} {y : B} {tb : Bool} (h : See l xs p y i tb) (hy : y.getLsbD i = false) : See l xs p y (i + 1) tb := by
  refine ⟨h.len, h.byt, fun j => ?_, ?_⟩
  · rw [h.bit j]
    congr 1
    by_cases hj : j = p + i
    · subst hj; simp [hy]
    · rw [show (decide (p ≤ j ∧ j < p + (i + 1))) = decide (p ≤ j ∧ j < p + i) by apply decide_eq_decide.2; omega]
  · rw [h.tur]
    constructor
    · rintro ⟨k, h1, h2⟩; exact ⟨k, by omega, h2⟩
    · rintro ⟨k, h1, h2⟩
      by_cases hk : k = i
      · subst hk; rw [hy] at h2; cases h2
      · exact ⟨k, by omega, h2⟩
theorem See.yes {l xs : List Int} {p i : Nat} {y : B} {tb : Bool} (h : See l xs p y i tb) (hy : y.getLsbD i = true) (hp : (p + i) / 8 < l.length) {v : Int} (hv : v = Go.bits .xor .u8 (xs.getD ((p + i) / 8) 0) ((2 : Int) ^ ((p + i) % 8) % 256)) : See l (xs.set ((p + i) / 8) v) p y (i + 1) true := by
  obtain ⟨f1, f2, f3⟩ := flip_b (getD_bytes h.byt ((p + i) / 8)) (t := (p + i) % 8) (by omega)
  rw [← hv] at f1 f2 f3
  have hl := h.len
  refine ⟨by rw [List.length_set, hl], fun x hx => ?_, fun j => ?_, ?_⟩
  · rcases List.mem_or_eq_of_mem_set hx with hx | rfl
    · exact h.byt x hx
    · exact ⟨f2, f3⟩
  · have hb := h.bit j
    unfold xb at hb ⊢
    rw [List.getD_eq_getElem?_getD, List.getElem?_set]
    by_cases hq : (p + i) / 8 = j / 8
    · rw [if_pos hq, if_pos (by omega)]
      show (bv v).getLsbD (j % 8) = _
      rw [f1, BitVec.getLsbD_xor, hq, hb]
      have h1 : (1#32 <<< ((p + i) % 8)).getLsbD (j % 8) = decide (j = p + i) := by
        rw [BitVec.getLsbD_shiftLeft, BitVec.getLsbD_one]
        by_cases hj : j = p + i
        · subst hj; simp; omega
        · have : ¬ j % 8 = (p + i) % 8 := by omega
          simp [hj]; omega
      rw [h1, Bool.xor_assoc]
      congr 1
      by_cases hj : j = p + i
      · subst hj; simp [hy]
      · rw [show (decide (p ≤ j ∧ j < p + (i + 1))) = decide (p ≤ j ∧ j < p + i) by apply decide_eq_decide.2; omega]
        simp [hj]
    · rw [if_neg hq, ← List.getD_eq_getElem?_getD, hb]
      congr 1
      rw [show (decide (p ≤ j ∧ j < p + (i + 1))) = decide (p ≤ j ∧ j < p + i) by apply decide_eq_decide.2; omega]
  · simp only [true_iff]
    exact ⟨i, by omega, hy⟩
/-- what is turned is seen. -/
theorem See.seen {l xs : List Int} {p m : Nat} {y : B} {tb : Bool} (h : See l xs p y m tb) (hb : Bytes l) (hm : m ≤ 32) (hp : p + m ≤ 8 * l.length) : (I (sumB 0#32 xs) != I (sumB 0#32 l)) = tb := by
  have hd := diff xs l h.byt hb h.len xs.length (Nat.le_refl _)
  rw [List.take_length, h.len, List.take_length] at hd
  have hbu := burst (fun j => xb xs j ^^ xb l j) p m (8 * l.length) hm hp (fun j hj _ => by
    show (xb xs j ^^ xb l j) = false
    rw [h.bit j, show decide (p ≤ j ∧ j < p + m) = false by apply decide_eq_false; omega]
    simp)
  rw [← hd, xor_zero_iff] at hbu
  have hf : ∀ i, i < m → (xb xs (p + i) ^^ xb l (p + i)) = y.getLsbD i := fun i hi => by
    rw [h.bit (p + i), show decide (p ≤ p + i ∧ p + i < p + m) = true by apply decide_eq_true; omega, show p + i - p = i by omega]
    cases xb l (p + i) <;> cases y.getLsbD i <;> rfl
  have key : (sumB 0#32 xs = sumB 0#32 l) ↔ tb = false := by
    rw [show (sumB 0#32 xs = sumB 0#32 l) ↔ (~~~(sumB 0#32 xs) = ~~~(sumB 0#32 l)) from ⟨fun e => by rw [e], fun e => by have := congrArg (fun b : B => ~~~b) e; simpa using this⟩, hbu]
    have ht := h.tur
    constructor
    · intro hz
      cases tb with
      | false => rfl
      | true =>
        obtain ⟨k, hk, hy⟩ := ht.1 rfl
        have this : (xb xs (p + k) ^^ xb l (p + k)) = false := hz k hk
        rw [hf k hk, hy] at this; cases this
    · rintro rfl i hi
      show (xb xs (p + i) ^^ xb l (p + i)) = false
      rw [hf i hi]
      cases hy : y.getLsbD i with
      | false => rfl
      | true => exact absurd (ht.2 ⟨i, hi, hy⟩) (by decide)
  cases tb with
  | false => rw [key.2 rfl]; simp
  | true =>
    rw [bne_iff_ne]
    intro e
    have := key.1 (I_inj.1 e)
    cases this
end Go.Proofs.YtlinaloemppniaaDoor.PAll
