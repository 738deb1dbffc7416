/- Numbers of 32 bits and rows of bits: what the program's register arithmetic comes to. -/
import Derived.Test.YtlinaloemppniaaDoorMath
import Derived.Test.YtlinaloemppniaaDoorPAllx1
namespace Go.Proofs.YtlinaloemppniaaDoor.Crc
open Go.RowKit Go.Proofs.YtlinaloemppniaaDoor.PAll Go.Proofs.YtlinaloemppniaaDoor.CrcMath Go.Proofs.YtlinaloemppniaaDoorW.PrintWords Go.Proofs.YtlinaloemppniaaDoorW.PrintLast Go.Proofs.YtlinaloemppniaaDoorW.PrintMore
set_option linter.unusedVariables false
def I (x : B) : Int := (x.toNat : Int)
theorem I_nn (x : B) : 0 ≤ I x := Int.natCast_nonneg _
theorem I_lt (x : B) : I x < 4294967296 := by have := x.isLt; unfold I; omega
theorem ofInt_I (x : B) : BitVec.ofInt 32 (I x) = x := by unfold I; simp
theorem wrapI (x : B) : IntKind.u32.wrap (I x) = I x := by
  have h1 := I_nn x; have h2 := I_lt x
  simp [IntKind.wrap, IntKind.bits, IntKind.signed]; omega
theorem I_inj {x y : B} : I x = I y ↔ x = y := by
  unfold I
  constructor
  · intro h; exact BitVec.eq_of_toNat_eq (by omega)
  · rintro rfl; rfl
theorem I_zero {x : B} : I x = 0 ↔ x = 0#32 := by
  have : (0 : Int) = I 0#32 := rfl
  rw [this]; exact I_inj
theorem xorI (x y : B) : Go.bits .xor .u32 (I x) (I y) = I (x ^^^ y) := by
  show IntKind.u32.wrap (((BitVec.ofInt 32 (I x) ^^^ BitVec.ofInt 32 (I y)).toNat : Nat) : Int) = _
  rw [ofInt_I, ofInt_I]; exact wrapI _
theorem andI (x y : B) : Go.bits .and .u32 (I x) (I y) = I (x &&& y) := by
  show IntKind.u32.wrap (((BitVec.ofInt 32 (I x) &&& BitVec.ofInt 32 (I y)).toNat : Nat) : Int) = _
  rw [ofInt_I, ofInt_I]; exact wrapI _
theorem shrI (x : B) (n : Nat) : I x / (2 : Int) ^ n = I (x >>> n) := by
  unfold I
  rw [BitVec.toNat_ushiftRight, Nat.shiftRight_eq_div_pow, Int.natCast_ediv]
  congr 1
theorem halfI (x : B) : I x / (2 : Int) = I (x >>> 1) := by have := shrI x 1; rwa [Int.pow_one] at this
theorem polyI : (3988292384 : Int) = I poly := by decide
theorem oneI : (1 : Int) = I 1#32 := by decide
theorem bit_zero (x : B) (k : Nat) (hk : k < 32) : x &&& (1#32 <<< k) = 0#32 ↔ x.getLsbD k = false := by
  constructor
  · intro h
    have := congrArg (fun b : B => b.getLsbD k) h
    simpa [BitVec.getLsbD_and, BitVec.getLsbD_shiftLeft, hk] using this
  · intro h
    apply BitVec.eq_of_getLsbD_eq
    intro i hi
    rw [BitVec.getLsbD_and, BitVec.getLsbD_shiftLeft, BitVec.getLsbD_one]
    by_cases hik : i = k
    · subst hik; simp [h]
    · by_cases hlt : i < k
      · simp [hlt]
      · simp [show i - k ≠ 0 by omega]
theorem bitI (x : B) (k : Nat) (hk : k < 32) : Go.bits .and .u32 (I x) (I (1#32 <<< k)) = 0 ↔ x.getLsbD k = false := by rw [andI, I_zero]; exact bit_zero x k hk
theorem lowI (x : B) : Go.bits .and .u32 (I x) 1 = 0 ↔ x.getLsbD 0 = false := by
  have := bitI x 0 (by omega)
  rwa [show (1#32 <<< 0 : B) = 1#32 by decide, ← oneI] at this
theorem mvI_lo (x : B) (h : x.getLsbD 0 = false) : I x / 2 = I (mv x) := by unfold mv; rw [h, halfI]; rfl
theorem mvI_hi (x : B) (h : x.getLsbD 0 = true) : Go.bits .xor .u32 (I x / 2) 3988292384 = I (mv x) := by unfold mv; rw [h, halfI, polyI, xorI]; rfl
theorem odd_I (x : B) : I x % 2 = 1 ↔ x.getLsbD 0 = true := by
  unfold I
  rw [BitVec.getLsbD, Nat.testBit_zero]
  simp only [decide_eq_true_eq]
  omega
theorem moved_f (x : B) : winkleref04_moved.f (I x) = some (I (mv x)) := by
  unfold winkleref04_moved.f
  have hn := I_nn x
  have hl := I_lt x
  have e2 : I x / 2 % 4294967296 = I x / 2 := by omega
  rw [Int.tmod_eq_emod_of_nonneg hn, Int.tdiv_eq_ediv_of_nonneg hn, e2]
  by_cases h : x.getLsbD 0 = true
  · rw [if_pos ((odd_I x).2 h), mvI_hi x h]
  · rw [if_neg (fun e => h ((odd_I x).1 e)), mvI_lo x (by simpa using h)]
def bitN (n : Nat) : B := if n = 0 then 0#32 else 1#32 <<< (n - 1)
theorem bitN_half : ∀ k : Fin 32, (bitN (k.1 + 1)) >>> 1 = bitN k.1 := by decide
theorem bitN_ne : ∀ k : Fin 32, bitN (k.1 + 1) ≠ 0#32 := by decide
theorem prod_l (n : Nat) : ∀ (a b out : B) (r : Nat), n ≤ 32 → crc_product.l0 (n + 1 + r) (I a) (I b) (I out) (I (bitN n)) = some (I (prodL n a b out)) := by
  induction n with
  | zero =>
    intro a b out r _
    rw [show 0 + 1 + r = r + 1 by omega]
    simp only [crc_product.l0]
    rw [if_pos (show I (bitN 0) = 0 from rfl)]; rfl
  | succ n ih =>
    intro a b out r hn
    rw [show n + 1 + 1 + r = (n + 1 + r) + 1 by omega]
    simp only [crc_product.l0]
    have hne := bitN_ne ⟨n, by omega⟩
    have hh := bitN_half ⟨n, by omega⟩
    simp only at hne hh
    rw [if_neg (fun e => hne (I_zero.1 e)), halfI (bitN (n + 1)), hh]
    have hbit : bitN (n + 1) = 1#32 <<< n := rfl
    have hb2 : (if Go.bits .and .u32 (I b) 1 = 0 then I b / 2 else Go.bits .xor .u32 (I b / 2) 3988292384) = I (mv b) := by
      by_cases h : b.getLsbD 0 = true
      · rw [if_neg (fun e => by rw [(lowI b).1 e] at h; cases h), mvI_hi b h]
      · rw [if_pos ((lowI b).2 (by simpa using h)), mvI_lo b (by simpa using h)]
    by_cases ha : a.getLsbD n = true
    · rw [if_neg (fun e => by rw [hbit] at e; rw [(bitI a n (by omega)).1 e] at ha; cases ha), xorI]
      have := ih a (mv b) (out ^^^ b) r (by omega)
      rw [← hb2] at this
      simp only [prodL, ha, if_true]
      split
      · rename_i h; rw [if_pos h] at this; exact this
      · rename_i h; rw [if_neg h] at this; exact this
    · have ha' : a.getLsbD n = false := by simpa using ha
      rw [if_pos (by rw [hbit]; exact (bitI a n (by omega)).2 ha')]
      have := ih a (mv b) out r (by omega)
      rw [← hb2] at this
      simp only [prodL, ha', Bool.false_eq_true, if_false]
      split
      · rename_i h; rw [if_pos h] at this; exact this
      · rename_i h; rw [if_neg h] at this; exact this
theorem product_f (a b : B) : crc_product.f 33 (I a) (I b) = some (I (prodL 32 a b 0#32)) := by
  unfold crc_product.f
  have := prod_l 32 a b 0#32 0 (by omega)
  exact this
theorem product_calls (a b : B) (w : World) : Calls Tryd.prog 15 #[.int .u32 (I a), .int .u32 (I b)] w fun e w' => e = .returned (.int .u32 (I (prodL 32 a b 0#32))) ∧ Drawn0 w w' :=
  crc_product.calls 33 (I a) (I b) _ w (product_f a b)
theorem moved_calls (a : B) (w : World) : Calls Tryd.prog 13 #[.int .u32 (I a)] w fun e w' => e = .returned (.int .u32 (I (mv a))) ∧ Drawn0 w w' :=
  winkleref04_moved.calls (I a) _ w (moved_f a)
/-- the step behind m moves is the unit, moved. -/
theorem step_start : (1#32 <<< 23 : B) = mvn 8 e := by decide
theorem step_mul (m : Nat) (a : B) : prodL 32 (mvn m e) a 0#32 = mvn m a := prod_step m a
theorem step_sq (m : Nat) : prodL 32 (mvn m e) (mvn m e) 0#32 = mvn (m + m) e := by rw [prod_step, ← mvn_add]
theorem u32_I {x : Int} (h : (Lit.int .u32 x).wf = true) : ∃ X : B, x = I X := by
  have h' : 0 ≤ x ∧ x ≤ 4294967295 := by simpa [Lit.wf, IntKind.min, IntKind.max, IntKind.signed, IntKind.bits] using h
  refine ⟨BitVec.ofNat 32 x.toNat, ?_⟩
  unfold I
  rw [BitVec.toNat_ofNat, Nat.mod_eq_of_lt (by omega)]
  omega
end Go.Proofs.YtlinaloemppniaaDoor.Crc
