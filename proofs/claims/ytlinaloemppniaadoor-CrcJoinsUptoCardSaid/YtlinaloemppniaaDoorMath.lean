/- Plain: the register as a row of 32 bits: moving is linear, products are what the document says, and bursts are seen. -/
namespace Go.Proofs.YtlinaloemppniaaDoor
set_option linter.unusedSimpArgs false
set_option linter.unusedVariables false
namespace CrcMath
abbrev B := BitVec 32
def poly : B := 0xedb88320#32
def mv (x : B) : B := if x.getLsbD 0 then (x >>> 1) ^^^ poly else x >>> 1
theorem mv_xor (x y : B) : mv (x ^^^ y) = mv x ^^^ mv y := by
  unfold mv
  rw [BitVec.getLsbD_xor, BitVec.ushiftRight_xor_distrib]
  cases x.getLsbD 0 <;> cases y.getLsbD 0 <;> simp only [Bool.xor_false, Bool.xor_true, Bool.not_true, Bool.not_false, if_true, if_false, Bool.false_eq_true]
  · rw [BitVec.xor_assoc]
  · rw [BitVec.xor_assoc, BitVec.xor_assoc, BitVec.xor_comm poly]
  · rw [BitVec.xor_assoc, ← BitVec.xor_assoc poly, BitVec.xor_comm poly, BitVec.xor_assoc _ poly poly, BitVec.xor_self, BitVec.xor_zero]
theorem mv_zero : mv 0#32 = 0#32 := by decide
theorem mv_inj0 (x : B) (h : mv x = 0#32) : x = 0#32 := by
  unfold mv at h
  by_cases hb : x.getLsbD 0
  · rw [if_pos hb] at h
    exfalso
    have := congrArg (fun b : B => b.getLsbD 31) h
    simp [poly] at this
  · rw [if_neg hb] at h
    apply BitVec.eq_of_getLsbD_eq
    intro i hi
    rcases Nat.eq_zero_or_pos i with rfl | hp
    · simpa using hb
    · have := congrArg (fun b : B => b.getLsbD (i - 1)) h
      simp only [BitVec.getLsbD_ushiftRight] at this
      rw [show 1 + (i - 1) = i by omega] at this
      simpa using this
def mvn : Nat → B → B
  | 0, x => x
  | n + 1, x => mvn n (mv x)
theorem mvn_succ (n : Nat) (x : B) : mvn (n + 1) x = mv (mvn n x) := by
  induction n generalizing x with
  | zero => rfl
  | succ n ih => show mvn (n + 1) (mv x) = mv (mvn n (mv x)); exact ih _
theorem mvn_add (m n : Nat) (x : B) : mvn (m + n) x = mvn n (mvn m x) := by
  induction m generalizing x with
  | zero => simp [mvn]
  | succ m ih => rw [Nat.succ_add]; exact ih _
theorem mvn_xor (n : Nat) (x y : B) : mvn n (x ^^^ y) = mvn n x ^^^ mvn n y := by
  induction n generalizing x y with
  | zero => rfl
  | succ n ih => show mvn n (mv _) = _; rw [mv_xor, ih]; rfl
theorem mvn_zero (n : Nat) : mvn n 0#32 = 0#32 := by
  induction n with
  | zero => rfl
  | succ n ih => show mvn n (mv _) = _; rw [mv_zero, ih]
theorem mvn_inj0 (n : Nat) (x : B) (h : mvn n x = 0#32) : x = 0#32 := by
  induction n generalizing x with
  | zero => exact h
  | succ n ih => exact mv_inj0 _ (ih _ h)
theorem mvn_low0 (n : Nat) (x : B) (h : ∀ i, i < n → x.getLsbD i = false) : mvn n x = x >>> n := by
  induction n generalizing x with
  | zero => simp [mvn]
  | succ n ih =>
    have h0 : x.getLsbD 0 = false := h 0 (by omega)
    have : mv x = x >>> 1 := by unfold mv; rw [h0]; rfl
    show mvn n (mv x) = _
    rw [this, ih _ (fun i hi => by rw [BitVec.getLsbD_ushiftRight]; exact h _ (by omega))]
    apply BitVec.eq_of_getLsbD_eq
    intro i hi
    simp only [BitVec.getLsbD_ushiftRight]
    congr 1; omega
/-- a product. -/
def S : Nat → B → B → B
  | 0, _, _ => 0#32
  | k + 1, a, b => (if a.getLsbD k then b else 0#32) ^^^ S k a (mv b)
def prodL : Nat → B → B → B → B
  | 0, _, _, out => out
  | k + 1, a, b, out => prodL k a (mv b) (if a.getLsbD k then out ^^^ b else out)
theorem prodL_S (k : Nat) (a b out : B) : prodL k a b out = out ^^^ S k a b := by
  induction k generalizing b out with
  | zero => simp [prodL, S]
  | succ k ih =>
    simp only [prodL, S, ih]
    cases a.getLsbD k <;> simp [BitVec.xor_assoc]
theorem x4 (a b c d : B) : (a ^^^ b) ^^^ (c ^^^ d) = (a ^^^ c) ^^^ (b ^^^ d) := by
  rw [BitVec.xor_assoc, BitVec.xor_assoc, ← BitVec.xor_assoc b, BitVec.xor_comm b c, BitVec.xor_assoc c]
theorem S_xor_r (k : Nat) (a b c : B) : S k a (b ^^^ c) = S k a b ^^^ S k a c := by
  induction k generalizing b c with
  | zero => simp [S]
  | succ k ih =>
    simp only [S, mv_xor, ih]
    rw [x4]
    cases a.getLsbD k <;> simp
theorem S_xor_l (k : Nat) (a b c : B) : S k (a ^^^ b) c = S k a c ^^^ S k b c := by
  induction k generalizing c with
  | zero => simp [S]
  | succ k ih =>
    simp only [S, ih, BitVec.getLsbD_xor]
    rw [x4]
    cases a.getLsbD k <;> cases b.getLsbD k <;> simp
theorem S_mv (k : Nat) (a b : B) : S k a (mv b) = mv (S k a b) := by
  induction k generalizing b with
  | zero => simp [S, mv_zero]
  | succ k ih =>
    simp only [S, mv_xor, ih]
    cases a.getLsbD k <;> simp [mv_zero]
theorem S_mvn (n k : Nat) (a b : B) : S k a (mvn n b) = mvn n (S k a b) := by
  induction n generalizing b with
  | zero => rfl
  | succ n ih => show S k a (mvn n (mv b)) = mvn n (mv _); rw [ih, S_mv]
theorem S_zero_r (k : Nat) (a : B) : S k a 0#32 = 0#32 := by
  induction k with
  | zero => rfl
  | succ k ih => simp [S, mv_zero, ih]
def e : B := 0x80000000#32
theorem mv_one_shift : ∀ k : Fin 31, mv (1#32 <<< (k.1 + 1)) = 1#32 <<< k.1 := by decide
theorem S_unit (a : B) (k : Nat) (hk : k ≤ 32) : S k a (1#32 <<< (k - 1)) = a &&& BitVec.ofNat 32 (2 ^ k - 1) := by
  induction k with
  | zero => simp [S]
  | succ k ih =>
    simp only [S]
    have hm : S k a (mv (1#32 <<< k)) = a &&& BitVec.ofNat 32 (2 ^ k - 1) := by
      rcases Nat.eq_zero_or_pos k with rfl | hp
      · simp [S]
      · have := mv_one_shift ⟨k - 1, by omega⟩
        simp only [Nat.sub_add_cancel hp] at this
        rw [this]; exact ih (by omega)
    rw [Nat.add_sub_cancel, hm]
    apply BitVec.eq_of_getLsbD_eq
    intro i hi
    simp only [BitVec.getLsbD_xor, BitVec.getLsbD_and, BitVec.getLsbD_ofNat, hi, decide_true, Bool.true_and, Nat.testBit_two_pow_sub_one]
    by_cases hik : i = k
    · subst hik
      cases h : a.getLsbD i <;> simp [hi]
    · have h1 : (1#32 <<< k).getLsbD i = false := by
        rw [BitVec.getLsbD_shiftLeft]
        simp [BitVec.getLsbD_one]
        omega
      have h2 : decide (i < k) = decide (i < k + 1) := by simp; omega
      rw [h2]
      cases h : a.getLsbD k <;> simp [h1]
theorem S_e (a : B) : S 32 a e = a := by
  have := S_unit a 32 (by omega)
  rw [show (1#32 <<< (32 - 1)) = e by decide] at this
  rw [this]
  have h : BitVec.ofNat 32 (2 ^ 32 - 1) = BitVec.allOnes 32 := by decide
  rw [h, BitVec.and_allOnes]
theorem xor_inj_aux (a b c d : B) (h1 : a = c) (h2 : b = d) : a ^^^ b = c ^^^ d := by rw [h1, h2]
theorem S_mv_l (a b : B) : S 32 (mv a) b = mv (S 32 a b) := by
  have key : ∀ k c j, S 32 (mv a) (S k c (mvn j e)) = mv (S 32 a (S k c (mvn j e))) := by
    intro k
    induction k with
    | zero => intro c j; simp [S, S_zero_r, mv_zero]
    | succ k ih =>
      intro c j
      have h1 : ∀ u : Bool, S 32 (mv a) (if u = true then mvn j e else 0#32) = mv (S 32 a (if u = true then mvn j e else 0#32)) := by
        intro u
        cases u
        · simp [S_zero_r, mv_zero]
        · simp only [if_true, S_mvn, S_e]
          rw [← mvn_succ]; rfl
      have h2 := ih c (j + 1)
      rw [mvn_succ] at h2
      rw [show S (k + 1) c (mvn j e) = (if c.getLsbD k = true then mvn j e else 0#32) ^^^ S k c (mv (mvn j e)) from rfl, S_xor_r, S_xor_r, mv_xor, h1, h2]
  have := key 32 b 0
  simpa [mvn, S_e] using this
theorem S_mvn_l (n : Nat) (a b : B) : S 32 (mvn n a) b = mvn n (S 32 a b) := by
  induction n generalizing a with
  | zero => rfl
  | succ n ih => show S 32 (mvn n (mv a)) b = mvn n (mv _); rw [ih, S_mv_l]
theorem S_e_l (b : B) : S 32 e b = b := by
  have h0 : ∀ k c, k ≤ 31 → S k e c = 0#32 := by
    intro k
    induction k with
    | zero => intros; rfl
    | succ k ih =>
      intro c hk
      have : e.getLsbD k = false := by
        have := (by decide : ∀ k : Fin 31, e.getLsbD k.1 = false) ⟨k, by omega⟩
        exact this
      simp [S, this, ih _ (by omega)]
  rw [show S 32 e b = (if e.getLsbD 31 = true then b else 0#32) ^^^ S 31 e (mv b) from rfl, h0 31 _ (by omega)]
  simp [show e.getLsbD 31 = true by decide]
/-- what the program's product does with a moved unit. -/
theorem prod_step (m : Nat) (a : B) : prodL 32 (mvn m e) a 0#32 = mvn m a := by
  rw [prodL_S, S_mvn_l, S_e_l]; simp
/-! bytes -/
def Gn (f : Nat → Bool) : Nat → B
  | 0 => 0#32
  | n + 1 => mv (Gn f n ^^^ (if f n then 1#32 else 0#32))
theorem mv_bit (D c : B) : mv (D ^^^ c) = mv (D ^^^ (if c.getLsbD 0 then 1#32 else 0#32)) ^^^ (c >>> 1) := by
  have h : c = (if c.getLsbD 0 then 1#32 else 0#32) ^^^ ((c >>> 1) <<< 1) := by
    apply BitVec.eq_of_getLsbD_eq
    intro i hi
    rw [BitVec.getLsbD_xor, BitVec.getLsbD_shiftLeft, BitVec.getLsbD_ushiftRight]
    rcases Nat.eq_zero_or_pos i with rfl | hp
    · cases c.getLsbD 0 <;> simp
    · have : (if c.getLsbD 0 = true then 1#32 else 0#32).getLsbD i = false := by
        split <;> simp [BitVec.getLsbD_one] ; omega
      rw [this]
      simp [hi, show ¬ i < 1 by omega, show 1 + (i - 1) = i by omega]
  have h2 : mv ((c >>> 1) <<< 1) = c >>> 1 := by
    have hz : ((c >>> 1) <<< 1).getLsbD 0 = false := by simp
    unfold mv
    rw [hz]
    simp only [Bool.false_eq_true, if_false]
    apply BitVec.eq_of_getLsbD_eq
    intro i hi
    simp only [BitVec.getLsbD_ushiftRight, BitVec.getLsbD_shiftLeft]
    by_cases h31 : 1 + i < 32
    · simp [h31]
    · have : c.getLsbD (1 + i) = false := BitVec.getLsbD_of_ge _ _ (by omega)
      simp [this, h31]
  calc mv (D ^^^ c) = mv (D ^^^ ((if c.getLsbD 0 then 1#32 else 0#32) ^^^ ((c >>> 1) <<< 1))) := by rw [← h]
    _ = _ := by rw [← BitVec.xor_assoc, mv_xor, h2]
/-- k bits at once are k bits one by one. -/
theorem Gn_bits (f : Nat → Bool) (n k : Nat) (c : B) (hc : ∀ i, i < k → c.getLsbD i = f (n + i)) (hz : ∀ i, k ≤ i → c.getLsbD i = false) : Gn f (n + k) = mvn k (Gn f n ^^^ c) := by
  induction k generalizing n c with
  | zero =>
    have : c = 0#32 := BitVec.eq_of_getLsbD_eq (fun i hi => by simpa using hz i (by omega))
    simp [mvn, this]
  | succ k ih =>
    show Gn f (n + (k + 1)) = mvn k (mv _)
    rw [mv_bit, hc 0 (by omega), show n + (k + 1) = n + 1 + k by omega]
    have := ih (n + 1) (c >>> 1) (fun i hi => by rw [BitVec.getLsbD_ushiftRight, hc _ (by omega)]; congr 1; omega) (fun i hi => by rw [BitVec.getLsbD_ushiftRight]; exact hz _ (by omega))
    rw [this]; rfl
theorem Gn_zero (f : Nat → Bool) (n : Nat) (h : ∀ i, i < n → f i = false) : Gn f n = 0#32 := by
  induction n with
  | zero => rfl
  | succ n ih => simp [Gn, ih (fun i hi => h i (by omega)), h n (by omega), mv_zero]
theorem Gn_rest (f : Nat → Bool) (n m : Nat) (h : ∀ i, n ≤ i → i < n + m → f i = false) : Gn f (n + m) = mvn m (Gn f n) := by
  induction m with
  | zero => rfl
  | succ m ih => rw [mvn_succ, ← ih (fun i h1 h2 => h i h1 (by omega))]; simp [← Nat.add_assoc, Gn, h (n + m) (by omega) (by omega)]
/-- a burst of w bits is seen. -/
theorem bits_exist (g : Nat → Bool) (k : Nat) (hk : k ≤ 32) : ∃ c : B, ∀ i, c.getLsbD i = (decide (i < k) && g i) := by
  induction k with
  | zero => exact ⟨0#32, fun i => by simp⟩
  | succ k ih =>
    obtain ⟨c, hc⟩ := ih (by omega)
    refine ⟨c ^^^ (if g k then 1#32 <<< k else 0#32), fun i => ?_⟩
    rw [BitVec.getLsbD_xor, hc]
    have h1 : (if g k = true then 1#32 <<< k else 0#32).getLsbD i = (decide (i = k) && g k) := by
      cases g k
      · simp
      · simp only [if_true, BitVec.getLsbD_shiftLeft, BitVec.getLsbD_one]
        by_cases h : i = k
        · subst h; simp; omega
        · simp [h]; omega
    rw [h1]
    by_cases h : i = k
    · subst h; simp
    · simp [h, show (i < k + 1) = (i < k) by simp; omega]
theorem burst (f : Nat → Bool) (p w N : Nat) (hw : w ≤ 32) (hN : p + w ≤ N) (h0 : ∀ i, (i < p ∨ p + w ≤ i) → i < N → f i = false) : Gn f N = 0#32 ↔ ∀ i, i < w → f (p + i) = false := by
  obtain ⟨c, hcc⟩ := bits_exist (fun i => f (p + i)) w hw
  have hc : ∀ i, i < w → c.getLsbD i = f (p + i) := fun i hi => by simp [hcc, hi]
  have hz : ∀ i, w ≤ i → c.getLsbD i = false := fun i hi => by
    rw [hcc]; simp [show ¬ i < w by omega]
  have e1 : Gn f p = 0#32 := Gn_zero f p (fun i hi => h0 i (.inl hi) (by omega))
  have e2 := Gn_bits f p w c hc hz
  have e3 := Gn_rest f (p + w) (N - (p + w)) (fun i h1 h2 => h0 i (.inr h1) (by omega))
  rw [show p + w + (N - (p + w)) = N by omega] at e3
  rw [e3, e2, e1, BitVec.zero_xor, ← mvn_add]
  constructor
  · intro h i hi
    have := mvn_inj0 _ _ h
    rw [← hc i hi, this]; simp
  · intro h
    have : c = 0#32 := BitVec.eq_of_getLsbD_eq (fun i hi => by
      by_cases hiw : i < w
      · rw [hc i hiw, h i hiw]; simp
      · rw [hz i (by omega)]; simp)
    rw [this, mvn_zero]
end CrcMath
end Go.Proofs.YtlinaloemppniaaDoor
