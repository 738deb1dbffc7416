/- Plain: any bytes have the sums that the document's answer says, or none, and are told right, or noughts, as it says; for every list of bytes. -/
import Derived.Test.YtlomhifacokgmaaNum
import Derived.Test.YtlomhifacokgmaaPAllx6
namespace Go.Proofs.Ytlomhifacokgmaa.Pure
open Go.RowKit Go.Proofs.Ytlomhifacokgmaa.PAll Go.Proofs.YtlomhifacokgmaaW.PrintWords Go.Proofs.YtlomhifacokgmaaW.PrintLast Go.Proofs.Ytlomhifacokgmaa.Num
set_option linter.unusedVariables false

def sgn (c : Int) : Int := if c ≥ 128 then c - 256 else c
def sumW (i a b : Int) : List Int → Int × Int
  | [] => (a, b)
  | c :: cs => if 148 ≤ i ∧ i < 156 then sumW (i + 1) (a + 32) (b + 32) cs else sumW (i + 1) (a + c) (b + sgn c) cs
theorem sumW_range (l : List Int) (hb : Bytes l) : ∀ (i a b : Int), a ≤ (sumW i a b l).1 ∧ (sumW i a b l).1 ≤ a + 255 * l.length ∧ b - 128 * l.length ≤ (sumW i a b l).2 ∧ (sumW i a b l).2 ≤ b + 127 * l.length := by
  induction l with
  | nil => intro i a b; simp [sumW]
  | cons c cs ih =>
    intro i a b
    have hc := hb c (by simp)
    have hcs : Bytes cs := fun x hx => hb x (by simp [hx])
    simp only [sumW, List.length_cons]
    split
    · have := ih hcs (i + 1) (a + 32) (b + 32); omega
    · have := ih hcs (i + 1) (a + c) (b + sgn c)
      have hs : -128 ≤ sgn c ∧ sgn c ≤ 127 := by unfold sgn; split <;> omega
      omega
theorem i8w (c : Int) (h : 0 ≤ c ∧ c ≤ 255) : IntKind.i8.wrap c = sgn c := by
  unfold sgn
  simp [IntKind.wrap, IntKind.bits, IntKind.signed]
  split <;> split <;> omega
theorem w64' {n : Int} (h0 : -9223372036854775808 ≤ n) (h1 : n ≤ 9223372036854775807) : wrap64 n = n := by unfold wrap64; omega
theorem numSums_l (l : List Int) (hb : Bytes l) (hl : l.length = 512) (d : Nat) : ∀ (k : Nat) (a b i : Int), 0 ≤ i → i ≤ 512 → (512 : Int) - i ≤ d → d < k → 0 ≤ a → a ≤ 255 * i → -128 * i ≤ b → b ≤ 127 * i →
    number_Sums.l0 k a b l (l.length : Int) i = some ((sumW i a b (l.drop i.toNat)).1, (sumW i a b (l.drop i.toNat)).2, true) := by
  induction d with
  | zero =>
    intro k a b i h0 h5 hd hk ha ha' hb0 hb1
    obtain ⟨k, rfl⟩ : ∃ j, k = j + 1 := ⟨k - 1, by omega⟩
    simp only [number_Sums.l0]
    rw [if_neg (by omega), drop_end l i (by omega)]; rfl
  | succ d ih =>
    intro k a b i h0 h5 hd hk ha ha' hb0 hb1
    obtain ⟨k, rfl⟩ : ∃ j, k = j + 1 := ⟨k - 1, by omega⟩
    simp only [number_Sums.l0]
    by_cases h : i < (l.length : Int)
    · have hr := rd_byte hb i
      have hs : -128 ≤ sgn (rd l i) ∧ sgn (rd l i) ≤ 127 := by unfold sgn; split <;> omega
      rw [if_pos h, if_pos h0, if_pos h, drop_rd l i h0 h]
      rw [w64 h0 h (by omega), i8w _ hr, w64' (n := a + 32) (by omega) (by omega), w64' (n := b + 32) (by omega) (by omega), w64' (n := rd l i) (by omega) (by omega), w64' (n := sgn (rd l i)) (by omega) (by omega), w64' (n := a + rd l i) (by omega) (by omega), w64' (n := b + sgn (rd l i)) (by omega) (by omega)]
      simp only [sumW]
      by_cases h1 : i ≥ 148
      · rw [if_pos h1]
        by_cases h2 : i < 156
        · rw [if_pos h2, if_pos ⟨h1, h2⟩]
          exact ih k _ _ _ (by omega) (by omega) (by omega) (by omega) (by omega) (by omega) (by omega) (by omega)
        · rw [if_neg h2, if_neg (fun hc => h2 hc.2)]
          exact ih k _ _ _ (by omega) (by omega) (by omega) (by omega) (by omega) (by omega) (by omega) (by omega)
      · rw [if_neg h1, if_neg (fun hc => h1 hc.1)]
        exact ih k _ _ _ (by omega) (by omega) (by omega) (by omega) (by omega) (by omega) (by omega) (by omega)
    · rw [if_neg h, drop_end l i h]; rfl
theorem refSums_l (l : List Int) (hb : Bytes l) (hl : l.length = 512) (d : Nat) : ∀ (k : Nat) (a b i : Int), 0 ≤ i → i ≤ 512 → (512 : Int) - i ≤ d → 2 * d < k → 0 ≤ a → a ≤ 255 * i → -128 * i ≤ b → b ≤ 127 * i →
    winkleref05_Sums.l0 k l a b i = some ((sumW i a b (l.drop i.toNat)).1, (sumW i a b (l.drop i.toNat)).2, true) := by
  induction d with
  | zero =>
    intro k a b i h0 h5 hd hk ha ha' hb0 hb1
    obtain ⟨k, rfl⟩ : ∃ j, k = j + 1 := ⟨k - 1, by omega⟩
    simp only [winkleref05_Sums.l0]
    rw [if_neg (by omega), drop_end l i (by omega)]; rfl
  | succ d ih =>
    intro k a b i h0 h5 hd hk ha ha' hb0 hb1
    obtain ⟨k, rfl⟩ : ∃ j, k = j + 1 := ⟨k - 1, by omega⟩
    obtain ⟨k2, hk2⟩ : ∃ j, k = j + 1 := ⟨k - 1, by omega⟩
    by_cases h : i < (l.length : Int)
    · have hr := rd_byte hb i
      have hs : -128 ≤ sgn (rd l i) ∧ sgn (rd l i) ≤ 127 := by unfold sgn; split <;> omega
      have hj : ∀ f : Bool, f = decide (148 ≤ i ∧ i < 156) → winkleref05_Sums.j1 k l a b i (wrap64 (rd l i)) f = some ((sumW i a b (rd l i :: l.drop (i + 1).toNat)).1, (sumW i a b (rd l i :: l.drop (i + 1).toNat)).2, true) := by
        intro f hf
        rw [hk2]
        simp only [winkleref05_Sums.j1, sumW]
        rw [w64 h0 h (by omega), w64' (n := a + 32) (by omega) (by omega), w64' (n := b + 32) (by omega) (by omega), w64' (n := rd l i) (by omega) (by omega), w64' (n := a + rd l i) (by omega) (by omega), w64' (n := rd l i - 256) (by omega) (by omega)]
        by_cases hc : 148 ≤ i ∧ i < 156
        · have : f = true := by rw [hf]; simpa using hc
          rw [if_pos this, if_neg (by decide), if_pos hc]
          exact ih k2 _ _ _ (by omega) (by omega) (by omega) (by omega) (by omega) (by omega) (by omega) (by omega)
        · have : ¬ f = true := by rw [hf]; simpa using hc
          rw [if_neg this, if_neg hc]
          unfold sgn at *
          by_cases h8 : rd l i ≥ 128
          · rw [if_pos h8] at *
            rw [if_pos h8, w64' (n := b + (rd l i - 256)) (by omega) (by omega)]
            exact ih k2 _ _ _ (by omega) (by omega) (by omega) (by omega) (by omega) (by omega) (by omega) (by omega)
          · rw [if_neg h8] at *
            rw [if_neg h8, w64' (n := b + rd l i) (by omega) (by omega)]
            exact ih k2 _ _ _ (by omega) (by omega) (by omega) (by omega) (by omega) (by omega) (by omega) (by omega)
      simp only [winkleref05_Sums.l0]
      rw [if_pos (show i < 512 by omega), if_pos h0, if_pos h, drop_rd l i h0 h]
      by_cases h1 : i ≥ 148
      · rw [if_pos h1]; exact hj _ (decide_eq_decide.mpr (by omega))
      · rw [if_neg h1]; exact hj _ (decide_eq_false (by omega)).symm
    · simp only [winkleref05_Sums.l0]
      rw [if_neg (show ¬ i < 512 by omega), drop_end l i h]; rfl
def sumsF (l : List Int) : Int × Int × Bool := if l.length = 512 then ((sumW 0 0 0 l).1, (sumW 0 0 0 l).2, true) else (0, 0, false)
theorem numSums (l : List Int) (hb : Bytes l) (k : Nat) (hk : 1100 < k) : number_Sums.f k l = some (sumsF l) := by
  unfold number_Sums.f sumsF
  by_cases h : l.length = 512
  · rw [if_pos (by omega), if_pos h, numSums_l l hb h 512 k 0 0 0 (by omega) (by omega) (by omega) (by omega) (by omega) (by omega) (by omega) (by omega)]; rfl
  · rw [if_neg (by omega), if_neg h]
theorem refSums (l : List Int) (hb : Bytes l) (k : Nat) (hk : 1100 < k) : winkleref05_Sums.f k l = some (sumsF l) := by
  unfold winkleref05_Sums.f sumsF
  by_cases h : l.length = 512
  · rw [if_pos (by omega), if_pos h, refSums_l l hb h 512 k 0 0 0 (by omega) (by omega) (by omega) (by omega) (by omega) (by omega) (by omega) (by omega)]; rfl
  · rw [if_neg (by omega), if_neg h]
theorem octW_nonneg (l : List Int) : ∀ (v p : Int), 0 ≤ v → 0 ≤ octW v p l := by
  induction l with
  | nil => intro v p h; exact h
  | cons c cs ih =>
    intro v p h
    simp only [octW]
    split
    · exact ih _ _ h
    · split
      · split
        · exact ih _ _ (by omega)
        · exact ih _ _ (by omega)
      · split
        · exact ih _ _ h
        · omega
theorem right_eq (l : List Int) (hb : Bytes l) (k : Nat) (hk : 1100 < k) : ∃ b, number_Right.f k l = some b ∧ winkleref05_Right.f k l = some b := by
  unfold number_Right.f winkleref05_Right.f
  rw [numSums l hb k hk, refSums l hb k hk]
  simp only [Option.bind_some]
  unfold sumsF
  by_cases h : l.length = 512
  · rw [if_pos h]
    simp only [if_true]
    rw [if_pos (by decide), if_pos (by omega), if_pos (by decide), if_pos (by omega)]
    have hl8 : ((l.take 156).drop 148).length = 8 := by simp; omega
    rw [refOctal _ (by omega) k (by omega), octal_f]
    have hsum := sumW_range l hb 0 0 0
    rw [h] at hsum
    have hn := octW_nonneg ((l.take 156).drop 148) 0 0 (by omega)
    generalize octW 0 0 ((l.take 156).drop 148) = X at *
    generalize (sumW 0 0 0 l).1 = a at *
    generalize (sumW 0 0 0 l).2 = b at *
    unfold octRes
    simp only [Option.bind_some]
    by_cases hX : X ≥ 9223372036854775808
    · rw [if_pos hX]; exact ⟨false, rfl, rfl⟩
    · rw [if_neg hX]
      simp only [if_true]
      rw [w64' (n := X) (by omega) (by omega), wu64, wu64, show a % 18446744073709551616 = a by omega]
      by_cases h1 : X = a
      · rw [if_pos h1, if_pos h1]; exact ⟨true, rfl, rfl⟩
      · rw [if_neg h1, if_neg h1]
        by_cases hb0 : b ≥ 0
        · rw [if_pos hb0, show b % 18446744073709551616 = b by omega]; exact ⟨_, rfl, rfl⟩
        · rw [if_neg hb0]
          refine ⟨false, ?_, rfl⟩
          congr 1
          simp; omega
  · rw [if_neg h]; exact ⟨false, rfl, rfl⟩
def allZ : List Int → Bool
  | [] => true
  | c :: cs => if c = 0 then allZ cs else false
theorem numZero_l (l : List Int) (hl : (l.length : Int) ≤ 140737488355328) (d : Nat) : ∀ (k : Nat) (i : Int), 0 ≤ i → (l.length : Int) - i ≤ d → d < k → number_Zero.l0 k l l (l.length : Int) i = some (allZ (l.drop i.toNat) && ((l.length : Int) == 512)) := by
  induction d with
  | zero =>
    intro k i h0 hd hk
    obtain ⟨k, rfl⟩ : ∃ j, k = j + 1 := ⟨k - 1, by omega⟩
    simp only [number_Zero.l0]
    rw [if_neg (by omega), drop_end l i (by omega)]; simp [allZ]
  | succ d ih =>
    intro k i h0 hd hk
    obtain ⟨k, rfl⟩ : ∃ j, k = j + 1 := ⟨k - 1, by omega⟩
    simp only [number_Zero.l0]
    by_cases h : i < (l.length : Int)
    · rw [if_pos h, if_pos h0, if_pos h, drop_rd l i h0 h, w64 h0 h hl]
      simp only [allZ]
      by_cases hz : rd l i = 0
      · rw [if_pos hz, if_pos hz]; exact ih k _ (by omega) (by omega) (by omega)
      · rw [if_neg hz, if_neg hz]; rfl
    · rw [if_neg h, drop_end l i h]; simp [allZ]
theorem refZero_l (l : List Int) (hl : (l.length : Int) ≤ 140737488355328) (d : Nat) : ∀ (k : Nat) (i : Int), 0 ≤ i → (l.length : Int) - i ≤ d → d < k → winkleref05_Zero.l0 k l i = some (allZ (l.drop i.toNat) && ((l.length : Int) == 512)) := by
  induction d with
  | zero =>
    intro k i h0 hd hk
    obtain ⟨k, rfl⟩ : ∃ j, k = j + 1 := ⟨k - 1, by omega⟩
    simp only [winkleref05_Zero.l0]
    rw [if_neg (by omega), drop_end l i (by omega)]; simp [allZ]
  | succ d ih =>
    intro k i h0 hd hk
    obtain ⟨k, rfl⟩ : ∃ j, k = j + 1 := ⟨k - 1, by omega⟩
    simp only [winkleref05_Zero.l0]
    by_cases h : i < (l.length : Int)
    · rw [if_pos h, if_pos h0, drop_rd l i h0 h, w64 h0 h hl]
      simp only [allZ]
      by_cases hz : rd l i = 0
      · rw [if_pos hz, if_pos hz]; exact ih k _ (by omega) (by omega) (by omega)
      · rw [if_neg hz, if_neg hz]; rfl
    · rw [if_neg h, drop_end l i h]; simp [allZ]
theorem numZero (l : List Int) (hl : (l.length : Int) ≤ 140737488355328) (k : Nat) (hk : l.length < k) : number_Zero.f k l = some (allZ l && ((l.length : Int) == 512)) := by
  unfold number_Zero.f
  rw [numZero_l l hl l.length k 0 (by omega) (by omega) hk]; rfl
theorem refZero (l : List Int) (hl : (l.length : Int) ≤ 140737488355328) (k : Nat) (hk : l.length < k) : winkleref05_Zero.f k l = some (allZ l && ((l.length : Int) == 512)) := by
  unfold winkleref05_Zero.f
  rw [refZero_l l hl l.length k 0 (by omega) (by omega) hk]; rfl
theorem allZ_rep (n : Nat) : allZ (List.replicate n 0) = true := by
  induction n with
  | zero => rfl
  | succ n ih => simp [List.replicate_succ, allZ, ih]
theorem NumberSums : winklelaw05_NumberSums.Pure := by
  intro l h1 h2 h3
  have hb := bytes_of h3
  have hl : (l.length : Int) ≤ 140737488355328 := by omega
  obtain ⟨b, hb1, hb2⟩ := right_eq l hb (l.length + 1200) (by omega)
  refine ⟨l.length + 1200, ?_⟩
  unfold winklelaw05_NumberSums.f
  rw [numSums l hb _ (by omega), refSums l hb _ (by omega), hb1, hb2, numZero l hl _ (by omega), refZero l hl _ (by omega), numZero (List.replicate 512 0) (by rw [List.length_replicate]; omega) _ (by rw [List.length_replicate]; omega), allZ_rep, List.length_replicate]
  generalize sumsF l = s
  generalize allZ l = z
  rw [if_pos (show (512 : Nat) ≤ 281474976710656 by omega)]
  cases b <;> cases z <;> simp
end Go.Proofs.Ytlomhifacokgmaa.Pure
