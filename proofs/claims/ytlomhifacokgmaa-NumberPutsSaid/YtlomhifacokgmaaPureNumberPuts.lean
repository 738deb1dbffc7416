/- Plain: a number is written into a field of any width by the program just as by the document's answer; for every number and every width. -/
import Derived.Test.YtlomhifacokgmaaPNumberPutsx2
namespace Go.Proofs.Ytlomhifacokgmaa.Pure
open Go.RowKit Go.Proofs.Ytlomhifacokgmaa.PNumberPuts Go.Proofs.YtlomhifacokgmaaW.PrintWords Go.Proofs.YtlomhifacokgmaaW.PrintLast

theorem wrap_u64 (n : Int) : IntKind.u64.wrap n = n % 18446744073709551616 := by simp [IntKind.wrap, IntKind.bits, IntKind.signed]
theorem and7 (x : Int) (h0 : 0 ≤ x) (h1 : x < 18446744073709551616) : Go.bits .and .u64 x 7 = x % 8 := by
  have := bits_mask .u64 64 (by decide) (fun n h0 h1 => by rw [wrap_u64]; omega) 3 (by omega) x h0 (by omega)
  simpa using this
theorem eq_l1 (k : Nat) : ∀ (x6 : List Int) (x7 x9 : Int), 0 < x6.length → 0 ≤ x7 → x7 < 18446744073709551616 → winkleref05_Put.l1 k x6 x7 x9 = number_Put.l1 k x6 x7 x9 := by
  induction k with
  | zero => intros; rfl
  | succ k ih =>
    intro x6 x7 x9 hl h0 h1
    simp only [winkleref05_Put.l1, number_Put.l1]
    rw [Int.tmod_eq_emod_of_nonneg h0, Int.tdiv_eq_ediv_of_nonneg h0, wrap_u64]
    rw [show x7 / 256 % 18446744073709551616 = x7 / 256 by omega, show x7 % 256 % 256 = x7 % 256 by omega]
    by_cases h9 : x9 > 0
    · rw [if_pos h9, if_pos (show x9 ≥ 1 by omega)]
      rw [ih _ _ _ (by rw [List.length_set]; exact hl) (by omega) (by omega)]
    · rw [if_neg h9, if_neg (show ¬ x9 ≥ 1 by omega), if_pos (show (0 : Int) < x6.length by omega)]
      rw [if_pos (show (0 : Int) < x6.length by omega)]
theorem eq_l0 (k : Nat) : ∀ (x0 x1 : Int) (x6 : List Int) (x7 x8 : Int), 0 < x6.length → 0 ≤ x0 → x0 < 18446744073709551616 → 0 ≤ x7 → x7 < 18446744073709551616 → winkleref05_Put.l0 k x0 x1 x6 x7 x8 = number_Put.l0 k x0 x1 x6 x7 x8 := by
  induction k with
  | zero => intros; rfl
  | succ k ih =>
    intro x0 x1 x6 x7 x8 hl h00 h01 h0 h1
    simp only [winkleref05_Put.l0, number_Put.l0]
    rw [Int.tmod_eq_emod_of_nonneg h0, Int.tdiv_eq_ediv_of_nonneg h0, wrap_u64, wrap_u64, and7 x7 h0 h1]
    rw [show x7 / 8 % 18446744073709551616 = x7 / 8 by omega, show (48 + x7 % 8) % 18446744073709551616 % 256 = (48 + x7 % 8 % 256) % 256 by omega]
    rw [ih _ _ _ _ _ (by rw [List.length_set]; exact hl) h00 h01 (by omega) (by omega), eq_l1 k _ _ _ hl h00 h01]
theorem eq_f (k : Nat) (a0 a1 : Int) (h0 : 0 ≤ a0) (h1 : a0 < 18446744073709551616) : winkleref05_Put.f k a0 a1 = number_Put.f k a0 a1 := by
  unfold winkleref05_Put.f number_Put.f
  cases k with
  | zero => rfl
  | succ k =>
    simp only [winkleref05_Put.j0, number_Put.j0]
    by_cases h2 : a1 < 2
    · rw [if_pos h2, if_pos h2]; simp
    · rw [if_neg h2, if_neg h2]
      rw [eq_l0 k a0 a1 _ _ _ (by simp; omega) h0 h1 h0 h1]
theorem total_l1 (d : Nat) : ∀ (k : Nat) (x6 : List Int) (x7 x9 : Int), 0 < x6.length → x9 < x6.length → x9 ≤ d → d < k → x6.length ≤ 64 → ∃ r, number_Put.l1 k x6 x7 x9 = some r ∧ r.1.length ≤ 64 := by
  induction d with
  | zero =>
    intro k x6 x7 x9 hl h9 hd hk h64
    obtain ⟨k, rfl⟩ : ∃ j, k = j + 1 := ⟨k - 1, by omega⟩
    simp only [number_Put.l1]
    rw [if_neg (show ¬ x9 > 0 by omega), if_pos (show (0 : Int) < x6.length by omega)]
    split
    · exact ⟨_, rfl, by simpa using h64⟩
    · exact ⟨_, rfl, by simp⟩
  | succ d ih =>
    intro k x6 x7 x9 hl h9 hd hk h64
    obtain ⟨k, rfl⟩ : ∃ j, k = j + 1 := ⟨k - 1, by omega⟩
    simp only [number_Put.l1]
    by_cases hp : x9 > 0
    · rw [if_pos hp, if_pos (by omega), if_pos h9]
      have hw : wrap64 (x9 - 1) = x9 - 1 := by unfold wrap64; omega
      rw [hw]
      exact ih k _ _ _ (by rw [List.length_set]; exact hl) (by rw [List.length_set]; omega) (by omega) (by omega) (by rw [List.length_set]; exact h64)
    · rw [if_neg hp, if_pos (show (0 : Int) < x6.length by omega)]
      split
      · exact ⟨_, rfl, by simpa using h64⟩
      · exact ⟨_, rfl, by simp⟩
theorem total_l0 (d : Nat) : ∀ (k : Nat) (x0 x1 : Int) (x6 : List Int) (x7 x8 : Int), 0 < x6.length → x8 < x6.length → -2 ≤ x8 → x8 < d → x1 ≤ x6.length → -1 ≤ x1 → d + 65 < k → x6.length ≤ 64 → ∃ r, number_Put.l0 k x0 x1 x6 x7 x8 = some r ∧ r.1.length ≤ 64 := by
  induction d with
  | zero =>
    intro k x0 x1 x6 x7 x8 hl h8 h8' hd h1 h1' hk h64
    obtain ⟨k, rfl⟩ : ∃ j, k = j + 1 := ⟨k - 1, by omega⟩
    simp only [number_Put.l0]
    rw [if_neg (show ¬ x8 ≥ 0 by omega)]
    split
    · exact ⟨_, rfl, by simpa using h64⟩
    · have hw : wrap64 (x1 - 1) = x1 - 1 := by unfold wrap64; omega
      rw [hw]
      exact total_l1 64 k _ _ _ hl (by omega) (by omega) (by omega) h64
  | succ d ih =>
    intro k x0 x1 x6 x7 x8 hl h8 h8' hd h1 h1' hk h64
    obtain ⟨k, rfl⟩ : ∃ j, k = j + 1 := ⟨k - 1, by omega⟩
    simp only [number_Put.l0]
    by_cases hp : x8 ≥ 0
    · rw [if_pos hp, if_pos hp, if_pos h8]
      have hw : wrap64 (x8 - 1) = x8 - 1 := by unfold wrap64; omega
      rw [hw]
      exact ih k _ _ _ _ _ (by rw [List.length_set]; exact hl) (by rw [List.length_set]; omega) (by omega) (by omega) (by rw [List.length_set]; exact h1) h1' (by omega) (by rw [List.length_set]; exact h64)
    · rw [if_neg hp]
      split
      · exact ⟨_, rfl, by simpa using h64⟩
      · have hw : wrap64 (x1 - 1) = x1 - 1 := by unfold wrap64; omega
        rw [hw]
        exact total_l1 64 k _ _ _ hl (by omega) (by omega) (by omega) h64
theorem total_f (a0 a1 : Int) : ∃ r, number_Put.f 200 a0 a1 = some r ∧ r.1.length ≤ 64 := by
  have hb : ∀ b : Bool, 2 ≤ a1 → a1 ≤ 64 → ∃ r, number_Put.j0 200 a0 a1 b = some r ∧ r.1.length ≤ 64 := by
    intro b h2 h64
    rw [show (200 : Nat) = 199 + 1 from rfl]
    simp only [number_Put.j0]
    split
    · exact ⟨_, rfl, by simp⟩
    · rw [if_pos (by omega), if_pos (by omega)]
      have hw : wrap64 (a1 - 2) = a1 - 2 := by unfold wrap64; omega
      rw [hw]
      exact total_l0 64 199 _ _ _ _ _ (by simp; omega) (by simp; omega) (by omega) (by omega) (by simp; omega) (by omega) (by omega) (by simp; omega)
  have hj : number_Put.j0 200 a0 a1 true = some ([], false) := by
    rw [show (200 : Nat) = 199 + 1 from rfl]
    simp only [number_Put.j0, if_true]
  unfold number_Put.f
  by_cases h2 : a1 < 2
  · rw [if_pos h2, hj]; exact ⟨_, rfl, by simp⟩
  · rw [if_neg h2]
    by_cases h64 : a1 > 64
    · rw [if_pos h64, hj]; exact ⟨_, rfl, by simp⟩
    · rw [if_neg h64]; exact hb _ (by omega) (by omega)
theorem same_l (xs : List Int) (hn : xs.length ≤ 140737488355328) (d : Nat) : ∀ (k : Nat) (i : Int), 0 ≤ i → (xs.length : Int) - i ≤ d → d < k → winkleref03_Same.l0 k xs xs i = some true := by
  induction d with
  | zero =>
    intro k i h0 hd hk
    obtain ⟨k, rfl⟩ : ∃ j, k = j + 1 := ⟨k - 1, by omega⟩
    simp only [winkleref03_Same.l0]
    rw [if_neg (by omega)]
  | succ d ih =>
    intro k i h0 hd hk
    obtain ⟨k, rfl⟩ : ∃ j, k = j + 1 := ⟨k - 1, by omega⟩
    simp only [winkleref03_Same.l0]
    by_cases h : i < (xs.length : Int)
    · rw [if_pos h, if_pos h0, if_pos h, if_pos trivial, show wrap64 (i + 1) = i + 1 by unfold wrap64; omega]
      exact ih k _ (by omega) (by omega) (by omega)
    · rw [if_neg h]
theorem same_f (xs : List Int) (hn : xs.length ≤ 140737488355328) (k : Nat) (hk : xs.length < k) : winkleref03_Same.f k xs xs = some true := by
  unfold winkleref03_Same.f
  rw [if_pos rfl]
  exact same_l xs hn xs.length k 0 (by omega) (by omega) hk
theorem put84 : number_Put.f 200 8 4 = some ([48, 49, 48, 0], true) := by decide +kernel
theorem NumberPuts : winklelaw05_NumberPuts.Pure := by
  intro a0 a1 w0 w1
  have hx : 0 ≤ a0 ∧ a0 ≤ 18446744073709551615 := by simpa [Lit.wf, IntKind.min, IntKind.max, IntKind.signed, IntKind.bits] using w0
  refine ⟨200, ?_⟩
  unfold winklelaw05_NumberPuts.f
  obtain ⟨r, hr, hl⟩ := total_f a0 a1
  rw [eq_f 200 a0 a1 hx.1 (by omega), hr, put84]
  simp only [Option.bind_some]
  rw [same_f r.1 (by omega) 200 (by omega)]
  simp only [Option.bind_some, if_true, beq_self_eq_true]
  rw [same_f [48, 49, 48, 0] (by decide) 200 (by decide)]
  rfl
end Go.Proofs.Ytlomhifacokgmaa.Pure
