/- QuotedBack: the plain law. -/
import Derived.Test.YtemdlahghbbkoaaPureQuotedWrites
namespace Go.Proofs.Ytemdlahghbbkoaa.Pure
open Go.RowKit Go.Proofs.Ytemdlahghbbkoaa.PAll Go.Proofs.Ytemdlahghbbkoaa.Qth Go.Proofs.YtemdlahghbbkoaaW.PrintWords Go.Proofs.YtemdlahghbbkoaaW.PrintLast
set_option linter.unusedVariables false
set_option linter.unusedSimpArgs false
/-- no line is longer than most, but for a 13 at its end. -/
def lineOk (most : Int) : List Int → Int → Prop
  | [], _ => True
  | b :: r, n => if b = 10 then 0 ≤ most ∧ lineOk most r 0 else (n + 1 ≤ most ∨ (n + 1 ≤ most + 1 ∧ b = 13)) ∧ lineOk most r (n + 1)
theorem lineOk_piece (wd : Int) (P r : List Int) (hP : ∀ c ∈ P, c ≠ 10) : ∀ (n : Int), n + P.length ≤ wd → lineOk wd r (n + P.length) → lineOk wd (P ++ r) n := by
  induction P with
  | nil => intro n _ h; simpa using h
  | cons c P ih =>
    intro n hn h
    simp only [List.length_cons] at hn h
    simp only [List.cons_append, lineOk]
    rw [if_neg (hP c (by simp))]
    refine ⟨.inl (by omega), ih (fun c hc => hP c (by simp [hc])) (n + 1) (by omega) ?_⟩
    rw [show n + 1 + (P.length : Int) = n + ((P.length + 1 : Nat) : Int) by omega]
    exact h
theorem pieceL_ten (b : Int) (l : Bool) (h : 0 ≤ b ∧ b ≤ 255) : ∀ c ∈ pieceL b l, c ≠ 10 := by
  have d1 := hex_dig (b / 16) (by omega) (by omega)
  have d2 := hex_dig (b % 16) (by omega) (by omega)
  intro c hc
  unfold pieceL at hc
  split at hc
  · simp at hc; omega
  · simp at hc
    rcases hc with rfl | rfl | rfl
    · omega
    · exact d1.2.2.2.1
    · exact d2.2.2.2.1
theorem lineOk_out (wd : Int) (hw : 4 ≤ wd ∧ wd ≤ 76) (m : Nat) : ∀ (l : List Int), l.length ≤ m → Byt l → ∀ (n : Int), 0 ≤ n → n + 1 ≤ wd → lineOk wd (outW wd l n) n := by
  induction m with
  | zero =>
    intro l hl hb n h0 h1
    obtain rfl : l = [] := List.eq_nil_of_length_eq_zero (by omega)
    simp [outW, lineOk]
  | succ m ih =>
    intro l hl hb n h0 h1
    cases hs : startsL l with
    | true =>
      obtain ⟨r, rfl⟩ := startsL_inv hs
      rw [outW_starts]
      simp only [List.length_cons] at hl
      simp only [lineOk]
      rw [if_neg (by omega), if_pos trivial]
      exact ⟨.inl h1, by omega, ih r (by omega) hb.tail.2.tail.2 0 (by omega) (by omega)⟩
    | false =>
      match l, hs with
      | [], _ => simp [outW, lineOk]
      | b :: r, hs =>
        rw [outW_other _ _ _ _ hs]
        simp only [List.length_cons] at hl
        have h5 := pieceL_len b (r.isEmpty || startsL r)
        have h6 := pieceL_ten b (r.isEmpty || startsL r) hb.tail.1
        generalize pieceL b (r.isEmpty || startsL r) = P at h5 h6 ⊢
        unfold stepW
        by_cases hge : wd ≤ n + (P.length : Int)
        · rw [if_pos hge]
          have := lineOk_piece wd P (outW wd r (P.length : Int)) h6 0 (by omega) (by rw [Int.zero_add]; exact ih r (by omega) hb.tail.2 _ (by omega) (by omega))
          simp only [List.cons_append, List.nil_append, lineOk]
          rw [if_neg (by omega), if_neg (by omega), if_pos trivial]
          exact ⟨.inl h1, .inr ⟨by omega, trivial⟩, by omega, this⟩
        · rw [if_neg hge]
          exact lineOk_piece wd P _ h6 n (by omega) (ih r (by omega) hb.tail.2 _ (by omega) (by omega))
theorem back_loop (w : List Int) (most : Int) (hw : 4 ≤ most ∧ most ≤ 76) (hl : w.length ≤ 1048576 * 1024) (j : Nat) : ∀ (i k : Nat) (n : Int), w.length - i ≤ j → i ≤ w.length → j + 1 ≤ k → 0 ≤ n → n ≤ 100 → lineOk most (w.drop i) n → winklelaw11_QuotedBack.l0 k w most n (i : Int) = some true := by
  induction j with
  | zero =>
    intro i k n h1 h2 h3 h4 h5 h6
    obtain ⟨k, rfl⟩ : ∃ k', k = k' + 1 := ⟨k - 1, by omega⟩
    simp only [winklelaw11_QuotedBack.l0]
    rw [if_neg (by omega), awake_f]
    rfl
  | succ j ih =>
    intro i k n h1 h2 h3 h4 h5 h6
    obtain ⟨k, rfl⟩ : ∃ k', k = k' + 1 := ⟨k - 1, by omega⟩
    match hd : w.drop i with
    | [] =>
      have : w.length ≤ i := List.drop_eq_nil_iff.1 hd
      simp only [winklelaw11_QuotedBack.l0]
      rw [if_neg (by omega), awake_f]
      rfl
    | b :: r =>
      obtain ⟨hlt, hb, hr⟩ := rd_drop hd
      rw [hd] at h6
      simp only [lineOk] at h6
      simp only [winklelaw11_QuotedBack.l0]
      rw [if_pos (by omega), if_pos (by omega), hb]
      by_cases h10 : b = 10
      · rw [if_pos h10] at h6 ⊢
        rw [w_one most (by omega), if_neg (by omega), if_neg (by omega), w_succ i (by omega)]
        exact ih (i + 1) k 0 (by omega) (by omega) (by omega) (by omega) (by omega) (by rw [hr]; exact h6.2)
      · rw [if_neg h10] at h6 ⊢
        have hrec : winklelaw11_QuotedBack.l0 k w most (n + 1) (((i + 1 : Nat)) : Int) = some true := by
          refine ih (i + 1) k (n + 1) (by omega) (by omega) (by omega) (by omega) ?_ (by rw [hr]; exact h6.2)
          rcases h6.1 with h | h <;> omega
        rw [w_one most (by omega), w_one n (by omega), if_neg (by rcases h6.1 with h | h <;> omega), w_succ i (by omega)]
        by_cases hm : n + 1 > most
        · rw [if_pos hm]
          rcases h6.1 with h | h
          · omega
          · rw [if_pos h.2]; exact hrec
        · rw [if_neg hm]; exact hrec
theorem whole_f (l : List Int) (hl : l.length ≤ 1048576 * 1024) (hb : Byt l) : quoted_Whole.f l = some (wholeS 0 0 [] l 0 []) := by
  unfold quoted_Whole.f
  rw [if_pos ⟨by omega, byt_bytesB hb⟩]
theorem QuotedBack (l0 : List Int) (a1 : Int) (hm : l0.length ≤ maxLen) (y0 : l0.length ≤ 1048576) (hw : ∀ x ∈ l0, (Lit.int .u8 x).wf = true) (ha : (Lit.int .i64 a1).wf = true) : ∃ k, winklelaw11_QuotedBack.f k l0 a1 = some true := by
  have hb := byt_of hw
  have hwf := write_f l0 a1 (by omega) hb
  obtain ⟨wd, hwd⟩ : ∃ wd : Int, (if a1 < 4 ∨ a1 > 76 then (76 : Int) else a1) = wd := ⟨_, rfl⟩
  have hw4 : 4 ≤ wd ∧ wd ≤ 76 := by rw [← hwd]; split <;> omega
  rw [hwd, writeS_outW _ _ l0 (Nat.le_refl _), List.nil_append] at hwf
  obtain ⟨h1, h2⟩ := outW_facts wd l0.length l0 (Nat.le_refl _) hb 0
  have h3 := whole_out wd l0 hb
  have h4 := lineOk_out wd hw4 l0.length l0 (Nat.le_refl _) hb 0 (by omega) (by omega)
  generalize outW wd l0 0 = R at hwf h1 h2 h3 h4
  have hloop := back_loop R wd hw4 (by omega) R.length 0 (l0.length + R.length + 2) 0 (by omega) (by omega) (by omega) (by omega) (by omega) (by simpa using h4)
  refine ⟨l0.length + R.length + 5, ?_⟩
  unfold winklelaw11_QuotedBack.f
  rw [hwf]
  simp only [Option.bind_some]
  rw [whole_f R (by omega) h1, h3]
  simp only [Option.bind_some]
  rw [show l0.length + R.length + 5 = l0.length + 1 + (R.length + 4) by omega, same_f l0 (by omega)]
  simp only [Option.bind_some, if_true]
  rw [show ((R.length : Int) != (R.length : Int)) = false from bne_self_eq_false _, show l0.length + 1 + (R.length + 4) = (l0.length + R.length + 2) + 1 + 1 + 1 by omega]
  simp only [winklelaw11_QuotedBack.j0]
  rw [if_neg (by simp)]
  by_cases g1 : a1 < 4
  · rw [if_pos g1]
    simp only [winklelaw11_QuotedBack.j1, if_true, winklelaw11_QuotedBack.j2]
    rw [if_pos (.inl g1)] at hwd
    rw [hwd]; exact hloop
  · rw [if_neg g1]
    simp only [winklelaw11_QuotedBack.j1]
    by_cases g2 : a1 > 76
    · rw [if_pos (decide_eq_true g2)]
      simp only [winklelaw11_QuotedBack.j2]
      rw [if_pos (.inr g2)] at hwd
      rw [hwd]; exact hloop
    · rw [if_neg (by simp; omega)]
      simp only [winklelaw11_QuotedBack.j2]
      rw [if_neg (by omega)] at hwd
      rw [hwd]; exact hloop
end Go.Proofs.Ytemdlahghbbkoaa.Pure
