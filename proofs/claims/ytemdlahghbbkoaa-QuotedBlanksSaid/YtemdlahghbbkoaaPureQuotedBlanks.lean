/- QuotedBlanks: the plain law, and the opening of a slice of slices of bytes. -/
import Derived.Test.YtemdlahghbbkoaaPAllx8
import Derived.Test.YtemdlahghbbkoaaQlib
import Derived.Deep.Slices
namespace Go.Proofs.Ytemdlahghbbkoaa.Pure
open Go.RowKit Go.Proofs.Ytemdlahghbbkoaa.PAll Go.Proofs.Ytemdlahghbbkoaa.Qth Go.Proofs.YtemdlahghbbkoaaW.PrintWords Go.Proofs.YtemdlahghbbkoaaW.PrintLast
set_option linter.unusedVariables false
set_option linter.unusedSimpArgs false
/-- a text x says o, and the blanks q wait. -/
def Says (x o q : List Int) (B : Nat) : Prop := (∃ hi, Runs 0 0 [] [] x 0 hi q o) ∧ Byt x ∧ x.length ≤ B ∧ o.length ≤ B ∧ q.length ≤ 64
theorem Says.more {x o q : List Int} {B B' : Nat} (h : Says x o q B) (hB : B ≤ B') : Says x o q B' := ⟨h.1, h.2.1, by have := h.2.2.1; omega, by have := h.2.2.2.1; omega, h.2.2.2.2⟩
theorem byt_app {x y : List Int} (h : Byt x) (h' : Byt y) : Byt (x ++ y) := fun c hc => (List.mem_append.1 hc).elim (h c) (h' c)
theorem Says.letter {x o : List Int} {B : Nat} {c : Int} (h : Says x o [] B) (hc : 97 ≤ c ∧ c ≤ 116) : Says (x ++ [c]) (o ++ [c]) [] (B + 1) := by
  obtain ⟨⟨hi, hr⟩, hb, h1, h2, h3⟩ := h
  have := hr.app (run_vis (hi := hi) (q := []) (o := o) (c := c) (by omega))
  rw [List.append_nil] at this
  exact ⟨⟨hi, this⟩, byt_app hb (fun d hd => by simp at hd; omega), by simp; omega, by simp; omega, by simp⟩
theorem Says.gap {x o : List Int} {B : Nat} {c : Int} (h : Says x o [] B) (hc : 97 ≤ c ∧ c ≤ 116) : Says (x ++ [32, 9, c]) (o ++ [32, 9, c]) [] (B + 3) := by
  obtain ⟨⟨hi, hr⟩, hb, h1, h2, h3⟩ := h
  have r1 := hr.app (run_blank_few (hi := hi) (q := []) (o := o) (c := 32) (.inr rfl) (by simp))
  have r2 := r1.app (run_blank_few (hi := hi) (q := [] ++ [32]) (o := o) (c := 9) (.inl rfl) (by simp))
  have r3 := r2.app (run_vis (hi := hi) (q := [] ++ [32] ++ [9]) (o := o) (c := c) (by omega))
  refine ⟨⟨hi, by simpa using r3⟩, byt_app hb (fun d hd => by simp at hd; omega), by simp; omega, by simp; omega, by simp⟩
theorem Says.blank {x o q : List Int} {B : Nat} {c : Int} (h : Says x o q B) (hc : c = 9 ∨ c = 32) (hq : q.length < 64) : Says (x ++ [c]) o (q ++ [c]) (B + 1) := by
  obtain ⟨⟨hi, hr⟩, hb, h1, h2, h3⟩ := h
  exact ⟨⟨hi, hr.app (run_blank_few hc hq)⟩, byt_app hb (fun d hd => by simp at hd; omega), by simp; omega, by omega, by simp; omega⟩
theorem Says.lf {x o q : List Int} {B : Nat} (h : Says x o q B) : Says (x ++ [10]) (o ++ [10]) [] (B + 1) := by
  obtain ⟨⟨hi, hr⟩, hb, h1, h2, h3⟩ := h
  exact ⟨⟨hi, hr.app run_lf⟩, byt_app hb (fun d hd => by simp at hd; omega), by simp; omega, by simp; omega, by simp⟩
theorem Says.crlf {x o q : List Int} {B : Nat} (h : Says x o q B) : Says (x ++ [13] ++ [10]) (o ++ [13] ++ [10]) [] (B + 2) := by
  obtain ⟨⟨hi, hr⟩, hb, h1, h2, h3⟩ := h
  have := hr.app (run_crlf (hi := hi) (q := q) (o := o))
  exact ⟨⟨hi, by simpa using this⟩, byt_app (byt_app hb (fun d hd => by simp at hd; omega)) (fun d hd => by simp at hd; omega), by simp; omega, by simp; omega, by simp⟩
theorem blanks_end (x0 : List (List Int)) (x1 : List Int) (x o : List Int) (i : Int) (k : Nat) (h : Says x o [] 100000) (hk : 100100 ≤ k) : winklelaw11_QuotedBlanks.j1 k x0 x1 x o i false = some true := by
  obtain ⟨k, rfl⟩ : ∃ k', k = k' + 1 := ⟨k - 1, by omega⟩
  have h1 := (h.blank (c := 32) (.inr rfl) (by simp)).blank (c := 9) (.inl rfl) (by simp)
  obtain ⟨⟨hi, hr⟩, hb, h2, h3, h4⟩ := h1
  have he : x ++ [32] ++ [9] = x ++ [32, 9] := by simp
  rw [he] at hr hb h2
  have hol := h.2.2.2.1
  have hxl := h.2.2.1
  simp only [winklelaw11_QuotedBlanks.j1]
  rw [if_neg (by simp)]
  simp only [Option.bind_some]
  rw [if_pos (by simp; omega), whole_f _ (by omega) hb, hr.end_]
  simp only [Option.bind_some, endS]
  obtain ⟨r, hrr⟩ : ∃ r, k = o.length + 1 + r := ⟨k - (o.length + 1), by omega⟩
  simp only [show ¬ ((0 : Int) = 2) by omega, show ¬ ((0 : Int) = 4) by omega, if_false, if_true, Nat.zero_add, List.append_nil]
  rw [hrr, same_f o (by omega)]
  simp only [Option.bind_some, if_true, awake_f]
theorem blanks_tail (x0 : List (List Int)) (x1 : List Int) (i : Nat) (hi : i ≤ 50) (n : Nat) (hn : n ≤ 64) (B F : Nat) (hB : B ≤ 100000) (HN : ∀ (k : Nat) (x o : List Int), F ≤ k → Says x o [] (B + 66) → winklelaw11_QuotedBlanks.l0 k x0 x1 x o ((i + 1 : Nat) : Int) = some true) (j : Nat) :
    ∀ (m k : Nat) (x o q : List Int), m + j = n → F + j + 1 ≤ k → q.length = m → Says x o q (B + m) → winklelaw11_QuotedBlanks.l2 k x0 x1 x o (i : Int) (n : Int) (m : Int) = some true := by
  induction j with
  | zero =>
    intro m k x o q hm hk hq hs
    obtain ⟨k, rfl⟩ : ∃ k', k = k' + 1 := ⟨k - 1, by omega⟩
    have hx := hs.2.2.1
    have ho := hs.2.2.2.1
    simp only [winklelaw11_QuotedBlanks.l2]
    rw [if_neg (by omega), w_succ i (by omega)]
    split
    · simp only [Option.bind_some]
      rw [if_pos (by omega), if_pos (by omega), if_pos (by simp; omega), if_pos (by simp; omega)]
      exact HN k _ _ (by omega) (hs.crlf.more (by omega))
    · rw [if_pos (by omega), if_pos (by omega)]
      exact HN k _ _ (by omega) (hs.lf.more (by omega))
  | succ j ih =>
    intro m k x o q hm hk hq hs
    obtain ⟨k, rfl⟩ : ∃ k', k = k' + 1 := ⟨k - 1, by omega⟩
    have hx := hs.2.2.1
    simp only [winklelaw11_QuotedBlanks.l2]
    have hw : wrap64 ((i : Int) + (m : Int)) = ((i + m : Nat) : Int) := by
      generalize hg : i + m = t
      have : t ≤ 200 := by omega
      rw [show (i : Int) + (m : Int) = (t : Int) by omega]
      unfold wrap64; omega
    rw [if_pos (by omega), hw, w_succ m (by omega)]
    simp only [Option.bind_some]
    have ht : Int.tmod ((i + m : Nat) : Int) 2 = (((i + m) % 2 : Nat) : Int) := by rw [Int.tmod_eq_emod_of_nonneg (by omega)]; rfl
    rw [ht]
    have hr : rd ([32, 9] : List Int) (((i + m) % 2 : Nat) : Int) = 9 ∨ rd ([32, 9] : List Int) (((i + m) % 2 : Nat) : Int) = 32 := by
      have : (i + m) % 2 = 0 ∨ (i + m) % 2 = 1 := by omega
      rcases this with h | h <;> rw [h]
      · exact .inr rfl
      · exact .inl rfl
    have hlt : (i + m) % 2 < 2 := Nat.mod_lt _ (by omega)
    generalize rd ([32, 9] : List Int) (((i + m) % 2 : Nat) : Int) = c at hr ⊢
    rw [if_pos (by omega), if_pos (by simp; omega), if_pos (by omega)]
    exact ih (m + 1) k _ _ (q ++ [c]) (by omega) (by omega) (by simp; omega) (hs.blank hr (by omega))
theorem letter_range (b : Int) (h : 0 ≤ b ∧ b ≤ 255) : 97 ≤ (97 + Int.tmod b 20) % 256 ∧ (97 + Int.tmod b 20) % 256 ≤ 116 := by
  rw [Int.tmod_eq_emod_of_nonneg h.1]; omega
theorem blanks_line (x0 : List (List Int)) (x1 : List Int) (i : Nat) (hi : i < 50) (hi0 : i < x0.length) (hrow : Byt (rd_L2 x0 (i : Int))) (hx1 : Byt x1) (hl1 : x1.length ≤ 9223372036854775807) (B F : Nat) (hB : B + 400 ≤ 100000) (HN : ∀ (k : Nat) (x o : List Int), F ≤ k → Says x o [] (B + 400) → winklelaw11_QuotedBlanks.l0 k x0 x1 x o ((i + 1 : Nat) : Int) = some true) (j : Nat) :
    ∀ (m k : Nat) (x o : List Int), m + j = 70 → F + 100 + 2 * j ≤ k → Says x o [] (B + 4 * m) → winklelaw11_QuotedBlanks.l1 k x0 x1 x o (i : Int) (m : Int) = some true := by
  -- behind the letters
  have hend : ∀ (m k : Nat) (x o : List Int), m ≤ 70 → F + 90 ≤ k → Says x o [] (B + 4 * m) → winklelaw11_QuotedBlanks.j3 k x0 x1 x o (i : Int) (m : Int) false = some true := by
    intro m k x o hm hk hs
    obtain ⟨k, rfl⟩ : ∃ k', k = k' + 1 + 1 := ⟨k - 2, by omega⟩
    have hfin : ∀ n : Nat, n ≤ 64 → winklelaw11_QuotedBlanks.j4 (k + 1) x0 x1 x o (i : Int) (n : Int) = some true := fun n hn => by
      simp only [winklelaw11_QuotedBlanks.j4]
      exact blanks_tail x0 x1 i (by omega) n hn (B + 4 * m) F (by omega) (fun k x o hk hs => HN k x o hk (hs.more (by omega))) n 0 k x o [] (by omega) (by omega) rfl hs
    rw [winklelaw11_QuotedBlanks.j3]
    rw [if_neg (by simp)]
    by_cases h0 : x1.length = 0
    · rw [if_neg (by omega)]
      exact hfin 0 (by omega)
    · have g : 0 ≤ Int.tmod (i : Int) (x1.length : Int) ∧ Int.tmod (i : Int) (x1.length : Int) < (x1.length : Int) := by
        rw [Int.tmod_eq_emod_of_nonneg (by omega)]
        exact ⟨Int.emod_nonneg _ (by omega), Int.emod_lt_of_pos _ (by omega)⟩
      rw [if_pos (by omega), if_neg (by omega), if_pos g.1, if_pos g.2]
      have hb : 0 ≤ rd x1 (Int.tmod (i : Int) (x1.length : Int)) ∧ rd x1 (Int.tmod (i : Int) (x1.length : Int)) ≤ 255 := by
        have hlt : (Int.tmod (i : Int) (x1.length : Int)).toNat < x1.length := by omega
        have : rd x1 (Int.tmod (i : Int) (x1.length : Int)) = x1[(Int.tmod (i : Int) (x1.length : Int)).toNat] := by simp [rd, hlt]
        rw [this]
        exact hx1 _ (List.getElem_mem hlt)
      generalize rd x1 (Int.tmod (i : Int) (x1.length : Int)) = b at hb
      have hwb : wrap64 b = b := by unfold wrap64; omega
      rw [hwb]
      obtain ⟨n, hn, hn64⟩ : ∃ n : Nat, Int.tmod b 65 = (n : Int) ∧ n ≤ 64 := by
        rw [Int.tmod_eq_emod_of_nonneg hb.1]
        exact ⟨(b % 65).toNat, by omega, by omega⟩
      rw [hn]
      exact hfin n hn64
  induction j with
  | zero =>
    intro m k x o hm hk hs
    obtain ⟨k, rfl⟩ : ∃ k', k = k' + 1 := ⟨k - 1, by omega⟩
    rw [winklelaw11_QuotedBlanks.l1]
    rw [if_pos (by omega), if_pos (by omega)]
    have : decide ((m : Int) < 70) = false := decide_eq_false (by omega)
    rw [this]
    have h := hend m k x o (by omega) (by omega) hs
    split <;> exact h
  | succ j ih =>
    intro m k x o hm hk hs
    obtain ⟨k, rfl⟩ : ∃ k', k = k' + 1 + 1 := ⟨k - 2, by omega⟩
    rw [winklelaw11_QuotedBlanks.l1]
    rw [if_pos (by omega), if_pos (by omega)]
    have h70 : decide ((m : Int) < 70) = true := decide_eq_true (by omega)
    rw [h70]
    by_cases hlt : (m : Int) < ((rd_L2 x0 (i : Int)).length : Int)
    · rw [if_pos hlt]
      have hx := hs.2.2.1
      have ho := hs.2.2.2.1
      rw [winklelaw11_QuotedBlanks.j3]
      rw [if_pos rfl, if_pos (by omega), if_pos (by omega), if_pos (by omega), if_pos hlt, if_pos (by omega)]
      simp only [Option.bind_some]
      have hbb : 0 ≤ rd (rd_L2 x0 (i : Int)) (m : Int) ∧ rd (rd_L2 x0 (i : Int)) (m : Int) ≤ 255 := by
        have hl2 : m < (rd_L2 x0 (i : Int)).length := by omega
        have : rd (rd_L2 x0 (i : Int)) (m : Int) = (rd_L2 x0 (i : Int))[m] := by simp [rd, hl2]
        rw [this]
        exact hrow _ (List.getElem_mem hl2)
      have hc := letter_range _ hbb
      generalize rd (rd_L2 x0 (i : Int)) (m : Int) = b at hbb hc ⊢
      generalize (97 + Int.tmod b 20) % 256 = c at hc ⊢
      rw [if_pos (by omega), w_succ m (by omega)]
      have s1 := hs.letter hc
      split
      · rw [if_pos (by simp; omega), if_pos (by simp; omega)]
        exact ih (m + 1) k _ _ (by omega) (by omega) ((s1.gap hc).more (by omega))
      · exact ih (m + 1) k _ _ (by omega) (by omega) (s1.more (by omega))
    · rw [if_neg hlt]
      -- the row is over: the test of 70 is not reached
      exact hend m (k + 1) x o (by omega) (by omega) hs
theorem blanks_all (x0 : List (List Int)) (x1 : List Int) (hrows : ∀ i : Nat, i < x0.length → Byt (rd_L2 x0 (i : Int))) (hx1 : Byt x1) (hl1 : x1.length ≤ 9223372036854775807) (j : Nat) :
    ∀ (i k : Nat) (x o : List Int), i + j = 50 → 400 * j + 110000 ≤ k → Says x o [] (400 * i) → winklelaw11_QuotedBlanks.l0 k x0 x1 x o (i : Int) = some true := by
  induction j with
  | zero =>
    intro i k x o hi hk hs
    obtain ⟨k, rfl⟩ : ∃ k', k = k' + 1 := ⟨k - 1, by omega⟩
    rw [winklelaw11_QuotedBlanks.l0]
    have : decide ((i : Int) < 50) = false := decide_eq_false (by omega)
    rw [this]
    have h := blanks_end x0 x1 x o (i : Int) k (hs.more (by omega)) (by omega)
    split <;> exact h
  | succ j ih =>
    intro i k x o hi hk hs
    obtain ⟨k, rfl⟩ : ∃ k', k = k' + 1 + 1 := ⟨k - 2, by omega⟩
    rw [winklelaw11_QuotedBlanks.l0]
    have h50 : decide ((i : Int) < 50) = true := decide_eq_true (by omega)
    rw [h50]
    by_cases hlt : (i : Int) < (x0.length : Int)
    · rw [if_pos hlt, winklelaw11_QuotedBlanks.j1]
      rw [if_pos rfl]
      exact blanks_line x0 x1 i (by omega) (by omega) (hrows i (by omega)) hx1 hl1 (400 * i) (400 * j + 110000) (by omega) (fun k x o hk hs => ih (i + 1) k x o (by omega) hk (hs.more (by omega))) 70 0 k x o (by omega) (by omega) (hs.more (by omega))
    · rw [if_neg hlt]
      exact blanks_end x0 x1 x o (i : Int) (k + 1) (hs.more (by omega)) (by omega)
theorem blanks_f (x0 : List (List Int)) (x1 : List Int) (hrows : ∀ i : Nat, i < x0.length → Byt (rd_L2 x0 (i : Int))) (hx1 : Byt x1) (hl1 : x1.length ≤ 9223372036854775807) : winklelaw11_QuotedBlanks.f 130000 x0 x1 = some true := by
  unfold winklelaw11_QuotedBlanks.f
  exact blanks_all x0 x1 hrows hx1 hl1 50 0 130000 [] [] (by omega) (by omega) ⟨⟨0, Runs.nil _ _ _ _⟩, fun c hc => by simp at hc, by simp, by simp, by simp⟩
theorem blanks_row (a0 : Option Addr) (cap0 : Nat) (l : List (List Int)) (a1 : Option Addr) (len1 cap1 : Nat) (z1 : List Int) (w : World) (hc : l.length ≤ cap0) (hm : l.length ≤ maxLen) (hC : Kd.C (Kd.slice 5 (Kd.int .u8)) w a0 l.length l) (hw : ∀ x ∈ l, ∀ b ∈ x, (Lit.int .u8 b).wf = true)
    (w1 : (a1 = none ∧ len1 = 0 ∧ cap1 = 0 ∧ z1 = []) ∨ ∃ x, a1 = some x ∧ len1 ≤ cap1 ∧ cap1 ≤ maxLen ∧ z1.length = cap1 ∧ (∀ i, i < z1.length → w.cell? (x.add i) = some (.int .u8 (z1.getD i 0))) ∧ ∀ n ∈ z1, (Lit.int .u8 n).wf = true) (y1 : len1 * 1 ≤ 140737488351232) :
    Calls Try.prog 7 #[.slice a0 l.length cap0, .slice a1 len1 cap1] w fun e w' => e = .returned (.bool true) ∧ Below w.heap.size w w' := by
  obtain ⟨l1, rfl, hr1, hm1, hw1, hc1⟩ := ReadsInt.ofRowC w1
  exact winklelaw11_QuotedBlanks.calls 130000 a0 cap0 l a1 cap1 l1 true w hC hc (Kd.C_of_reads (d := (0 : Int)) (h1 := fun _ => rfl) hr1) hc1 (blanks_f l l1 (fun i hi => byt_of (hw _ (by
    have : rd_L2 l (i : Int) = l[i] := by simp [rd_L2, hi]
    rw [this]; exact List.getElem_mem hi))) (byt_of hw1) (by omega))
end Go.Proofs.Ytemdlahghbbkoaa.Pure
