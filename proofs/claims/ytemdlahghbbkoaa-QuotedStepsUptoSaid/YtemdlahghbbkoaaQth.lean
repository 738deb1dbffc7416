/- Plain laws on quoted-printable: what is written is read back. -/
import Derived.Test.YtemdlahghbbkoaaWrite
namespace Go.Proofs.Ytemdlahghbbkoaa.Qth
open Go.RowKit Go.Proofs.Ytemdlahghbbkoaa.PAll Go.Proofs.YtemdlahghbbkoaaW.PrintWords
set_option linter.unusedVariables false
set_option linter.unusedSimpArgs false
/-- what is written of a list, from a place in the line on. -/
def outW (wd : Int) : List Int → Int → List Int
  | [], _ => []
  | [b], n => (stepW wd n (pieceL b true)).2
  | b :: c :: r, n => if b = 13 ∧ c = 10 then 13 :: 10 :: outW wd r 0 else (stepW wd n (pieceL b (startsL (c :: r)))).2 ++ outW wd (c :: r) (stepW wd n (pieceL b (startsL (c :: r)))).1
theorem writeS_outW (wd : Int) (m : Nat) : ∀ (l : List Int), l.length ≤ m → ∀ (n : Int) (o : List Int), writeS wd l n o = o ++ outW wd l n := by
  induction m with
  | zero =>
    intro l hl n o
    obtain rfl : l = [] := List.eq_nil_of_length_eq_zero (by omega)
    simp [writeS, outW]
  | succ m ih =>
    intro l hl n o
    match l with
    | [] => simp [writeS, outW]
    | [b] => simp [writeS, outW]
    | b :: c :: r =>
      simp only [writeS, outW]
      simp only [List.length_cons] at hl
      by_cases h : b = 13 ∧ c = 10
      · rw [if_pos h, if_pos h, ih r (by omega)]; simp
      · rw [if_neg h, if_neg h, ih (c :: r) (by simp; omega)]; simp
theorem outW_starts (wd n : Int) (r : List Int) : outW wd (13 :: 10 :: r) n = 13 :: 10 :: outW wd r 0 := by simp [outW]
theorem outW_other (wd n b : Int) (r : List Int) (h : startsL (b :: r) = false) : outW wd (b :: r) n = (stepW wd n (pieceL b (r.isEmpty || startsL r))).2 ++ outW wd r (stepW wd n (pieceL b (r.isEmpty || startsL r))).1 := by
  match r with
  | [] => simp [outW]
  | c :: r =>
    have : ¬ (b = 13 ∧ c = 10) := by
      rintro ⟨rfl, rfl⟩
      simp [startsL] at h
    simp [outW, this]
/-- two lists of bytes as one condition. -/
def Byt (l : List Int) : Prop := ∀ b ∈ l, 0 ≤ b ∧ b ≤ 255
theorem byt_bytesB {l : List Int} (h : Byt l) : bytesB l = true := by
  unfold bytesB
  rw [List.all_eq_true]
  intro b hb
  have := h b hb
  simp [this.1, this.2]
theorem bytesB_byt {l : List Int} (h : bytesB l = true) : Byt l := fun b hb => by
  have := List.all_eq_true.1 h b hb
  simpa using this
/-- a run of bytes takes the decoder from a state to another, and nothing is wrong. -/
def Runs (st hi : Int) (q o x : List Int) (st' hi' : Int) (q' o' : List Int) : Prop := ∀ (y : List Int) (i : Nat), wholeS st hi q (x ++ y) i o = wholeS st' hi' q' y (i + x.length) o'
theorem Runs.nil (st hi : Int) (q o : List Int) : Runs st hi q o [] st hi q o := fun y i => by simp
theorem Runs.app {st hi st1 hi1 st2 hi2 : Int} {q o x q1 o1 x1 q2 o2 : List Int} (h : Runs st hi q o x st1 hi1 q1 o1) (h1 : Runs st1 hi1 q1 o1 x1 st2 hi2 q2 o2) : Runs st hi q o (x ++ x1) st2 hi2 q2 o2 := fun y i => by
  rw [List.append_assoc, h, h1, List.length_append, Nat.add_assoc]
theorem Runs.one {st hi s2 h2 : Int} {q o q2 e2 : List Int} {b : Int} (h : stepS st hi q b = (s2, h2, 0, q2, e2)) : Runs st hi q o [b] s2 h2 q2 (o ++ e2) := fun y i => by
  simp only [List.cons_append, List.nil_append, wholeS, h, if_true, List.length_singleton]
theorem Runs.end_ {st hi st' hi' : Int} {q o x q' o' : List Int} (h : Runs st hi q o x st' hi' q' o') (i : Nat) : wholeS st hi q x i o = (o' ++ (endS st' q').2, (endS st' q').1, ((i + x.length : Nat) : Int)) := by
  have := h [] i
  rw [List.append_nil] at this
  rw [this]; rfl
theorem run_vis {hi : Int} {q o : List Int} {c : Int} (h : c ≠ 9 ∧ c ≠ 32 ∧ c ≠ 13 ∧ c ≠ 10 ∧ c ≠ 61) : Runs 0 hi q o [c] 0 hi [] (o ++ q ++ [c]) := by
  have : stepS 0 hi q c = (0, hi, 0, [], q ++ [c]) := by simp [stepS, plainS, h]
  have := Runs.one (o := o) this
  rw [← List.append_assoc] at this; exact this
theorem run_eq {hi : Int} {q o : List Int} : Runs 0 hi q o [61] 1 hi [] (o ++ q) := Runs.one (by simp [stepS, plainS])
theorem run_soft {hi : Int} {q o : List Int} : Runs 0 hi q o [61, 13, 10] 0 hi [] (o ++ q) := by
  have h1 := (run_eq (hi := hi) (q := q) (o := o)).app (Runs.one (b := 13) (show stepS 1 hi [] 13 = (3, hi, 0, [], []) by simp [stepS, digS]))
  have h2 := h1.app (Runs.one (b := 10) (show stepS 3 hi [] 10 = (0, hi, 0, [], []) by simp [stepS]))
  simpa using h2
theorem run_soft1 {hi : Int} {q o : List Int} : Runs 0 hi q o [61, 10] 0 hi [] (o ++ q) := by
  have h1 := (run_eq (hi := hi) (q := q) (o := o)).app (Runs.one (b := 10) (show stepS 1 hi [] 10 = (0, hi, 0, [], []) by simp [stepS, digS]))
  simpa using h1
theorem run_crlf {hi : Int} {q o : List Int} : Runs 0 hi q o [13, 10] 0 hi [] (o ++ [13, 10]) := by
  have h1 := (Runs.one (o := o) (b := 13) (show stepS 0 hi q 13 = (4, hi, 0, q, []) by simp [stepS, plainS])).app (Runs.one (b := 10) (show stepS 4 hi q 10 = (0, hi, 0, [], [13, 10]) by simp [stepS]))
  simpa using h1
theorem run_lf {hi : Int} {q o : List Int} : Runs 0 hi q o [10] 0 hi [] (o ++ [10]) := Runs.one (show stepS 0 hi q 10 = (0, hi, 0, [], [10]) by simp [stepS, plainS])
/-- a blank: what is said and what waits are together one more. -/
theorem run_blank {hi : Int} {q o : List Int} {c : Int} (hc : c = 9 ∨ c = 32) (hq : q.length ≤ 64) : ∃ q' o', Runs 0 hi q o [c] 0 hi q' o' ∧ o' ++ q' = o ++ q ++ [c] ∧ q'.length ≤ 64 := by
  by_cases h : q.length = 64
  · refine ⟨q.drop 1 ++ [c], o ++ q.take 1, Runs.one (by simp [stepS, plainS, hc, h]), ?_, by simp; omega⟩
    rw [← List.append_assoc, List.append_assoc o, List.take_append_drop]
  · exact ⟨q ++ [c], o ++ [], Runs.one (by simp [stepS, plainS, hc, h]), by simp, by simp; omega⟩
theorem run_blank_few {hi : Int} {q o : List Int} {c : Int} (hc : c = 9 ∨ c = 32) (hq : q.length < 64) : Runs 0 hi q o [c] 0 hi (q ++ [c]) o := by
  have h64 : ¬ q.length = 64 := by omega
  have := Runs.one (o := o) (show stepS 0 hi q c = (0, hi, 0, q ++ [c], []) by simp [stepS, plainS, hc, h64])
  simpa using this
theorem hex_dig (n : Int) (h0 : 0 ≤ n) (h1 : n < 16) : digS (hexD n) = some n ∧ hexD n ≠ 61 ∧ hexD n ≠ 13 ∧ hexD n ≠ 10 ∧ hexD n ≠ 9 ∧ 32 < hexD n := by
  have key : ∀ m : Fin 16, digS (hexD ((m.1 : Nat) : Int)) = some ((m.1 : Nat) : Int) ∧ hexD ((m.1 : Nat) : Int) ≠ 61 ∧ hexD ((m.1 : Nat) : Int) ≠ 13 ∧ hexD ((m.1 : Nat) : Int) ≠ 10 ∧ hexD ((m.1 : Nat) : Int) ≠ 9 ∧ 32 < hexD ((m.1 : Nat) : Int) := by decide +kernel
  have := key ⟨n.toNat, by omega⟩
  simp only [Int.toNat_of_nonneg h0] at this
  exact this
theorem run_hex {hi : Int} {q o : List Int} {c : Int} (h0 : 0 ≤ c) (h1 : c ≤ 255) : ∃ hi', Runs 0 hi q o [61, hexD (c / 16), hexD (c % 16)] 0 hi' [] (o ++ q ++ [c]) := by
  have d1 := hex_dig (c / 16) (by omega) (by omega)
  have d2 := hex_dig (c % 16) (by omega) (by omega)
  have h1 := (run_eq (hi := hi) (q := q) (o := o)).app (Runs.one (b := hexD (c / 16)) (show stepS 1 hi [] (hexD (c / 16)) = (2, c / 16, 0, [], []) by simp [stepS, d1.1]))
  have h2 := h1.app (Runs.one (b := hexD (c % 16)) (show stepS 2 (c / 16) [] (hexD (c % 16)) = (0, c / 16, 0, [], [16 * (c / 16) + c % 16]) by simp [stepS, d2.1]))
  rw [show 16 * (c / 16) + c % 16 = c by omega] at h2
  exact ⟨_, by simpa using h2⟩
/-- a piece: what is said and what waits are together one more; and it waits only where a blank is written as it is. -/
theorem run_piece {hi : Int} {q o : List Int} {c : Int} {last : Bool} (h0 : 0 ≤ c) (h1 : c ≤ 255) (hq : q.length ≤ 64) : ∃ hi' q' o', Runs 0 hi q o (pieceL c last) 0 hi' q' o' ∧ o' ++ q' = o ++ q ++ [c] ∧ q'.length ≤ 64 ∧ (last = true → q' = []) := by
  unfold pieceL
  by_cases h : (32 < c ∧ c < 127 ∧ c ≠ 61) ∨ ((c = 9 ∨ c = 32) ∧ last = false)
  · rw [if_pos h]
    rcases h with h | ⟨h, hl⟩
    · exact ⟨hi, [], _, run_vis ⟨by omega, by omega, by omega, by omega, h.2.2⟩, by simp, by simp, fun _ => rfl⟩
    · obtain ⟨q', o', r1, r2, r3⟩ := run_blank (hi := hi) (o := o) h hq
      exact ⟨hi, q', o', r1, r2, r3, fun e => by rw [hl] at e; cases e⟩
  · rw [if_neg h]
    obtain ⟨hi', r⟩ := run_hex (hi := hi) (q := q) (o := o) h0 h1
    exact ⟨hi', [], _, r, by simp, by simp, fun _ => rfl⟩
theorem run_step {hi : Int} {q o : List Int} {c wd n : Int} {last : Bool} (h0 : 0 ≤ c) (h1 : c ≤ 255) (hq : q.length ≤ 64) : ∃ hi' q' o', Runs 0 hi q o (stepW wd n (pieceL c last)).2 0 hi' q' o' ∧ o' ++ q' = o ++ q ++ [c] ∧ q'.length ≤ 64 ∧ (last = true → q' = []) := by
  unfold stepW
  split
  · obtain ⟨hi', q', o', r1, r2, r3⟩ := run_piece (hi := hi) (q := []) (o := o ++ q) (last := last) h0 h1 (by simp)
    exact ⟨hi', q', o', run_soft.app r1, by rw [r2]; simp, r3⟩
  · exact run_piece h0 h1 hq
theorem Byt.tail {b : Int} {r : List Int} (h : Byt (b :: r)) : (0 ≤ b ∧ b ≤ 255) ∧ Byt r := ⟨h b (by simp), fun c hc => h c (by simp [hc])⟩
/-- what is written is read back. -/
theorem run_out (wd : Int) (m : Nat) : ∀ (l : List Int), l.length ≤ m → Byt l → ∀ (n hi : Int) (q o : List Int), q.length ≤ 64 → (q ≠ [] → l ≠ [] ∧ startsL l = false) → ∃ hi', Runs 0 hi q o (outW wd l n) 0 hi' [] (o ++ q ++ l) := by
  induction m with
  | zero =>
    intro l hl hb n hi q o hq hne
    obtain rfl : l = [] := List.eq_nil_of_length_eq_zero (by omega)
    have : q = [] := by
      rcases q with _ | ⟨x, q⟩
      · rfl
      · exact absurd rfl (hne (by simp)).1
    subst this
    exact ⟨hi, by simp [outW]; exact Runs.nil _ _ _ _⟩
  | succ m ih =>
    intro l hl hb n hi q o hq hne
    cases hs : startsL l with
    | true =>
      obtain ⟨r, rfl⟩ := startsL_inv hs
      have hq0 : q = [] := by
        rcases q with _ | ⟨x, q⟩
        · rfl
        · exact absurd hs (by rw [(hne (by simp)).2]; simp)
      subst hq0
      rw [outW_starts]
      simp only [List.length_cons] at hl
      obtain ⟨hi', r2⟩ := ih r (by omega) hb.tail.2.tail.2 0 hi [] (o ++ [13, 10]) (by simp) (by simp)
      have := run_crlf (hi := hi) (q := []) (o := o) |>.app r2
      exact ⟨hi', by simpa using this⟩
    | false =>
      match l, hs with
      | [], _ =>
        have : q = [] := by
          rcases q with _ | ⟨x, q⟩
          · rfl
          · exact absurd rfl (hne (by simp)).1
        subst this
        exact ⟨hi, by simp [outW]; exact Runs.nil _ _ _ _⟩
      | b :: r, hs =>
        rw [outW_other _ _ _ _ hs]
        simp only [List.length_cons] at hl
        obtain ⟨hi1, q1, o1, r1, r2, r3, r4⟩ := run_step (hi := hi) (q := q) (o := o) (wd := wd) (n := n) (last := r.isEmpty || startsL r) hb.tail.1.1 hb.tail.1.2 hq
        obtain ⟨hi2, r5⟩ := ih r (by omega) hb.tail.2 (stepW wd n (pieceL b (r.isEmpty || startsL r))).1 hi1 q1 o1 r3 (fun hq1 => by
          constructor
          · intro e
            subst e
            exact hq1 (r4 rfl)
          · cases hr : startsL r with
            | false => rfl
            | true => exact absurd (r4 (by rw [hr]; simp)) hq1)
        refine ⟨hi2, ?_⟩
        have := r1.app r5
        rw [show o1 ++ q1 ++ r = o ++ q ++ b :: r by rw [r2]; simp] at this
        exact this
theorem whole_out (wd : Int) (l : List Int) (h : Byt l) : wholeS 0 0 [] (outW wd l 0) 0 [] = (l, 0, ((outW wd l 0).length : Int)) := by
  obtain ⟨hi', r⟩ := run_out wd l.length l (Nat.le_refl _) h 0 0 [] [] (by simp) (by simp)
  rw [r.end_]
  simp [endS]
theorem hexD_byte (n : Int) (h0 : 0 ≤ n) (h1 : n < 16) : 0 ≤ hexD n ∧ hexD n ≤ 255 := by unfold hexD; split <;> omega
theorem pieceL_byt {b : Int} {l : Bool} (h : 0 ≤ b ∧ b ≤ 255) : Byt (pieceL b l) := by
  have d1 := hexD_byte (b / 16) (by omega) (by omega)
  have d2 := hexD_byte (b % 16) (by omega) (by omega)
  intro c hc
  unfold pieceL at hc
  split at hc
  · simp at hc; subst hc; exact h
  · simp at hc
    rcases hc with rfl | rfl | rfl
    · omega
    · exact d1
    · exact d2
theorem stepW_byt {wd n : Int} {p : List Int} (h : Byt p) : Byt (stepW wd n p).2 := by
  unfold stepW
  split
  · intro c hc
    simp at hc
    rcases hc with rfl | rfl | rfl | hc
    · omega
    · omega
    · omega
    · exact h c hc
  · exact h
theorem stepW_len {wd n : Int} {p : List Int} : (stepW wd n p).2.length ≤ p.length + 3 := by
  unfold stepW
  split <;> simp
theorem outW_facts (wd : Int) (m : Nat) : ∀ (l : List Int), l.length ≤ m → Byt l → ∀ (n : Int), Byt (outW wd l n) ∧ (outW wd l n).length ≤ 6 * l.length := by
  induction m with
  | zero =>
    intro l hl hb n
    obtain rfl : l = [] := List.eq_nil_of_length_eq_zero (by omega)
    exact ⟨fun c hc => by simp [outW] at hc, by simp [outW]⟩
  | succ m ih =>
    intro l hl hb n
    cases hs : startsL l with
    | true =>
      obtain ⟨r, rfl⟩ := startsL_inv hs
      rw [outW_starts]
      simp only [List.length_cons] at hl ⊢
      obtain ⟨h1, h2⟩ := ih r (by omega) hb.tail.2.tail.2 0
      refine ⟨fun c hc => ?_, by omega⟩
      simp at hc
      rcases hc with rfl | rfl | hc
      · omega
      · omega
      · exact h1 c hc
    | false =>
      match l, hs with
      | [], _ => exact ⟨fun c hc => by simp [outW] at hc, by simp [outW]⟩
      | b :: r, hs =>
        rw [outW_other _ _ _ _ hs]
        simp only [List.length_cons] at hl ⊢
        obtain ⟨h1, h2⟩ := ih r (by omega) hb.tail.2 (stepW wd n (pieceL b (r.isEmpty || startsL r))).1
        have h3 := stepW_byt (wd := wd) (n := n) (pieceL_byt (l := r.isEmpty || startsL r) hb.tail.1)
        have h4 := stepW_len (wd := wd) (n := n) (p := pieceL b (r.isEmpty || startsL r))
        have h5 := pieceL_len b (r.isEmpty || startsL r)
        refine ⟨fun c hc => ?_, by rw [List.length_append]; omega⟩
        rcases List.mem_append.1 hc with hc | hc
        · exact h3 c hc
        · exact h1 c hc
end Go.Proofs.Ytemdlahghbbkoaa.Qth
