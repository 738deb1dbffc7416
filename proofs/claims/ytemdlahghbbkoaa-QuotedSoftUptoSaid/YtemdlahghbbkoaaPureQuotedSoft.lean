/- QuotedSoft: the plain law. -/
import Derived.Test.YtemdlahghbbkoaaPAllx7
import Derived.Test.YtemdlahghbbkoaaQlib
namespace Go.Proofs.Ytemdlahghbbkoaa.Pure
open Go.RowKit Go.Proofs.Ytemdlahghbbkoaa.PAll Go.Proofs.Ytemdlahghbbkoaa.Qth Go.Proofs.YtemdlahghbbkoaaW.PrintWords Go.Proofs.YtemdlahghbbkoaaW.PrintLast
set_option linter.unusedVariables false
set_option linter.unusedSimpArgs false
/-- what is put in ahead of a byte: kd its kind, p2 and p1 the bytes ahead. -/
def insG (kd p2 p1 b : Int) : List Int := if p1 = 61 ∨ (p2 = 61 ∧ p1 ≠ 13) then [] else if b > 32 then (if kd = 1 then [61, 13, 10] else if kd = 2 then [61, 10] else []) else []
def softG (f : Nat → Int) : Int → Int → Nat → List Int → List Int
  | _, _, _, [] => []
  | p2, p1, i, b :: r => insG (f i) p2 p1 b ++ b :: softG f p1 b (i + 1) r
def Closed (p2 p1 : Int) : Prop := p1 ≠ 61 ∧ ¬ (p2 = 61 ∧ p1 ≠ 13)
theorem insG_low {kd p2 p1 b : Int} (h : ¬ b > 32) : insG kd p2 p1 b = [] := by unfold insG; split <;> simp [h]
theorem insG_in {kd p2 p1 b : Int} (h : p1 = 61 ∨ (p2 = 61 ∧ p1 ≠ 13)) : insG kd p2 p1 b = [] := by unfold insG; rw [if_pos h]
theorem run_ins (kd p2 p1 b : Int) {hi : Int} {q o : List Int} (hq : q.length ≤ 64) : ∃ q' o', Runs 0 hi q o (insG kd p2 p1 b) 0 hi q' o' ∧ o' ++ q' = o ++ q ∧ q'.length ≤ 64 ∧ (q = [] → q' = []) := by
  unfold insG
  split
  · exact ⟨q, o, Runs.nil _ _ _ _, rfl, hq, fun h => h⟩
  · split
    · split
      · exact ⟨[], o ++ q, run_soft, by simp, by simp, fun _ => rfl⟩
      · split
        · exact ⟨[], o ++ q, run_soft1, by simp, by simp, fun _ => rfl⟩
        · exact ⟨q, o, Runs.nil _ _ _ _, rfl, hq, fun h => h⟩
    · exact ⟨q, o, Runs.nil _ _ _ _, rfl, hq, fun h => h⟩
/-- a piece, with what is put in. -/
theorem soft_piece (f : Nat → Int) {hi : Int} {q o : List Int} {c : Int} {last : Bool} (p2 p1 : Int) (i : Nat) (x : List Int) (h0 : 0 ≤ c) (h1 : c ≤ 255) (hq : q.length ≤ 64) (hc : Closed p2 p1) :
    ∃ (y : List Int) (p2' p1' : Int) (i' : Nat) (hi' : Int) (q' o' : List Int), softG f p2 p1 i (pieceL c last ++ x) = y ++ softG f p2' p1' i' x ∧ Closed p2' p1' ∧ Runs 0 hi q o y 0 hi' q' o' ∧ o' ++ q' = o ++ q ++ [c] ∧ q'.length ≤ 64 ∧ (last = true → q' = []) := by
  obtain ⟨q1, o1, r1, r2, r3, r4⟩ := run_ins (f i) p2 p1 (pieceL c last |>.headD 0) (hi := hi) (q := q) (o := o) hq
  obtain ⟨hi', q', o', s1, s2, s3, s4⟩ := run_piece (hi := hi) (q := q1) (o := o1) (last := last) h0 h1 r3
  unfold pieceL at *
  by_cases h : (32 < c ∧ c < 127 ∧ c ≠ 61) ∨ ((c = 9 ∨ c = 32) ∧ last = false)
  · rw [if_pos h] at r1 s1 ⊢
    refine ⟨insG (f i) p2 p1 c ++ [c], p1, c, i + 1, hi', q', o', by simp [softG], ?_, r1.app s1, by rw [s2, r2], s3, s4⟩
    have hc61 : c ≠ 61 := by
      rcases h with h | ⟨h, _⟩
      · exact h.2.2
      · omega
    exact ⟨hc61, fun e => hc.1 e.1⟩
  · rw [if_neg h] at r1 s1 ⊢
    have d1 := hex_dig (c / 16) (by omega) (by omega)
    have d2 := hex_dig (c % 16) (by omega) (by omega)
    refine ⟨insG (f i) p2 p1 61 ++ [61, hexD (c / 16), hexD (c % 16)], hexD (c / 16), hexD (c % 16), i + 1 + 1 + 1, hi', q', o', ?_, ⟨d2.2.1, fun e => d1.2.1 e.1⟩, r1.app s1, by rw [s2, r2], s3, s4⟩
    simp only [List.cons_append, List.nil_append, softG]
    rw [insG_in (b := hexD (c / 16)) (.inl rfl), insG_in (b := hexD (c % 16)) (.inr ⟨rfl, d1.2.2.1⟩)]
    simp
theorem soft_step (f : Nat → Int) {hi : Int} {q o : List Int} {c wd n : Int} {last : Bool} (p2 p1 : Int) (i : Nat) (x : List Int) (h0 : 0 ≤ c) (h1 : c ≤ 255) (hq : q.length ≤ 64) (hc : Closed p2 p1) :
    ∃ (y : List Int) (p2' p1' : Int) (i' : Nat) (hi' : Int) (q' o' : List Int), softG f p2 p1 i ((stepW wd n (pieceL c last)).2 ++ x) = y ++ softG f p2' p1' i' x ∧ Closed p2' p1' ∧ Runs 0 hi q o y 0 hi' q' o' ∧ o' ++ q' = o ++ q ++ [c] ∧ q'.length ≤ 64 ∧ (last = true → q' = []) := by
  unfold stepW
  split
  · obtain ⟨q1, o1, r1, r2, r3, r4⟩ := run_ins (f i) p2 p1 61 (hi := hi) (q := q) (o := o) hq
    obtain ⟨y, p2', p1', i', hi', q', o', e, hc', s1, s2, s3, s4⟩ := soft_piece f (hi := hi) (q := []) (o := o1 ++ q1) (last := last) 13 10 (i + 1 + 1 + 1) x h0 h1 (by simp) ⟨by omega, by omega⟩
    refine ⟨insG (f i) p2 p1 61 ++ [61, 13, 10] ++ y, p2', p1', i', hi', q', o', ?_, hc', (r1.app run_soft).app s1, by rw [s2, r2]; simp, s3, s4⟩
    rw [List.append_assoc]
    simp only [List.cons_append, List.nil_append, softG]
    rw [insG_in (p1 := 61) (.inl rfl), insG_low (b := 10) (by omega), e]
    simp
  · exact soft_piece f p2 p1 i x h0 h1 hq hc
theorem soft_out (f : Nat → Int) (wd : Int) (m : Nat) : ∀ (l : List Int), l.length ≤ m → Byt l → ∀ (n hi : Int) (q o : List Int) (p2 p1 : Int) (i : Nat), q.length ≤ 64 → Closed p2 p1 → (q ≠ [] → l ≠ [] ∧ startsL l = false) → ∃ hi', Runs 0 hi q o (softG f p2 p1 i (outW wd l n)) 0 hi' [] (o ++ q ++ l) := by
  induction m with
  | zero =>
    intro l hl hb n hi q o p2 p1 i hq hc hne
    obtain rfl : l = [] := List.eq_nil_of_length_eq_zero (by omega)
    have : q = [] := by
      rcases q with _ | ⟨x, q⟩
      · rfl
      · exact absurd rfl (hne (by simp)).1
    subst this
    exact ⟨hi, by simp [outW, softG]; exact Runs.nil _ _ _ _⟩
  | succ m ih =>
    intro l hl hb n hi q o p2 p1 i hq hc hne
    cases hs : startsL l with
    | true =>
      obtain ⟨r, rfl⟩ := startsL_inv hs
      have hq0 : q = [] := by
        rcases q with _ | ⟨x, q⟩
        · rfl
        · exact absurd hs (by rw [(hne (by simp)).2]; simp)
      subst hq0
      rw [outW_starts]
      simp only [List.length_cons] at hl
      obtain ⟨hi', r2⟩ := ih r (by omega) hb.tail.2.tail.2 0 hi [] (o ++ [13, 10]) 13 10 (i + 1 + 1) (by simp) ⟨by omega, by omega⟩ (by simp)
      have := run_crlf (hi := hi) (q := []) (o := o) |>.app r2
      simp only [softG]
      rw [insG_low (by omega), insG_low (by omega)]
      exact ⟨hi', by simpa using this⟩
    | false =>
      match l, hs with
      | [], _ =>
        have : q = [] := by
          rcases q with _ | ⟨x, q⟩
          · rfl
          · exact absurd rfl (hne (by simp)).1
        subst this
        exact ⟨hi, by simp [outW, softG]; exact Runs.nil _ _ _ _⟩
      | b :: r, hs =>
        rw [outW_other _ _ _ _ hs]
        simp only [List.length_cons] at hl
        obtain ⟨y, p2', p1', i', hi1, q1, o1, e, hc', r1, r2, r3, r4⟩ := soft_step f (hi := hi) (q := q) (o := o) (wd := wd) (n := n) (last := r.isEmpty || startsL r) p2 p1 i (outW wd r (stepW wd n (pieceL b (r.isEmpty || startsL r))).1) hb.tail.1.1 hb.tail.1.2 hq hc
        obtain ⟨hi2, r5⟩ := ih r (by omega) hb.tail.2 (stepW wd n (pieceL b (r.isEmpty || startsL r))).1 hi1 q1 o1 p2' p1' i' r3 hc' (fun hq1 => by
          constructor
          · intro e
            subst e
            exact hq1 (r4 rfl)
          · cases hr : startsL r with
            | false => rfl
            | true => exact absurd (r4 (by rw [hr]; simp)) hq1)
        rw [e]
        refine ⟨hi2, ?_⟩
        have := r1.app r5
        rw [show o1 ++ q1 ++ r = o ++ q ++ b :: r by rw [r2]; simp] at this
        exact this
theorem softG_facts (f : Nat → Int) : ∀ (x : List Int) (p2 p1 : Int) (i : Nat), Byt x → Byt (softG f p2 p1 i x) ∧ (softG f p2 p1 i x).length ≤ 4 * x.length := by
  intro x
  induction x with
  | nil => intro p2 p1 i _; exact ⟨fun c hc => by simp [softG] at hc, by simp [softG]⟩
  | cons b r ih =>
    intro p2 p1 i hb
    obtain ⟨h1, h2⟩ := ih p1 b (i + 1) hb.tail.2
    have h3 : Byt (insG (f i) p2 p1 b) ∧ (insG (f i) p2 p1 b).length ≤ 3 := by
      unfold insG
      split
      · exact ⟨fun c hc => by simp at hc, by simp⟩
      · split
        · split
          · exact ⟨fun c hc => by simp at hc; omega, by simp⟩
          · split
            · exact ⟨fun c hc => by simp at hc; omega, by simp⟩
            · exact ⟨fun c hc => by simp at hc, by simp⟩
        · exact ⟨fun c hc => by simp at hc, by simp⟩
    simp only [softG]
    refine ⟨fun c hc => ?_, by simp; omega⟩
    rcases List.mem_append.1 hc with hc | hc
    · exact h3.1 c hc
    · rcases List.mem_cons.1 hc with rfl | hc
      · exact hb.tail.1
      · exact h1 c hc
/-- the kind of a place. -/
def kindS (a : List Int) (i : Nat) : Int := if a.length = 0 then 0 else Int.tmod (rd a (Int.tmod (i : Int) (a.length : Int))) 3
/-- the byte d places ahead of place i. -/
def prevS (w : List Int) (i d : Nat) : Int := if d ≤ i then w.getD (i - d) 0 else 0
theorem w_pred (i d : Nat) (h : d ≤ i) (hi : i ≤ 1048576 * 1048576) : wrap64 ((i : Int) - (d : Int)) = ((i - d : Nat) : Int) := by
  rw [show (i : Int) - (d : Int) = ((i - d : Nat) : Int) by omega]
  have hm : i - d ≤ 1048576 * 1048576 := by omega
  generalize i - d = m at *
  unfold wrap64; omega
theorem rd_prev (w : List Int) (i d : Nat) (h : d ≤ i) : rd w (((i - d : Nat)) : Int) = prevS w i d := by
  unfold prevS
  rw [if_pos h]
  by_cases hl : i - d < w.length
  · simp [rd, List.getD]
  · simp [rd, List.getD]
/-- is a place within an escape? -/
def inS (w : List Int) (i : Nat) : Bool := decide (prevS w i 1 = 61 ∨ (prevS w i 2 = 61 ∧ prevS w i 1 ≠ 13))
theorem soft_in (l0 a w c : List Int) (i k : Nat) (hi : i < w.length) (hl : w.length ≤ 1048576 * 1048576) : winklelaw11_QuotedSoft.l0 (k + 1) l0 a w c (i : Int) = winklelaw11_QuotedSoft.j1 k l0 a w c (i : Int) (inS w i) := by
  simp only [winklelaw11_QuotedSoft.l0]
  rw [if_pos (by omega)]
  have b1 : i < 1 → prevS w i 1 = 0 := fun h => by unfold prevS; rw [if_neg (by omega)]
  have b2 : i < 2 → prevS w i 2 = 0 := fun h => by unfold prevS; rw [if_neg (by omega)]
  have hin2 : 2 ≤ i → (if 0 ≤ wrap64 ((i : Int) - 2) then (if wrap64 ((i : Int) - 2) < (w.length : Int) then (if rd w (wrap64 ((i : Int) - 2)) = 61 then (winklelaw11_QuotedSoft.j1 k l0 a w c (i : Int) ((rd w (wrap64 ((i : Int) - 1))) != 13)) else (winklelaw11_QuotedSoft.j1 k l0 a w c (i : Int) false)) else (none)) else (none)) = (if prevS w i 2 = 61 then winklelaw11_QuotedSoft.j1 k l0 a w c (i : Int) (prevS w i 1 != 13) else winklelaw11_QuotedSoft.j1 k l0 a w c (i : Int) false) := fun h => by
    rw [show (2 : Int) = ((2 : Nat) : Int) from rfl, show (1 : Int) = ((1 : Nat) : Int) from rfl, w_pred i 2 (by omega) (by omega), w_pred i 1 (by omega) (by omega), if_pos (by omega), if_pos (by omega), rd_prev w i 2 (by omega), rd_prev w i 1 (by omega)]
  by_cases h1 : 1 ≤ i
  · rw [if_pos (by omega)]
    have e1 : wrap64 ((i : Int) - 1) = ((i - 1 : Nat) : Int) := w_pred i 1 h1 (by omega)
    rw [e1, if_pos (by omega), if_pos (by omega), rd_prev w i 1 h1]
    by_cases h61 : prevS w i 1 = 61
    · rw [if_pos h61]
      unfold inS
      simp [h61]
    · rw [if_neg h61]
      by_cases h2 : 2 ≤ i
      · rw [if_pos (by omega)]
        have := hin2 h2
        rw [e1, rd_prev w i 1 h1] at this
        rw [this]
        unfold inS
        by_cases g : prevS w i 2 = 61
        · rw [if_pos g]
          congr 1
          by_cases hx : prevS w i 1 = 13 <;> simp [g, h61, hx]
        · rw [if_neg g]
          congr 1
          simp [g, h61]
      · rw [if_neg (by omega)]
        unfold inS
        rw [b2 (by omega)]
        simp [h61]
  · rw [if_neg (by omega), if_neg (by omega)]
    unfold inS
    rw [b1 (by omega), b2 (by omega)]
    simp
theorem kind_range (a : List Int) (i : Nat) (h : a.length ≠ 0) : 0 ≤ Int.tmod (i : Int) (a.length : Int) ∧ Int.tmod (i : Int) (a.length : Int) < (a.length : Int) := by
  rw [Int.tmod_eq_emod_of_nonneg (by omega)]
  exact ⟨Int.emod_nonneg _ (by omega), Int.emod_lt_of_pos _ (by omega)⟩
theorem soft_kind (l0 a w c : List Int) (i k : Nat) (hi : i < w.length) (t : Bool) : winklelaw11_QuotedSoft.j1 (k + 1) l0 a w c (i : Int) t = winklelaw11_QuotedSoft.j2 k l0 a w c (i : Int) t (decide (kindS a i = 1) && !t && decide (rd w (i : Int) > 32)) := by
  simp only [winklelaw11_QuotedSoft.j1]
  by_cases h0 : a.length = 0
  · rw [if_neg (by omega)]
    unfold kindS
    rw [if_pos h0]
    simp
  · obtain ⟨g1, g2⟩ := kind_range a i h0
    rw [if_pos (by omega), if_neg (by omega), if_pos g1, if_pos g2]
    unfold kindS
    rw [if_neg h0]
    by_cases h1 : Int.tmod (rd a (Int.tmod (i : Int) (a.length : Int))) 3 = 1
    · rw [if_pos h1]
      cases t with
      | true => simp
      | false =>
        rw [if_neg (by simp), if_pos (by omega), if_pos (by omega)]
        simp [h1]
    · rw [if_neg h1]
      simp [h1]
theorem soft_put (l0 a w c : List Int) (i k : Nat) (hi : i < w.length) (hl : w.length ≤ 1048576 * 1048576) (hc : c.length ≤ 1048576 * 1048576) : winklelaw11_QuotedSoft.j2 (k + 1) l0 a w c (i : Int) (inS w i) (decide (kindS a i = 1) && !(inS w i) && decide (rd w (i : Int) > 32)) = winklelaw11_QuotedSoft.l0 k l0 a w (c ++ insG (kindS a i) (prevS w i 2) (prevS w i 1) (rd w (i : Int)) ++ [rd w (i : Int)]) ((i + 1 : Nat) : Int) := by
  simp only [winklelaw11_QuotedSoft.j2, w_succ i (by omega)]
  have hins : insG (kindS a i) (prevS w i 2) (prevS w i 1) (rd w (i : Int)) = if inS w i = true then [] else if rd w (i : Int) > 32 then (if kindS a i = 1 then [61, 13, 10] else if kindS a i = 2 then [61, 10] else []) else [] := by
    unfold insG inS
    simp
  rw [hins]
  have p0 : (0 : Int) ≤ (i : Int) := by omega
  have p1 : (i : Int) < (w.length : Int) := by omega
  simp only [if_pos p0, if_pos p1, Option.bind_some]
  have f1 : c.length < 140737488355328 := by omega
  have f2 : c.length + 2 < 140737488355328 := by omega
  have f3 : c.length + 3 < 140737488355328 := by omega
  generalize rd w (i : Int) = b
  by_cases h0 : a.length = 0
  · have hk : kindS a i = 0 := by unfold kindS; rw [if_pos h0]
    have hgt : ¬ (a.length : Int) > 0 := by omega
    simp only [hk, if_neg hgt]
    cases inS w i <;> by_cases g32 : b > 32 <;> simp [g32, f1]
  · obtain ⟨g1, g2⟩ := kind_range a i h0
    have hgt : (a.length : Int) > 0 := by omega
    have hne : ¬ (a.length : Int) = 0 := by omega
    have e : Int.tmod (rd a (Int.tmod (i : Int) (a.length : Int))) 3 = kindS a i := by unfold kindS; rw [if_neg h0]
    simp only [if_pos hgt, if_neg hne, if_pos g1, if_pos g2, e]
    generalize kindS a i = K
    generalize inS w i = I
    by_cases k1 : K = 1
    · subst k1
      cases I <;> by_cases g32 : b > 32 <;> simp [g32, f1, f2, f3]
    · by_cases k2 : K = 2
      · subst k2
        cases I <;> by_cases g32 : b > 32 <;> simp [g32, f1, f2, f3]
      · cases I <;> by_cases g32 : b > 32 <;> simp [g32, f1, f2, f3, k1, k2]
theorem getD_drop (w : List Int) (i d : Nat) (hd : 1 ≤ d) : prevS w (i + 1) (d + 1) = prevS w i d ∧ prevS w (i + 1) 1 = w.getD i 0 := by
  unfold prevS
  constructor
  · by_cases h : d ≤ i
    · rw [if_pos (by omega), if_pos h, show i + 1 - (d + 1) = i - d by omega]
    · rw [if_neg (by omega), if_neg h]
  · rw [if_pos (by omega), Nat.add_sub_cancel]
theorem softG_len (f : Nat → Int) : ∀ (x : List Int) (p2 p1 : Int) (i : Nat), x.length ≤ (softG f p2 p1 i x).length := by
  intro x
  induction x with
  | nil => intro _ _ _; simp [softG]
  | cons b r ih =>
    intro p2 p1 i
    have := ih p1 b (i + 1)
    simp only [softG, List.length_append, List.length_cons]
    omega
theorem soft_loop (l0 a w C : List Int) (hl : w.length ≤ 1048576 * 1024) (hl0 : l0.length ≤ 1048576 * 1024) (hC : C.length ≤ 1048576 * 1024) (hw : quoted_Whole.f C = some (l0, 0, (C.length : Int))) (j : Nat) : ∀ (i k : Nat) (c : List Int), w.length - i ≤ j → i ≤ w.length → 3 * j + l0.length + 3 ≤ k → c ++ softG (kindS a) (prevS w i 2) (prevS w i 1) i (w.drop i) = C → winklelaw11_QuotedSoft.l0 k l0 a w c (i : Int) = some true := by
  induction j with
  | zero =>
    intro i k c h1 h2 h3 h4
    obtain ⟨k, rfl⟩ : ∃ k', k = k' + 1 := ⟨k - 1, by omega⟩
    rw [List.drop_of_length_le (by omega)] at h4
    simp only [softG, List.append_nil] at h4
    subst h4
    simp only [winklelaw11_QuotedSoft.l0]
    obtain ⟨r, hr⟩ : ∃ r, k = l0.length + 1 + r := ⟨k - (l0.length + 1), by omega⟩
    rw [if_neg (by omega), hw, hr]
    simp only [Option.bind_some, if_true, same_f l0 (by omega), awake_f]
  | succ j ih =>
    intro i k c h1 h2 h3 h4
    match hd : w.drop i with
    | [] =>
      have : w.length ≤ i := List.drop_eq_nil_iff.1 hd
      exact ih i k c (by omega) h2 (by omega) h4
    | b :: r =>
      obtain ⟨hlt, hb, hr⟩ := rd_drop hd
      obtain ⟨k, rfl⟩ : ∃ k', k = k' + 1 + 1 + 1 := ⟨k - 3, by omega⟩
      have hcl : c.length ≤ C.length := by rw [← h4]; simp
      rw [soft_in l0 a w c i (k + 1 + 1) hlt (by omega), soft_kind l0 a w c i (k + 1) hlt, soft_put l0 a w c i k hlt (by omega) (by omega)]
      refine ih (i + 1) k _ (by omega) (by omega) (by omega) ?_
      rw [hr, (getD_drop w i 1 (Nat.le_refl _)).1, (getD_drop w i 1 (Nat.le_refl _)).2, ← h4, hd]
      have hbd : w.getD i 0 = b := by
        have : rd w (i : Int) = w.getD i 0 := by simp [rd, List.getD]
        rw [← this]; exact hb
      rw [hbd, hb]
      simp only [softG]
      simp
theorem QuotedSoft (l0 : List Int) (l1 : List Int) (hm : l0.length ≤ maxLen) (y0 : l0.length ≤ 1048576) (hw : ∀ x ∈ l0, (Lit.int .u8 x).wf = true) (hm1 : l1.length ≤ maxLen) (y1 : l1.length ≤ 1048576) (hw1 : ∀ x ∈ l1, (Lit.int .u8 x).wf = true) : ∃ k, winklelaw11_QuotedSoft.f k l0 l1 = some true := by
  have hb := byt_of hw
  have hwf := write_f l0 76 (by omega) hb
  rw [if_neg (by omega), writeS_outW _ _ l0 (Nat.le_refl _), List.nil_append] at hwf
  obtain ⟨h1, h2⟩ := outW_facts 76 l0.length l0 (Nat.le_refl _) hb 0
  obtain ⟨hi', hr⟩ := soft_out (kindS l1) 76 l0.length l0 (Nat.le_refl _) hb 0 0 [] [] 0 0 0 (by simp) ⟨by omega, by omega⟩ (by simp)
  generalize outW 76 l0 0 = R at hwf h1 h2 hr
  obtain ⟨h3, h4⟩ := softG_facts (kindS l1) R 0 0 0 h1
  have h5 := hr.end_ 0
  generalize hC : softG (kindS l1) 0 0 0 R = C at hr h3 h4 h5
  have h6 : quoted_Whole.f C = some (l0, 0, (C.length : Int)) := by
    rw [whole_f C (by omega) h3, h5]
    simp [endS]
  refine ⟨3 * R.length + l0.length + 3, ?_⟩
  unfold winklelaw11_QuotedSoft.f
  rw [hwf]
  simp only [Option.bind_some]
  have p1 : prevS R 0 1 = 0 := by unfold prevS; rw [if_neg (by omega)]
  have p2 : prevS R 0 2 = 0 := by unfold prevS; rw [if_neg (by omega)]
  exact soft_loop l0 l1 R C (by omega) (by omega) (by omega) h6 R.length 0 _ [] (by omega) (by omega) (Nat.le_refl _) (by rw [p1, p2, List.drop_zero, List.nil_append]; exact hC)
end Go.Proofs.Ytemdlahghbbkoaa.Pure
