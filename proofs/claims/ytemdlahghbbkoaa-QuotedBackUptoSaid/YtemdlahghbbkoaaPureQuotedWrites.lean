/- QuotedWrites: the plain law. -/
import Derived.Test.YtemdlahghbbkoaaPAllx6
import Derived.Test.YtemdlahghbbkoaaQth
namespace Go.Proofs.Ytemdlahghbbkoaa.Pure
open Go.RowKit Go.Proofs.Ytemdlahghbbkoaa.PAll Go.Proofs.Ytemdlahghbbkoaa.Qth Go.Proofs.YtemdlahghbbkoaaW.PrintWords Go.Proofs.YtemdlahghbbkoaaW.PrintLast
set_option linter.unusedVariables false
set_option linter.unusedSimpArgs false
theorem awake_f : winklelaw11_awake.f = some true := by decide +kernel
theorem byt_of {l : List Int} (h : ∀ x ∈ l, (Lit.int .u8 x).wf = true) : Byt l := fun b hb => by
  simpa [Lit.wf, IntKind.min, IntKind.max, IntKind.signed, IntKind.bits] using h b hb
theorem same_l (l : List Int) (hm : l.length ≤ 9223372036854775806) : ∀ (j i r : Nat), i + j = l.length → winkleref03_Same.l0 (j + 1 + r) l l (i : Int) = some true := by
  intro j
  induction j with
  | zero =>
    intro i r h
    rw [Nat.zero_add, Nat.add_comm]
    simp only [winkleref03_Same.l0]
    rw [if_neg (by omega)]
  | succ j ih =>
    intro i r h
    rw [show j + 1 + 1 + r = (j + 1 + r) + 1 by omega]
    simp only [winkleref03_Same.l0]
    have hw : wrap64 ((i : Int) + 1) = ((i + 1 : Nat) : Int) := by unfold wrap64; omega
    rw [if_pos (by omega), if_pos (by omega), if_pos (by omega), if_pos trivial, hw]
    exact ih (i + 1) r (by omega)
theorem same_f (l : List Int) (hm : l.length ≤ 9223372036854775806) (r : Nat) : winkleref03_Same.f (l.length + 1 + r) l l = some true := by
  unfold winkleref03_Same.f
  rw [if_pos rfl]
  exact same_l l hm l.length 0 r (by omega)
theorem rd_drop {l : List Int} {i : Nat} {b : Int} {r : List Int} (h : l.drop i = b :: r) : i < l.length ∧ rd l (i : Int) = b ∧ l.drop (i + 1) = r := by
  have h1 : i < l.length := by
    rcases Nat.lt_or_ge i l.length with h1 | h1
    · exact h1
    · rw [List.drop_of_length_le h1] at h; cases h
  rw [List.drop_eq_getElem_cons h1] at h
  injection h with h2 h3
  refine ⟨h1, ?_, h3⟩
  simp [rd, h1, h2]
def brk : List Int → Int
  | 10 :: _ => 1
  | 13 :: 10 :: _ => 2
  | _ => 0
theorem brk_starts (l : List Int) : (brk l = 2) = (startsL l = true) ∧ (brk l == 2) = startsL l := by
  unfold brk startsL
  split
  · simp
  · simp
  · rename_i h1 h2
    split
    · exact absurd rfl (h2 _)
    · simp
theorem w_succ (i : Nat) (h : i ≤ 1048576 * 1048576) : wrap64 ((i : Int) + 1) = ((i + 1 : Nat) : Int) := by unfold wrap64; omega
theorem w_one (n : Int) (h : 0 ≤ n ∧ n ≤ 1048576) : wrap64 (n + 1) = n + 1 := by unfold wrap64; omega
theorem w_sub (wd : Int) (h : 4 ≤ wd ∧ wd ≤ 76) : wrap64 (wd - 1) = wd - 1 := by unfold wrap64; omega
theorem w_add (n : Int) (m : Nat) (h0 : 0 ≤ n) (h1 : n ≤ 80) (h2 : m ≤ 3) : wrap64 (n + (m : Int)) = n + (m : Int) := by unfold wrap64; omega
theorem breaks_f (l : List Int) (hm : l.length ≤ 1048576 * 1024) (i k : Nat) (hi : i ≤ 1048576 * 1048576) : winkleref11_breaks.f (k + 1) l (i : Int) = some (brk (l.drop i)) := by
  unfold winkleref11_breaks.f
  match hd : l.drop i with
  | [] =>
    have : l.length ≤ i := List.drop_eq_nil_iff.1 hd
    rw [if_neg (by omega)]
    simp only [winkleref11_breaks.j0]
    rw [if_neg (by simp), w_succ i hi, if_neg (by omega)]
    rfl
  | b :: r =>
    obtain ⟨hlt, hb, hr⟩ := rd_drop hd
    rw [if_pos (by omega), if_pos (by omega), hb]
    simp only [winkleref11_breaks.j0]
    by_cases h10 : b = 10
    · subst h10
      simp [brk]
    · rw [if_neg (by simp [h10]), w_succ i hi]
      match r, hr with
      | [], hr =>
        have : l.length ≤ i + 1 := List.drop_eq_nil_iff.1 hr
        rw [if_neg (by omega)]
        simp [brk, h10]
      | c :: r2, hr =>
        obtain ⟨hlt2, hc, hr2⟩ := rd_drop hr
        rw [if_pos (by omega), if_pos (by omega), if_pos (by omega), hb, hc]
        by_cases h13 : b = 13
        · subst h13
          rw [if_pos rfl, if_pos (by omega)]
          by_cases hc10 : c = 10
          · subst hc10; simp [brk]
          · rw [if_neg hc10]; simp [brk, hc10]
        · rw [if_neg h13]
          simp [brk, h10, h13]
theorem rd_byt {l : List Int} {i : Nat} {b : Int} {r : List Int} (hb : Byt l) (h : l.drop i = b :: r) : 0 ≤ b ∧ b ≤ 255 := hb b (List.mem_of_mem_drop (by rw [h]; simp))
theorem w_if {α : Type} (wd n : Int) (hw : 4 ≤ wd ∧ wd ≤ 76) (h0 : 0 ≤ n) (h1 : n ≤ 80) (m : Nat) (hm : m ≤ 3) {X Y : α} : (if wrap64 (n + (m : Int)) > wrap64 (wd - 1) then X else Y) = (if wd ≤ n + (m : Int) then X else Y) := by
  rw [w_add n m h0 h1 hm, w_sub wd hw]
  by_cases h : wd ≤ n + (m : Int)
  · rw [if_pos h, if_pos (by omega)]
  · rw [if_neg h, if_neg (by omega)]
set_option maxHeartbeats 2000000 in
theorem ref_loop (l : List Int) (wd : Int) (hl : l.length ≤ 1048576 * 1024) (hb : Byt l) (hw : 4 ≤ wd ∧ wd ≤ 76) (j : Nat) : ∀ (i k : Nat) (n : Int) (o : List Int), l.length - i ≤ j → i ≤ l.length → j + 2 ≤ k → 0 ≤ n → n ≤ 80 → o.length + 6 * (l.length - i) ≤ 1048576 * 1048576 → winkleref11_Write.l0 k l wd o n (i : Int) = some (writeS wd (l.drop i) n o) := by
  induction j with
  | zero =>
    intro i k n o h1 h2 h3 hn0 hn1 ho
    obtain ⟨k, rfl⟩ : ∃ k', k = k' + 1 := ⟨k - 1, by omega⟩
    simp only [winkleref11_Write.l0]
    rw [if_neg (by omega), List.drop_of_length_le (by omega)]
    rfl
  | succ j ih =>
    intro i k n o h1 h2 h3 hn0 hn1 ho
    obtain ⟨k, rfl⟩ : ∃ k', k = k' + 2 := ⟨k - 2, by omega⟩
    match hd : l.drop i with
    | [] =>
      have : l.length ≤ i := List.drop_eq_nil_iff.1 hd
      simp only [winkleref11_Write.l0]
      rw [if_neg (by omega)]
      rfl
    | b :: r =>
      obtain ⟨hlt, hbb, hr⟩ := rd_drop hd
      have hbr := rd_byt hb hd
      simp only [winkleref11_Write.l0]
      rw [if_pos (by omega), breaks_f l hl i k (by omega), hd]
      simp only [Option.bind_some, (brk_starts _).1]
      cases hs : startsL (b :: r) with
      | true =>
        obtain ⟨r2, hr2⟩ := startsL_inv hs
        injection hr2 with e1 e2
        subst e1; subst e2
        rw [if_pos rfl, if_pos (by simp; omega), w_succ i (by omega), w_succ (i + 1) (by omega), writeS_starts]
        obtain ⟨hlt2, _, hr3⟩ := rd_drop hr
        have := ih (i + 2) (k + 1) 0 (o ++ [13, 10]) (by omega) (by omega) (by omega) (by omega) (by omega) (by simp; omega)
        rw [show i + 2 = i + 1 + 1 by omega, hr3] at this
        exact this
      | false =>
        rw [if_neg (by simp), if_pos (by omega), w_succ i (by omega), hbb, writeS_other _ _ _ _ _ hs]
        have hpf : ∀ lst : Bool, winkleref11_piece.f b lst = some (pieceL b lst) := fun lst => by unfold winkleref11_piece.f; rw [if_pos hbr]
        have step : ∀ lst : Bool, lst = (r.isEmpty || startsL r) → (if (wrap64 (n + ((pieceL b lst).length : Int))) > (wrap64 (wd - 1)) then ((some (([61, 13, 10] : List Int) : List Int)).bind fun y214 => (if o.length + y214.length < 140737488355328 then ((some (o ++ y214 : List Int)).bind fun y217 => (if y217.length + (pieceL b lst).length < 140737488355328 then (winkleref11_Write.l0 (k + 1) l wd (y217 ++ (pieceL b lst)) (wrap64 (0 + ((pieceL b lst).length : Int))) ((i + 1 : Nat) : Int)) else (none))) else (none))) else (if o.length + (pieceL b lst).length < 140737488355328 then (winkleref11_Write.l0 (k + 1) l wd (o ++ (pieceL b lst)) (wrap64 (n + ((pieceL b lst).length : Int))) ((i + 1 : Nat) : Int)) else (none))) = some (writeS wd r (stepW wd n (pieceL b (r.isEmpty || startsL r))).1 (o ++ (stepW wd n (pieceL b (r.isEmpty || startsL r))).2)) := by
          intro lst hlst2
          have h5 := pieceL_len b lst
          rw [← hlst2, w_if wd n hw hn0 hn1 _ h5.2, ← hr, w_add 0 _ (by omega) (by omega) h5.2, w_add n _ hn0 hn1 h5.2, Int.zero_add]
          generalize pieceL b lst = P at h5 ⊢
          by_cases hge : wd ≤ n + (P.length : Int)
          · rw [if_pos hge]
            simp only [Option.bind_some]
            rw [if_pos (by simp; omega), if_pos (by simp; omega), ih (i + 1) (k + 1) _ _ (by omega) (by omega) (by omega) (by omega) (by omega) (by simp; omega)]
            unfold stepW
            rw [if_pos hge]
            simp
          · rw [if_neg hge, if_pos (by omega), ih (i + 1) (k + 1) _ _ (by omega) (by omega) (by omega) (by omega) (by omega) (by simp; omega)]
            unfold stepW
            rw [if_neg hge]
        by_cases hlast : ((i + 1 : Nat) : Int) = (l.length : Int)
        · rw [if_pos hlast, hpf]
          have hr0 : r = [] := by rw [← hr]; exact List.drop_of_length_le (by omega)
          exact step true (by rw [hr0]; rfl)
        · rw [if_neg hlast, breaks_f l hl (i + 1) k (by omega), hr]
          simp only [Option.bind_some, (brk_starts _).2, hpf]
          have hr0 : r.isEmpty = false := by
            cases r with
            | nil =>
              have := List.drop_eq_nil_iff.1 hr
              omega
            | cons x r => rfl
          exact step (startsL r) (by rw [hr0]; rfl)
theorem ref_f (l : List Int) (a1 : Int) (hl : l.length ≤ 1048576 * 1024) (hb : Byt l) (r : Nat) : winkleref11_Write.f (l.length + 4 + r) l a1 = some (writeS (if a1 < 4 ∨ a1 > 76 then 76 else a1) l 0 []) := by
  have key : ∀ wd : Int, 4 ≤ wd → wd ≤ 76 → winkleref11_Write.l0 (l.length + 2 + r) l wd [] 0 0 = some (writeS wd l 0 []) := fun wd h1 h2 => ref_loop l wd hl hb ⟨h1, h2⟩ l.length 0 _ 0 [] (by omega) (by omega) (by omega) (by omega) (by omega) (by simp; omega)
  rw [show l.length + 4 + r = (l.length + 2 + r) + 1 + 1 by omega]
  unfold winkleref11_Write.f
  by_cases h1 : a1 < 4
  · rw [if_pos h1, if_pos (.inl h1)]
    simp only [winkleref11_Write.j0, if_true, winkleref11_Write.j1]
    exact key 76 (by omega) (by omega)
  · rw [if_neg h1]
    simp only [winkleref11_Write.j0]
    by_cases h2 : a1 > 76
    · rw [if_pos (decide_eq_true h2), if_pos (.inr h2)]
      simp only [winkleref11_Write.j1]
      exact key 76 (by omega) (by omega)
    · rw [if_neg (by simp; omega), if_neg (by omega)]
      simp only [winkleref11_Write.j1]
      exact key a1 (by omega) (by omega)
theorem write_f (l : List Int) (a1 : Int) (hl : l.length ≤ 1048576 * 1024) (hb : Byt l) : quoted_Write.f l a1 = some (writeS (if a1 < 4 ∨ a1 > 76 then 76 else a1) l 0 []) := by
  unfold quoted_Write.f
  rw [if_pos ⟨by omega, byt_bytesB hb⟩]
theorem spoil_loop (l0 : List Int) (a1 : Int) (R : List Int) (hw : quoted_Write.f l0 a1 = some R) (hR : R.length ≤ 1048576 * 1048576) (j : Nat) : ∀ (i k : Nat) (x : List Int), x.length = R.length → i + j = R.length → R.length + j + 2 ≤ k → winklelaw11_QuotedWrites.l0 k l0 a1 x R (i : Int) = some true := by
  induction j with
  | zero =>
    intro i k x hx hi hk
    obtain ⟨k, rfl⟩ : ∃ k', k = k' + 1 := ⟨k - 1, by omega⟩
    simp only [winklelaw11_QuotedWrites.l0]
    obtain ⟨r, hr⟩ : ∃ r, k = R.length + 1 + r := ⟨k - (R.length + 1), by omega⟩
    rw [if_neg (by omega), hw, hr]
    simp only [Option.bind_some, same_f R (by omega), if_true, awake_f]
  | succ j ih =>
    intro i k x hx hi hk
    obtain ⟨k, rfl⟩ : ∃ k', k = k' + 1 := ⟨k - 1, by omega⟩
    simp only [winklelaw11_QuotedWrites.l0]
    rw [if_pos (by omega), if_pos (by omega), w_succ i (by omega)]
    exact ih (i + 1) k _ (by rw [List.length_set]; exact hx) (by omega) (by omega)
theorem QuotedWrites (l0 : List Int) (a1 : Int) (hm : l0.length ≤ maxLen) (y0 : l0.length ≤ 1048576) (hw : ∀ x ∈ l0, (Lit.int .u8 x).wf = true) (ha : (Lit.int .i64 a1).wf = true) : ∃ k, winklelaw11_QuotedWrites.f k l0 a1 = some true := by
  have hb := byt_of hw
  have hwf := write_f l0 a1 (by omega) hb
  obtain ⟨R, hR⟩ : ∃ R, writeS (if a1 < 4 ∨ a1 > 76 then 76 else a1) l0 0 [] = R := ⟨_, rfl⟩
  have hRl : R.length ≤ 1048576 * 1024 := by
    rw [← hR, writeS_outW _ _ l0 (Nat.le_refl _), List.nil_append]
    have := (outW_facts (if a1 < 4 ∨ a1 > 76 then 76 else a1) l0.length l0 (Nat.le_refl _) hb 0).2
    omega
  rw [hR] at hwf
  refine ⟨l0.length + 4 + (2 * R.length + 10), ?_⟩
  unfold winklelaw11_QuotedWrites.f
  simp only [Option.bind_some]
  rw [if_pos (by simp; omega), List.nil_append, hwf, ref_f l0 a1 (by omega) hb, hR]
  simp only [Option.bind_some]
  rw [show l0.length + 4 + (2 * R.length + 10) = R.length + 1 + (l0.length + R.length + 13) by omega, same_f R (by omega)]
  simp only [Option.bind_some, if_true]
  exact spoil_loop l0 a1 R hwf (by omega) R.length 0 _ R rfl (by omega) (by omega)
end Go.Proofs.Ytemdlahghbbkoaa.Pure
