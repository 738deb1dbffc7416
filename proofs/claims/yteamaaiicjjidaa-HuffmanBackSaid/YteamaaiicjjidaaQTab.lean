/- The document's table in memory: a block that holds a row of rows of bits. -/
import Derived.Test.YteamaaiicjjidaaNew
namespace Go.Proofs.Yteamaaiicjjidaa.PAll
open Go.RowKit Go.Proofs.Yteamaaiicjjidaa.Huf Go.Proofs.YteamaaiicjjidaaW.PrintWords Go.Proofs.YteamaaiicjjidaaW.PrintLast Go.Proofs.YteamaaiicjjidaaW.PrintMore
set_option linter.unusedVariables false
set_option linter.unusedSimpArgs false
/-- a block of bits. -/
def BB (W : World) (b : Nat) (L : List Bool) : Prop := W.heap[b]? = some (.cells (encs Value.bool L).toArray 4 (0, 0))
section
variable {W W' : World} {b : Nat} {L : List Bool}
theorem bb_below (h : BB W b L) (hb : Below W.heap.size W W') : BB W' b L := blk_below h hb
theorem bb_set (h : BB W b L) (i : Nat) (x : Bool) : BB (W.setCell ⟨b, i, none⟩ (.bool x)) b (L.set i x) := by
  unfold BB
  rw [blk_set h i _]
  simp [encs, List.map_set]
theorem bb_c (h : BB W b L) {i : Nat} (hi : i < L.length) : W.cell? ⟨b, i, none⟩ = some (.bool L[i]) := by
  rw [blk_cell h]; simp [encs, hi]
theorem bb_f (h : BB W b L) (i : Nat) : W.frozen? ⟨b, i, none⟩ = false := blk_frozen h i
theorem bb_far (h : BB W b L) {p : Addr} (hne : b ≠ p.block) (u : Value) : BB (W.setCell p u) b L := blk_far h hne u
theorem bb_C (h : BB W b L) (hl : L.length ≤ 9223372036854775807) : Kd.C Kd.bool W (some ⟨b, 0, none⟩) L.length L := by
  have HO := own_lit_of (enc := Value.bool) W 0 4 L (Nat.zero_le _) hl
  refine Kd.C_of_reads (enc := Value.bool) (d := false) (h1 := fun _ => rfl) ⟨rfl, hl, fun h0 => ⟨⟨b, 0, none⟩, rfl, fun i hi => ?_⟩⟩
  have hi' : i < L.length := hi
  have := bb_c h hi'
  have e : (⟨b, 0, none⟩ : Addr).add i = ⟨b, i, none⟩ := by rw [Addr.add_mid, Nat.zero_add]
  rw [e, this]
  simp [rdOf, List.getD, hi']
end
/-- place s of a row of rows holds the bits L. -/
def RowAt (W : World) (sl : List Value) (s : Nat) (L : List Bool) : Prop :=
  (L = [] ∧ sl[s]? = some (.slice none 0 0)) ∨ ∃ b, sl[s]? = some (.slice (some ⟨b, 0, none⟩) L.length L.length) ∧ BB W b L
/-- a row of n rows of bits. -/
def QS (W : World) (cb n : Nat) (P : Nat → List Bool) : Prop := ∃ sl : List Value, W.heap[cb]? = some (.cells sl.toArray 45 (0, 0)) ∧ sl.length = n ∧ ∀ s, s < n → RowAt W sl s (P s)
section
variable {W W' : World} {cb n : Nat} {P Q : Nat → List Bool}
theorem rowAt_step {sl : List Value} {s : Nat} {L : List Bool} (h : RowAt W sl s L) (hs : ∀ (b : Nat) (o : Array Value), W.heap[b]? = some (.cells o 4 (0, 0)) → W'.heap[b]? = some (.cells o 4 (0, 0))) : RowAt W' sl s L := by
  rcases h with h | ⟨b, h1, h2⟩
  · exact .inl h
  · exact .inr ⟨b, h1, hs b _ h2⟩
theorem qs_below (h : QS W cb n P) (hb : Below W.heap.size W W') : QS W' cb n P := by
  obtain ⟨sl, h1, h2, h3⟩ := h
  exact ⟨sl, blk_below h1 hb, h2, fun s hs => rowAt_step (h3 s hs) (fun b o ho => blk_below ho hb)⟩
theorem qs_congr (h : QS W cb n P) (he : ∀ s, s < n → P s = Q s) : QS W cb n Q := by
  obtain ⟨sl, h1, h2, h3⟩ := h
  exact ⟨sl, h1, h2, fun s hs => by rw [← he s hs]; exact h3 s hs⟩
theorem qs_set (h : QS W cb n P) {i b : Nat} (hi : i < n) {L : List Bool} (hB : BB W b L) : QS (W.setCell ⟨cb, i, none⟩ (.slice (some ⟨b, 0, none⟩) L.length L.length)) cb n (fun s => if s = i then L else P s) := by
  obtain ⟨sl, h1, h2, h3⟩ := h
  have hst : ∀ (b' : Nat) (o : Array Value), W.heap[b']? = some (.cells o 4 (0, 0)) → (W.setCell ⟨cb, i, none⟩ (.slice (some ⟨b, 0, none⟩) L.length L.length)).heap[b']? = some (.cells o 4 (0, 0)) := fun b' o ho => blk_far ho (blk_ne ho h1 (by decide)) _
  refine ⟨sl.set i (.slice (some ⟨b, 0, none⟩) L.length L.length), ?_, by rw [List.length_set]; exact h2, fun s hs => ?_⟩
  · rw [blk_set h1 i _]; simp
  · by_cases e : s = i
    · subst e
      show RowAt _ _ s (if s = s then L else P s)
      rw [if_pos rfl]
      exact .inr ⟨b, by rw [List.getElem?_set_self (by omega)], hst b _ hB⟩
    · show RowAt _ _ s (if s = i then L else P s)
      rw [if_neg e]
      rcases rowAt_step (h3 s hs) hst with ⟨r1, r2⟩ | ⟨b', r1, r2⟩
      · exact .inl ⟨r1, by rw [List.getElem?_set_ne (Ne.symm e)]; exact r2⟩
      · exact .inr ⟨b', by rw [List.getElem?_set_ne (Ne.symm e)]; exact r1, r2⟩
theorem qs_c (h : QS W cb n P) {s : Nat} (hs : s < n) : ∃ A, W.cell? ⟨cb, s, none⟩ = some (.slice A (P s).length (P s).length) ∧ ((P s).length ≤ 9223372036854775807 → Kd.C Kd.bool W A (P s).length (P s)) := by
  obtain ⟨sl, h1, h2, h3⟩ := h
  rcases h3 s hs with ⟨r1, r2⟩ | ⟨b, r1, r2⟩
  · refine ⟨none, ?_, fun _ => ?_⟩
    · rw [blk_cell h1, List.getElem?_toArray, r2, r1]; rfl
    · rw [r1]; exact Kd.C_nil _ _
  · exact ⟨some ⟨b, 0, none⟩, by rw [blk_cell h1, List.getElem?_toArray, r1], fun hl => bb_C r2 hl⟩
theorem qs_cell (h : QS W cb n P) {s : Nat} (hs : s < n) : ∃ v, W.cell? ⟨cb, s, none⟩ = some v := by
  obtain ⟨A, h1, _⟩ := qs_c h hs; exact ⟨_, h1⟩
theorem qs_f (h : QS W cb n P) (i : Nat) : W.frozen? ⟨cb, i, none⟩ = false := by
  obtain ⟨sl, h1, _⟩ := h; exact blk_frozen h1 i
end
/-- the document's table. -/
structure QT (W : World) (g cb : Nat) (l : List Int) : Prop where
  tb : W.heap[g]? = some (.cells #[.slice (some ⟨cb, 0, none⟩) l.length l.length] 67 (0, 0))
  rows : QS W cb l.length (code l)
theorem qt_below {W W' : World} {g cb : Nat} {l : List Int} (h : QT W g cb l) (hb : Below W.heap.size W W') : QT W' g cb l := ⟨blk_below h.tb hb, qs_below h.rows hb⟩
theorem qt_c {W : World} {g cb : Nat} {l : List Int} (h : QT W g cb l) : W.cell? ⟨g, 0, none⟩ = some (.slice (some ⟨cb, 0, none⟩) l.length l.length) := (blk_cell h.tb 0).trans rfl
/-- the codes that are made when length n is at symbol j. -/
def pc (l : List Int) (n j s : Nat) : List Bool := if 0 < ln l s ∧ (ln l s < n ∨ (ln l s = n ∧ s < j)) then code l s else []
theorem pc_start (l : List Int) (s : Nat) : pc l 1 0 s = [] := by unfold pc; rw [if_neg (by omega)]
theorem pc_next (l : List Int) (n s : Nat) (hs : s < l.length) : pc l n l.length s = pc l (n + 1) 0 s := by
  unfold pc
  by_cases h : 0 < ln l s ∧ (ln l s < n ∨ (ln l s = n ∧ s < l.length))
  · rw [if_pos h, if_pos (by omega)]
  · rw [if_neg h, if_neg (by omega)]
theorem pc_end {l : List Int} (hO : Ok l) (s : Nat) (hs : s < l.length) : pc l 16 0 s = code l s := by
  have h1 := ok_at hO hs
  have h2 := ln_of hs
  unfold pc
  by_cases h : 0 < ln l s
  · rw [if_pos (by omega)]
  · rw [if_neg (by omega), code_no (by simp [List.getD, hs]; omega)]
theorem pc_skip {l : List Int} {n j : Nat} (h : ln l j ≠ n) (s : Nat) : pc l n j s = pc l n (j + 1) s := by
  unfold pc
  by_cases e : s = j
  · subst e
    by_cases hc : 0 < ln l s ∧ (ln l s < n ∨ (ln l s = n ∧ s < s))
    · rw [if_pos hc, if_pos (by omega)]
    · rw [if_neg hc, if_neg (by omega)]
  · by_cases hc : 0 < ln l s ∧ (ln l s < n ∨ (ln l s = n ∧ s < j))
    · rw [if_pos hc, if_pos (by omega)]
    · rw [if_neg hc, if_neg (by omega)]
theorem pc_put {l : List Int} {n j : Nat} (h : ln l j = n) (h0 : 0 < n) (s : Nat) : (if s = j then code l j else pc l n j s) = pc l n (j + 1) s := by
  by_cases e : s = j
  · subst e; rw [if_pos rfl]; unfold pc; rw [if_pos (by omega)]
  · rw [if_neg e]; unfold pc
    by_cases hc : 0 < ln l s ∧ (ln l s < n ∨ (ln l s = n ∧ s < j))
    · rw [if_pos hc, if_pos (by omega)]
    · rw [if_neg hc, if_neg (by omega)]
theorem bts_get : ∀ (n x j : Nat), j < n → (bts n x)[j]? = some (x / 2 ^ (n - 1 - j) % 2 == 1)
  | 0, _, _, h => by omega
  | n + 1, x, j, h => by
    rw [bts]
    by_cases hj : j < n
    · rw [List.getElem?_append_left (by rw [bts_len]; exact hj), bts_get n (x / 2) j hj]
      congr 2
      rw [Nat.div_div_eq_div_mul, show n + 1 - 1 - j = (n - 1 - j) + 1 by omega, Nat.pow_succ', Nat.mul_comm]
    · obtain rfl : j = n := by omega
      rw [List.getElem?_append_right (by rw [bts_len]; omega), bts_len]
      simp
/-- bits written from the last one on, down to place k. -/
def Dn (L : List Bool) (n x k : Nat) : Prop := L.length = n ∧ ∀ j, k ≤ j → j < n → L[j]? = (bts n x)[j]?
theorem dn_start (n x : Nat) : Dn (List.replicate n false) n x n := ⟨by simp, fun j h1 h2 => by omega⟩
theorem dn_set {L : List Bool} {n x k : Nat} (h : Dn L n x (k + 1)) (hk : k < n) : Dn (L.set k (x / 2 ^ (n - 1 - k) % 2 == 1)) n x k := by
  refine ⟨by rw [List.length_set]; exact h.1, fun j h1 h2 => ?_⟩
  by_cases e : k = j
  · subst e; rw [List.getElem?_set_self (by rw [h.1]; exact hk), bts_get n x k hk]
  · rw [List.getElem?_set_ne e]; exact h.2 j (by omega) h2
theorem dn_end {L : List Bool} {n x : Nat} (h : Dn L n x 0) : L = bts n x := by
  apply List.ext_getElem?
  intro j
  by_cases hj : j < n
  · exact h.2 j (Nat.zero_le _) hj
  · rw [List.getElem?_eq_none (by rw [h.1]; omega), List.getElem?_eq_none (by rw [bts_len]; omega)]
end Go.Proofs.Yteamaaiicjjidaa.PAll
