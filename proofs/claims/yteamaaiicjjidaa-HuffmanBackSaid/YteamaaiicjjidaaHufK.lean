/- Plain: what both Kraft functions come to. -/
import Derived.Test.YteamaaiicjjidaaPAllx1
import Derived.Test.YteamaaiicjjidaaHufM
namespace Go.Proofs.Yteamaaiicjjidaa.PAll
open Go.RowKit Go.Proofs.Yteamaaiicjjidaa.Huf Go.Proofs.YteamaaiicjjidaaW.PrintWords Go.Proofs.YteamaaiicjjidaaW.PrintLast Go.Proofs.YteamaaiicjjidaaW.PrintMore
set_option linter.unusedVariables false
theorem kr_append (l m : List Int) : kr (l ++ m) = kr l + kr m := by
  induction l with
  | nil => simp [kr]
  | cons x l ih => simp only [List.cons_append, kr, ih]; omega
theorem kr_le (l : List Int) : kr l ≤ 32768 * l.length := by
  induction l with
  | nil => simp [kr]
  | cons x l ih =>
    simp only [kr, List.length_cons]
    have : 2 ^ (15 - x.toNat) ≤ 2 ^ 15 := Nat.pow_le_pow_right (by omega) (by omega)
    have e : (2 : Nat) ^ 15 = 32768 := by decide
    split <;> omega
theorem kr_take (l : List Int) {i : Nat} (h : i < l.length) : kr (l.take (i + 1)) = kr (l.take i) + if 0 < l[i] then 2 ^ (15 - (l[i]).toNat) else 0 := by
  rw [List.take_succ_eq_append_getElem h, kr_append]
  simp [kr]
theorem kr_take_le (l : List Int) (i : Nat) : kr (l.take i) ≤ 32768 * l.length := by
  have := kr_le (l.take i)
  have h2 : (l.take i).length ≤ l.length := List.length_take_le' _ _
  omega
theorem rd_at {l : List Int} {i : Nat} (h : i < l.length) : rd l (i : Int) = l[i] := by simp [rd, List.getD, h]
theorem sh1 : ∀ m : Fin 15, shl .i64 1 ((m.1 : Nat) : Int) = ((2 ^ m.1 : Nat) : Int) := by decide
theorem sh15 {x : Int} (h0 : 0 < x) (h1 : x ≤ 15) : 0 ≤ IntKind.u64.wrap (wrap64 (15 - x)) ∧ shl .i64 1 (IntKind.u64.wrap (wrap64 (15 - x))) = ((2 ^ (15 - x.toNat) : Nat) : Int) := by
  have e : IntKind.u64.wrap (wrap64 (15 - x)) = ((15 - x.toNat : Nat) : Int) := by
    rw [w64 _ (by unfold wrap64; omega) (by unfold wrap64; omega)]
    unfold wrap64; omega
  rw [e]
  exact ⟨by omega, sh1 ⟨15 - x.toNat, by omega⟩⟩
theorem w_i {i n : Nat} (h : i < n) (hn : n ≤ 140737488355328) : wrap64 ((i : Int) + 1) = ((i + 1 : Nat) : Int) := by unfold wrap64; omega
theorem w_k {a b : Nat} (h : a + b ≤ 140737488355328) : wrap64 ((a : Int) + (b : Int)) = ((a + b : Nat) : Int) := by unfold wrap64; omega
section
variable {l : List Int}
theorem kp_round (hl : l.length ≤ 320) {i : Nat} (hi : i < l.length) (h0 : 0 ≤ l[i]) (h1 : l[i] ≤ 15) (k : Nat) :
    huffman_Kraft.l0 (k + 2) l ((kr (l.take i) : Nat) : Int) l (l.length : Int) (i : Int) = huffman_Kraft.l0 k l ((kr (l.take (i + 1)) : Nat) : Int) l (l.length : Int) ((i + 1 : Nat) : Int) := by
  have hk := kr_take l hi
  have hb := kr_take_le l (i + 1)
  rw [huffman_Kraft.l0, if_pos (by omega), if_pos (by omega), if_pos (by omega), rd_at hi, if_neg (by omega), if_neg (by omega), decide_eq_false (by omega)]
  rw [huffman_Kraft.j1, if_neg (by decide), w_i hi (by omega)]
  by_cases hp : 0 < l[i]
  · obtain ⟨s1, s2⟩ := sh15 hp h1
    rw [if_pos hp, if_pos s1, s2]
    rw [if_pos hp] at hk
    rw [w_k (by omega), ← hk]
  · rw [if_neg hp]
    rw [if_neg hp] at hk
    rw [show kr (l.take (i + 1)) = kr (l.take i) from hk]
theorem kp_end (k : Nat) (s : Int) : huffman_Kraft.l0 (k + 1) l s l (l.length : Int) (l.length : Int) = some (s, true) := by
  rw [huffman_Kraft.l0, if_neg (by omega)]
theorem kp_bad {i : Nat} (hi : i < l.length) (h : l[i] < 0 ∨ 15 < l[i] ∨ 320 < l.length) (k : Nat) (s : Int) : huffman_Kraft.l0 (k + 2) l s l (l.length : Int) (i : Int) = some (0, false) := by
  rw [huffman_Kraft.l0, if_pos (by omega), if_pos (by omega), if_pos (by omega), rd_at hi]
  have hj : huffman_Kraft.j1 (k + 1) l s l[i] l (l.length : Int) (i : Int) true = some (0, false) := by rw [huffman_Kraft.j1, if_pos rfl]
  by_cases h1 : l[i] < 0
  · rw [if_pos h1, hj]
  · rw [if_neg h1]
    by_cases h2 : l[i] > 15
    · rw [if_pos h2, hj]
    · rw [if_neg h2, decide_eq_true (by omega), hj]
theorem kr_round (hl : l.length ≤ 320) {i : Nat} (hi : i < l.length) (h0 : 0 ≤ l[i]) (h1 : l[i] ≤ 15) (k : Nat) :
    winkleref08_Kraft.l0 (k + 2) l ((kr (l.take i) : Nat) : Int) (i : Int) = winkleref08_Kraft.l0 k l ((kr (l.take (i + 1)) : Nat) : Int) ((i + 1 : Nat) : Int) := by
  have hk := kr_take l hi
  have hb := kr_take_le l (i + 1)
  rw [winkleref08_Kraft.l0, if_pos (by omega), if_pos (by omega), rd_at hi, if_neg (by omega), decide_eq_false (by omega)]
  rw [winkleref08_Kraft.j1, if_neg (by decide), if_pos (by omega), if_pos (by omega), rd_at hi, w_i hi (by omega)]
  by_cases hp : 0 < l[i]
  · obtain ⟨s1, s2⟩ := sh15 hp h1
    rw [if_pos hp, if_pos s1, s2]
    rw [if_pos hp] at hk
    rw [w_k (by omega), ← hk]
  · rw [if_neg hp]
    rw [if_neg hp] at hk
    rw [show kr (l.take (i + 1)) = kr (l.take i) from hk]
theorem kr_end (k : Nat) (s : Int) : winkleref08_Kraft.l0 (k + 1) l s (l.length : Int) = some (s, true) := by
  rw [winkleref08_Kraft.l0, if_neg (by omega)]
theorem kr_bad {i : Nat} (hi : i < l.length) (h : l[i] < 0 ∨ 15 < l[i]) (k : Nat) (s : Int) : winkleref08_Kraft.l0 (k + 2) l s (i : Int) = some (0, false) := by
  rw [winkleref08_Kraft.l0, if_pos (by omega), if_pos (by omega), rd_at hi]
  have hj : winkleref08_Kraft.j1 (k + 1) l s (i : Int) true = some (0, false) := by rw [winkleref08_Kraft.j1, if_pos rfl]
  by_cases h1 : l[i] < 0
  · rw [if_pos h1, hj]
  · rw [if_neg h1, decide_eq_true (by omega), hj]
theorem kp_run (hl : l.length ≤ 320) : ∀ (i : Nat) (hi : i ≤ l.length), (∀ j, (h : j < l.length) → j < i → 0 ≤ l[j] ∧ l[j] ≤ 15) → ∀ k, huffman_Kraft.l0 (k + 2 * i) l 0 l (l.length : Int) 0 = huffman_Kraft.l0 k l ((kr (l.take i) : Nat) : Int) l (l.length : Int) (i : Int)
  | 0, _, _, k => by simp [kr]
  | i + 1, hi, ho, k => by
    have h := ho i (by omega) (by omega)
    rw [← kp_round hl (by omega) h.1 h.2, ← kp_run hl i (by omega) (fun j hj hji => ho j hj (by omega)) (k + 2)]
    congr 1; omega
theorem kr_run (hl : l.length ≤ 320) : ∀ (i : Nat) (hi : i ≤ l.length), (∀ j, (h : j < l.length) → j < i → 0 ≤ l[j] ∧ l[j] ≤ 15) → ∀ k, winkleref08_Kraft.l0 (k + 2 * i) l 0 0 = winkleref08_Kraft.l0 k l ((kr (l.take i) : Nat) : Int) (i : Int)
  | 0, _, _, k => by simp [kr]
  | i + 1, hi, ho, k => by
    have h := ho i (by omega) (by omega)
    rw [← kr_round hl (by omega) h.1 h.2, ← kr_run hl i (by omega) (fun j hj hji => ho j hj (by omega)) (k + 2)]
    congr 1; omega
theorem ok_at (h : Ok l) {j : Nat} (hj : j < l.length) : 0 ≤ l[j] ∧ l[j] ≤ 15 := h _ (List.getElem_mem hj)
theorem kraft_ok (h : Ok l) (hl : l.length ≤ 320) : (∃ k, huffman_Kraft.f k l = some (((kr l : Nat) : Int), true)) ∧ ∃ k, winkleref08_Kraft.f k l = some (((kr l : Nat) : Int), true) := by
  refine ⟨⟨0 + 1 + 2 * l.length, ?_⟩, ⟨0 + 1 + 2 * l.length, ?_⟩⟩
  · unfold huffman_Kraft.f
    rw [kp_run hl l.length (Nat.le_refl _) (fun j hj _ => ok_at h hj), List.take_length, kp_end]
  · unfold winkleref08_Kraft.f
    rw [if_neg (by omega), kr_run hl l.length (Nat.le_refl _) (fun j hj _ => ok_at h hj), List.take_length, kr_end]
theorem first_bad (h : ¬ Ok l) : ∃ i, ∃ hi : i < l.length, (l[i] < 0 ∨ 15 < l[i]) ∧ ∀ j, (hj : j < l.length) → j < i → 0 ≤ l[j] ∧ l[j] ≤ 15 := by
  induction l with
  | nil => exact absurd (fun x hx => by cases hx) h
  | cons x l ih =>
    by_cases hx : 0 ≤ x ∧ x ≤ 15
    · obtain ⟨i, hi, hb, ha⟩ := ih (fun hO => h (fun y hy => by rcases List.mem_cons.1 hy with rfl | hy; exact hx; exact hO y hy))
      refine ⟨i + 1, by simpa using hi, by simpa using hb, fun j hj hji => ?_⟩
      cases j with
      | zero => simpa using hx
      | succ j => simpa using ha j (by simpa using hj) (by omega)
    · exact ⟨0, by simp, by simp; omega, fun j _ hj => by omega⟩
theorem kraft_no (h : ¬ (Ok l ∧ l.length ≤ 320)) : (∃ k, huffman_Kraft.f k l = some (0, false)) ∧ ∃ k, winkleref08_Kraft.f k l = some (0, false) := by
  by_cases hl : l.length ≤ 320
  · obtain ⟨i, hi, hb, ha⟩ := first_bad (fun hO => h ⟨hO, hl⟩)
    refine ⟨⟨0 + 2 + 2 * i, ?_⟩, ⟨0 + 2 + 2 * i, ?_⟩⟩
    · unfold huffman_Kraft.f
      rw [kp_run hl i (by omega) ha, kp_bad hi (by omega)]
    · unfold winkleref08_Kraft.f
      rw [if_neg (by omega), kr_run hl i (by omega) ha, kr_bad hi hb]
  · refine ⟨⟨0 + 2, ?_⟩, ⟨0, ?_⟩⟩
    · unfold huffman_Kraft.f
      exact kp_bad (i := 0) (by omega) (by omega) 0 0
    · unfold winkleref08_Kraft.f
      rw [if_pos (by omega)]
end
open Classical in
/-- what Kraft answers. -/
noncomputable def krs (l : List Int) : Int × Bool := if Ok l ∧ l.length ≤ 320 then (((kr l : Nat) : Int), true) else (0, false)
theorem krs_f (l : List Int) : (∃ k, huffman_Kraft.f k l = some ((krs l).1, (krs l).2)) ∧ ∃ k, winkleref08_Kraft.f k l = some ((krs l).1, (krs l).2) := by
  unfold krs
  by_cases h : Ok l ∧ l.length ≤ 320
  · rw [if_pos h]; exact kraft_ok h.1 h.2
  · rw [if_neg h]; exact kraft_no h
end Go.Proofs.Yteamaaiicjjidaa.PAll
