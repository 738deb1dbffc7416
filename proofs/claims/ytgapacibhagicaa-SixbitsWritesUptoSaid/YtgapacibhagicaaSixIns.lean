/- Plain: blanks that are put in between change nothing of what is told. -/
import Derived.Test.YtgapacibhagicaaPureSixbitsWhole
import Derived.Test.YtgapacibhagicaaPAllx7
namespace Go.Proofs.Ytgapacibhagicaa.Six
open Go.RowKit Go.Proofs.Ytgapacibhagicaa.PAll Go.Proofs.YtgapacibhagicaaW.PrintWords Go.Proofs.YtgapacibhagicaaW.PrintLast
set_option linter.unusedVariables false
inductive Ins : List Int → List Int → Prop
  | nil : Ins [] []
  | blank (x : Int) {b c : List Int} : vl x = 64 → Ins b c → Ins b (x :: c)
  | cons (x : Int) {b c : List Int} : Ins b c → Ins (x :: b) (x :: c)
theorem Ins.app {b c b' c' : List Int} (h : Ins b c) (h' : Ins b' c') : Ins (b ++ b') (c ++ c') := by
  induction h with
  | nil => exact h'
  | blank x hx _ ih => exact .blank x hx ih
  | cons x _ ih => exact .cons x ih
theorem Ins.len {b c : List Int} (h : Ins b c) : b.length ≤ c.length := by
  induction h with
  | nil => simp
  | blank x hx _ ih => simp; omega
  | cons x _ ih => simp; omega
theorem Ins.run {b c : List Int} (h : Ins b c) : ∀ (i j P Q H : Int), i ≤ j → (run c j P Q H).out = (run b i P Q H).out ∧ (run c j P Q H).why = (run b i P Q H).why ∧ (run b i P Q H).pos ≤ (run c j P Q H).pos := by
  induction h with
  | nil => intro i j P Q H h; simp only [Six.run]; exact ⟨trivial, trivial, h⟩
  | blank x hx _ ih =>
    intro i j P Q H h
    have es : st P Q H x = ⟨0, false, 0, P, Q, H⟩ := by unfold st; rw [if_pos hx]
    conv => enter [1, 1]; simp only [Six.run]
    conv => enter [2, 1, 1]; simp only [Six.run]
    conv => enter [2, 2, 2]; simp only [Six.run]
    rw [es, if_pos rfl, if_neg (show ¬ (false = true) by simp)]
    exact ih i (j + 1) P Q H (by omega)
  | cons x _ ih =>
    intro i j P Q H h
    simp only [Six.run]
    have := ih (i + 1) (j + 1) (st P Q H x).P (st P Q H x).Q (st P Q H x).H (by omega)
    obtain ⟨h1, h2, h3⟩ := this
    by_cases h0 : (st P Q H x).err = 0
    · rw [if_pos h0, if_pos h0]
      by_cases hh : (st P Q H x).has = true
      · rw [if_pos hh, if_pos hh]
        exact ⟨by dsimp only; rw [h1], h2, h3⟩
      · rw [if_neg hh, if_neg hh]
        exact ⟨h1, h2, h3⟩
    · rw [if_neg h0, if_neg h0]
      exact ⟨rfl, rfl, h⟩
theorem Ins.bytes {b c : List Int} (h : Ins b c) (hb : Bytes b) : Bytes c := by
  induction h with
  | nil => exact hb
  | blank x hx _ ih =>
    intro y hy
    rcases List.mem_cons.1 hy with rfl | hy
    · unfold vl at hx; revert hx; repeat' split
      all_goals omega
    · exact ih hb y hy
  | cons x _ ih =>
    intro y hy
    rcases List.mem_cons.1 hy with rfl | hy
    · exact hb _ (by simp)
    · exact ih (fun z hz => hb z (by simp [hz])) y hy
theorem blank_at (n : Int) (h0 : 0 ≤ n) (h : n < 4) : vl (rd ([9, 10, 13, 32] : List Int) n) = 64 := by
  have : n = 0 ∨ n = 1 ∨ n = 2 ∨ n = 3 := by omega
  rcases this with rfl | rfl | rfl | rfl <;> decide
theorem blanks_l1 (L M : List Int) (hL : L.length ≤ 1048576) (hM : 0 < M.length) (hMn : M.length ≤ 1048576) (hMb : Bytes M) (i : Nat) (hi : i < L.length) (K : Nat)
    (hnext : ∀ (acc' : List Int) (k : Nat), Ins (L.take (i + 1)) acc' → acc'.length ≤ 3 * (i + 1) → K ≤ k → winklelaw10_SixbitsBlanks.l0 k L M acc' ((i : Int) + 1) = some true) (m : Nat) :
    ∀ (acc : List Int) (k j : Nat), (j : Int) + m = rd M ((i : Int) % M.length) % 3 → Ins (L.take i) acc → acc.length ≤ 3 * i + j → K + m + 1 ≤ k → winklelaw10_SixbitsBlanks.l1 k L M acc (i : Int) (j : Int) = some true := by
  have hmod : 0 ≤ (i : Int) % M.length ∧ (i : Int) % M.length < M.length := ⟨Int.emod_nonneg _ (by omega), Int.emod_lt_of_pos _ (by omega)⟩
  have hx : 0 ≤ rd M ((i : Int) % M.length) ∧ rd M ((i : Int) % M.length) ≤ 255 := by
    have h1 : ((i : Int) % M.length).toNat < M.length := by omega
    have : rd M ((i : Int) % M.length) = M[((i : Int) % M.length).toNat] := by simp [rd, h1]
    rw [this]; exact hMb _ (List.getElem_mem h1)
  have hcom : ∀ (acc : List Int) (k j : Nat), winklelaw10_SixbitsBlanks.l1 (k + 1) L M acc (i : Int) (j : Int) = if (j : Int) < rd M ((i : Int) % M.length) % 3 then ((some (([9, 10, 13, 32] : List Int) : List Int)).bind fun y272 => (if 0 ≤ (Int.tmod (wrap64 ((i : Int) + j)) 4) then (if (Int.tmod (wrap64 ((i : Int) + j)) 4) < (y272.length : Int) then (if acc.length < 140737488355328 then (winklelaw10_SixbitsBlanks.l1 k L M (acc ++ [rd y272 (Int.tmod (wrap64 ((i : Int) + j)) 4)]) i (wrap64 ((j : Int) + 1))) else (none)) else (none)) else (none))) else (if (0 : Int) ≤ i then (if (i : Int) < (L.length : Int) then (if acc.length < 140737488355328 then (winklelaw10_SixbitsBlanks.l0 k L M (acc ++ [rd L i]) (wrap64 ((i : Int) + 1))) else (none)) else (none)) else (none)) := by
    intro acc k j
    simp only [winklelaw10_SixbitsBlanks.l1]
    rw [if_neg (by omega), Int.tmod_eq_emod_of_nonneg (by omega), if_pos hmod.1, if_pos hmod.2, Int.tmod_eq_emod_of_nonneg hx.1, w64 _ (by omega) (by omega)]
  induction m with
  | zero =>
    intro acc k j hj hI hl hk
    obtain ⟨k, rfl⟩ : ∃ n, k = n + 1 := ⟨k - 1, by omega⟩
    rw [hcom, if_neg (by omega), if_pos (by omega), if_pos (by omega), if_pos (by omega), w64 _ (by omega) (by omega)]
    refine hnext _ k ?_ (by simp; omega) (by omega)
    rw [List.take_succ_eq_append_getElem hi]
    have : rd L (i : Int) = L[i] := by simp [rd, hi]
    rw [this]
    exact hI.app (.cons _ .nil)
  | succ m ih =>
    intro acc k j hj hI hl hk
    obtain ⟨k, rfl⟩ : ∃ n, k = n + 1 := ⟨k - 1, by omega⟩
    rw [hcom, if_pos (by omega), Option.bind_some, w64 _ (by omega) (by omega), w64 _ (by omega) (by omega), Int.tmod_eq_emod_of_nonneg (by omega)]
    have hq : 0 ≤ ((i : Int) + j) % 4 ∧ ((i : Int) + j) % 4 < 4 := by omega
    rw [if_pos hq.1, if_pos (show ((i : Int) + j) % 4 < ((([9, 10, 13, 32] : List Int).length : Nat) : Int) from hq.2), if_pos (by omega)]
    have := ih (acc ++ [rd ([9, 10, 13, 32] : List Int) (((i : Int) + j) % 4)]) k (j + 1) (by omega) (by have := hI.app (.blank _ (blank_at _ hq.1 hq.2) .nil); simpa using this) (by simp; omega) (by omega)
    simpa using this
theorem blanks_l0 (L M : List Int) (hL : L.length ≤ 1048576) (hLb : Bytes L) (hMn : M.length ≤ 1048576) (hMb : Bytes M) (n : Nat) :
    ∀ (acc : List Int) (k i : Nat), i + n = L.length → Ins (L.take i) acc → acc.length ≤ 3 * i → 5 * n + 4194304 ≤ k → winklelaw10_SixbitsBlanks.l0 k L M acc (i : Int) = some true := by
  induction n with
  | zero =>
    intro acc k i hi hI hl hk
    obtain ⟨k, rfl⟩ : ∃ n, k = n + 1 := ⟨k - 1, by omega⟩
    simp only [winklelaw10_SixbitsBlanks.l0]
    rw [List.take_of_length_le (by omega)] at hI
    obtain ⟨h1, h2, h3⟩ := hI.run 0 0 0 0 0 (by omega)
    have hr := run_len L 0 0 0 0
    rw [if_neg (by omega), whole_f L hLb (by omega) _ (by omega), Option.bind_some, whole_f acc (hI.bytes hLb) (by omega) _ (by omega), Option.bind_some]
    dsimp only
    rw [h1, h2, same_f _ (by omega) _ (by omega), Option.bind_some, if_pos rfl, if_pos rfl, if_pos h3, awake_f _ (by omega)]
    rfl
  | succ n ih =>
    intro acc k i hi hI hl hk
    obtain ⟨k, rfl⟩ : ∃ n, k = n + 1 := ⟨k - 1, by omega⟩
    have hnext : ∀ (acc' : List Int) (k : Nat), Ins (L.take (i + 1)) acc' → acc'.length ≤ 3 * (i + 1) → 5 * n + 4194304 ≤ k → winklelaw10_SixbitsBlanks.l0 k L M acc' ((i : Int) + 1) = some true := fun acc' k h1 h2 h3 => ih acc' k (i + 1) (by omega) h1 h2 h3
    simp only [winklelaw10_SixbitsBlanks.l0]
    rw [if_pos (by omega)]
    by_cases hM : 0 < M.length
    · rw [if_pos (by omega)]
      have hmod : 0 ≤ (i : Int) % M.length ∧ (i : Int) % M.length < M.length := ⟨Int.emod_nonneg _ (by omega), Int.emod_lt_of_pos _ (by omega)⟩
      have hx : 0 ≤ rd M ((i : Int) % M.length) % 3 ∧ rd M ((i : Int) % M.length) % 3 < 3 := by omega
      exact blanks_l1 L M hL hM hMn hMb i (by omega) _ hnext (rd M ((i : Int) % M.length) % 3).toNat acc k 0 (by omega) hI (by omega) (by omega)
    · rw [if_neg (by omega), if_pos (by omega), if_pos (by omega), w64 _ (by omega) (by omega)]
      refine hnext _ k ?_ (by simp; omega) (by omega)
      rw [List.take_succ_eq_append_getElem (show i < L.length by omega)]
      have : rd L (i : Int) = L[i] := by simp [rd, show i < L.length by omega]
      rw [this]
      exact hI.app (.cons _ .nil)
end Go.Proofs.Ytgapacibhagicaa.Six
