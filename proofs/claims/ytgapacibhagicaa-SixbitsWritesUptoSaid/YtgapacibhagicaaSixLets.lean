/- Plain: the letters of a text, and that they are read back. -/
import Derived.Test.YtgapacibhagicaaSixIns
namespace Go.Proofs.Ytgapacibhagicaa.Six
open Go.RowKit Go.Proofs.Ytgapacibhagicaa.PAll Go.Proofs.YtgapacibhagicaaW.PrintWords Go.Proofs.YtgapacibhagicaaW.PrintLast
set_option linter.unusedVariables false
set_option linter.unusedSimpArgs false
/-- the letter of a worth. -/
def lt (x : Int) : Int := bt LET (x % 64)
/-- the four letters of a group of the value v. -/
def lets : List Int → List Int
  | [] => []
  | [a] => [lt (a / 4), lt (a * 16), 61, 61]
  | [a, b] => [lt (a / 4), lt (a * 16 + b / 16), lt (b * 4), 61]
  | a :: b :: c :: r => lt (a / 4) :: lt (a * 16 + b / 16) :: lt (b * 4 + c / 64) :: lt c :: lets r
theorem vl64 : ∀ n : Fin 64, vl (bt LET ((n.val : Nat) : Int)) = ((n.val : Nat) : Int) := by decide +kernel
theorem vl_lt (x : Int) : vl (lt x) = x % 64 := by
  have h : 0 ≤ x % 64 ∧ x % 64 < 64 := by omega
  unfold lt
  generalize x % 64 = y at h
  obtain ⟨n, rfl⟩ := Int.eq_ofNat_of_zero_le h.1
  exact vl64 ⟨n, by omega⟩
theorem lt_byte (x : Int) : 0 ≤ lt x ∧ lt x ≤ 255 := bt_range _ _
theorem st_lt (P H x : Int) (h0 : 0 ≤ P) : st P 0 H (lt x) = ⟨0, decide (0 < P), if 0 < P then byt P H (x % 64) else 0, (P + 1) % 4, 0, H % 64 * 64 + x % 64⟩ := by
  unfold st
  rw [vl_lt, if_neg (by omega), if_neg (by omega), if_neg (by omega), if_neg (by omega), if_neg (by omega)]
theorem byt1 (H v : Int) : byt 1 H v = (H % 64 * 64 + v) / 16 % 256 := rfl
theorem byt2 (H v : Int) : byt 2 H v = (H % 64 * 64 + v) / 4 % 256 := rfl
theorem byt3 (H v : Int) : byt 3 H v = (H % 64 * 64 + v) % 256 := by show (H % 64 * 64 + v) / 1 % 256 = _; rw [Int.ediv_one]
theorem run_lt0 (H x : Int) (r : List Int) (i : Int) : run (lt x :: r) i 0 0 H = run r (i + 1) 1 0 (H % 64 * 64 + x % 64) := by
  simp only [run]; rw [st_lt _ _ _ (by omega), if_pos rfl, if_neg (by simp)]; rfl
theorem run_lt (P H x : Int) (hP : 0 < P) (r : List Int) (i : Int) : run (lt x :: r) i P 0 H = ⟨byt P H (x % 64) :: (run r (i + 1) ((P + 1) % 4) 0 (H % 64 * 64 + x % 64)).out, i :: (run r (i + 1) ((P + 1) % 4) 0 (H % 64 * 64 + x % 64)).times, (run r (i + 1) ((P + 1) % 4) 0 (H % 64 * 64 + x % 64)).why, (run r (i + 1) ((P + 1) % 4) 0 (H % 64 * 64 + x % 64)).pos⟩ := by
  simp only [run]; rw [st_lt _ _ _ (by omega), if_pos rfl, if_pos (by simp [hP])]
  dsimp only
  rw [if_pos hP]
theorem run_pad (P Q H : Int) (hP : 2 ≤ P) (r : List Int) (i : Int) : run (61 :: r) i P Q H = run r (i + 1) ((P + 1) % 4) (Q + 1) H := by
  have e : st P Q H 61 = ⟨0, false, 0, (P + 1) % 4, Q + 1, H⟩ := by
    unfold st
    rw [show vl 61 = 65 from rfl, if_neg (by omega), if_neg (by omega), if_pos rfl, if_neg (by omega)]
  simp only [run]; rw [e, if_pos rfl, if_neg (by simp)]
theorem run_nil (i P Q H : Int) : run [] i P Q H = ⟨[], [], if P = 0 then 0 else 1, i⟩ := rfl
/-- how many bytes are told of the first m letters of a text of n bytes. -/
def told (n m : Nat) : Nat := min (3 * (m / 4) + (m % 4 - 1)) n
theorem cut_run (L : List Int) (hL : Bytes L) (m : Nat) (hm : m ≤ (lets L).length) (H : Int) (i : Int) :
    (run ((lets L).take m) i 0 0 H).out = L.take (told L.length m) ∧ (run ((lets L).take m) i 0 0 H).why = (if m % 4 = 0 then 0 else 1) ∧ (run ((lets L).take m) i 0 0 H).pos = i + m := by
  induction L using lets.induct generalizing m H i with
  | case1 =>
    obtain rfl : m = 0 := by simpa [lets] using hm
    simp [lets, run_nil]
  | case2 a =>
    have ha := hL a (by simp)
    simp only [lets] at hm ⊢
    have : m = 0 ∨ m = 1 ∨ m = 2 ∨ m = 3 ∨ m = 4 := by simp at hm; omega
    have e1 : (a / 4 % 64 % 64 * 64 + a * 16 % 64) / 16 % 256 = a := by omega
    rcases this with rfl | rfl | rfl | rfl | rfl <;> simp [run_lt0, run_lt, run_pad, run_nil, byt1, byt2, byt3, told] <;> omega
  | case3 a b =>
    have ha := hL a (by simp)
    have hb := hL b (by simp)
    simp only [lets] at hm ⊢
    have : m = 0 ∨ m = 1 ∨ m = 2 ∨ m = 3 ∨ m = 4 := by simp at hm; omega
    rcases this with rfl | rfl | rfl | rfl | rfl <;> simp [run_lt0, run_lt, run_pad, run_nil, byt1, byt2, byt3, told] <;> omega
  | case4 a b c r ih =>
    have ha := hL a (by simp)
    have hb := hL b (by simp)
    have hc := hL c (by simp)
    have hr : Bytes r := fun x hx => hL x (by simp [hx])
    simp only [lets] at hm ⊢
    have : m = 0 ∨ m = 1 ∨ m = 2 ∨ m = 3 ∨ ∃ j, m = j + 4 := by
      by_cases h : m < 4
      · omega
      · exact Or.inr (Or.inr (Or.inr (Or.inr ⟨m - 4, by omega⟩)))
    rcases this with rfl | rfl | rfl | rfl | ⟨j, rfl⟩
    · simp [run_lt0, run_lt, run_pad, run_nil, byt1, byt2, byt3, told]
    · simp [run_lt0, run_lt, run_pad, run_nil, byt1, byt2, byt3, told] <;> omega
    · simp [run_lt0, run_lt, run_pad, run_nil, byt1, byt2, byt3, told] <;> omega
    · simp [run_lt0, run_lt, run_pad, run_nil, byt1, byt2, byt3, told] <;> omega
    · have hh := ih hr j (by simp at hm; omega) (((((H % 64 * 64 + a / 4 % 64) % 64 * 64 + (a * 16 + b / 16) % 64) % 64 * 64 + (b * 4 + c / 64) % 64)) % 64 * 64 + c % 64) (i + 1 + 1 + 1 + 1)
      simp only [List.take_succ_cons, run_lt0]
      rw [run_lt 1 _ _ (by omega), show ((1 : Int) + 1) % 4 = 2 from rfl, run_lt 2 _ _ (by omega), show ((2 : Int) + 1) % 4 = 3 from rfl, run_lt 3 _ _ (by omega), show ((3 : Int) + 1) % 4 = 0 from rfl]
      obtain ⟨h1, h2, h3⟩ := hh
      have et : told (a :: b :: c :: r).length (j + 4) = told r.length j + 3 := by simp only [told, List.length_cons]; omega
      refine ⟨?_, ?_, ?_⟩
      · rw [et]; simp only [List.take_succ_cons]
        rw [h1, byt1, byt2, byt3]
        congr 1
        · omega
        · congr 1
          · omega
          · congr 1
            omega
      · dsimp only; rw [h2, show (j + 4) % 4 = j % 4 by omega]
      · dsimp only; rw [h3]; omega
theorem lets_len (L : List Int) : (lets L).length = (L.length + 2) / 3 * 4 := by
  induction L using lets.induct with
  | case1 => rfl
  | case2 a => simp [lets]
  | case3 a b => simp [lets]
  | case4 a b c r ih => simp only [lets, List.length_cons, ih]; omega
theorem lets_bytes (L : List Int) : Bytes (lets L) := by
  induction L using lets.induct with
  | case1 => intro x hx; simp [lets] at hx
  | case2 a => intro x hx; simp [lets] at hx; rcases hx with rfl | rfl | rfl <;> first | exact lt_byte _ | omega
  | case3 a b => intro x hx; simp [lets] at hx; rcases hx with rfl | rfl | rfl | rfl <;> first | exact lt_byte _ | omega
  | case4 a b c r ih =>
    intro x hx
    simp [lets] at hx
    rcases hx with rfl | rfl | rfl | rfl | hx
    · exact lt_byte _
    · exact lt_byte _
    · exact lt_byte _
    · exact lt_byte _
    · exact ih x hx
end Go.Proofs.Ytgapacibhagicaa.Six
