/- Plain: what the number readers' loops come to, as functions of the list of bytes. -/
import Derived.Test.YtlomhifacokgmaaPAllx7
namespace Go.Proofs.Ytlomhifacokgmaa.Num
open Go.RowKit Go.Proofs.Ytlomhifacokgmaa.PAll Go.Proofs.YtlomhifacokgmaaW.PrintWords Go.Proofs.YtlomhifacokgmaaW.PrintLast
set_option linter.unusedVariables false

theorem w64 {i n : Int} (h0 : 0 ≤ i) (h : i < n) (hn : n ≤ 140737488355328) : wrap64 (i + 1) = i + 1 := by unfold wrap64; omega
theorem wu64 (n : Int) : IntKind.u64.wrap n = n % 18446744073709551616 := by simp [IntKind.wrap, IntKind.bits, IntKind.signed]
theorem drop_rd (l : List Int) (i : Int) (h0 : 0 ≤ i) (h : i < l.length) : l.drop i.toNat = rd l i :: l.drop (i + 1).toNat := by
  rw [List.drop_eq_getElem_cons (show i.toNat < l.length by omega), show (i + 1).toNat = i.toNat + 1 by omega]
  have : rd l i = l[i.toNat]'(by omega) := by simp [rd, show i.toNat < l.length by omega]
  rw [this]
theorem drop_end (l : List Int) (i : Int) (h : ¬ i < l.length) : l.drop i.toNat = [] := List.drop_of_length_le (by omega)

def octRes (X : Int) : Option (Int × Bool) := some (if X ≥ 9223372036854775808 then (0, false) else (X, true))
theorem octal_f (l : List Int) : number_Octal.f l = octRes (octW 0 0 l) := rfl
theorem octW_digit (v p c : Int) (cs : List Int) (h : 48 ≤ c ∧ c ≤ 55 ∧ p < 2) : octW v p (c :: cs) = if v ≥ 1152921504606846976 then octW 9223372036854775808 1 cs else octW (8 * v + (c - 48)) 1 cs := by
  have h1 : ¬ (c = 32 ∧ p = 0) := by omega
  simp only [octW]; rw [if_neg h1, if_pos h]
theorem octW_bad (v p c : Int) (cs : List Int) (h : ¬ (48 ≤ c ∧ c ≤ 55 ∧ p < 2)) (h0 : c ≠ 0) (h32 : c ≠ 32) : octW v p (c :: cs) = 9223372036854775808 := by
  have h1 : ¬ (c = 32 ∧ p = 0) := by omega
  have h2 : ¬ (c = 0 ∨ c = 32) := by omega
  simp only [octW]; rw [if_neg h1, if_neg h, if_neg h2]
theorem octW_tail (v p c : Int) (cs : List Int) (h : c = 0 ∨ (c = 32 ∧ p ≠ 0)) : octW v p (c :: cs) = octW v 2 cs := by
  have h1 : ¬ (c = 32 ∧ p = 0) := by omega
  have h2 : ¬ (48 ≤ c ∧ c ≤ 55 ∧ p < 2) := by omega
  have h3 : c = 0 ∨ c = 32 := by omega
  simp only [octW]; rw [if_neg h1, if_neg h2, if_pos h3]
theorem octW_skip (v : Int) (cs : List Int) : octW v 0 (32 :: cs) = octW v 0 cs := by simp [octW]
def cur (v : Int) (g : Bool) : Int := if g = true then 9223372036854775808 else v
theorem l2_eq (l : List Int) (hl : (l.length : Int) ≤ 140737488355328) (d : Nat) : ∀ (k : Nat) (i v : Int) (g : Bool), 0 ≤ i → (l.length : Int) - i ≤ d → d < k → (g = false → v < 9223372036854775808) →
    winkleref05_Octal.l2 k l i v g = octRes (octW (cur v g) 2 (l.drop i.toNat)) := by
  induction d with
  | zero =>
    intro k i v g h0 hd hk hv
    obtain ⟨k, rfl⟩ : ∃ j, k = j + 1 := ⟨k - 1, by omega⟩
    simp only [winkleref05_Octal.l2]
    rw [if_neg (by omega), drop_end l i (by omega)]
    cases g
    · have := hv rfl; simp [octW, cur, octRes]; omega
    · simp [octW, cur, octRes]
  | succ d ih =>
    intro k i v g h0 hd hk hv
    obtain ⟨k, rfl⟩ : ∃ j, k = j + 1 := ⟨k - 1, by omega⟩
    simp only [winkleref05_Octal.l2]
    by_cases h : i < (l.length : Int)
    · rw [if_pos h, if_pos h0, drop_rd l i h0 h, w64 h0 h hl]
      have e := ih k (i + 1) v g (by omega) (by omega) (by omega) hv
      by_cases c0 : rd l i = 0
      · rw [if_pos c0, e, octW_tail _ _ _ _ (.inl c0)]
      · rw [if_neg c0]
        by_cases c32 : rd l i = 32
        · rw [if_pos c32, e, octW_tail _ _ _ _ (.inr ⟨c32, by omega⟩)]
        · rw [if_neg c32, octW_bad _ _ _ _ (by omega) c0 c32]; simp [octRes]
    · rw [if_neg h, drop_end l i h]
      cases g
      · have := hv rfl; simp [octW, cur, octRes]; omega
      · simp [octW, cur, octRes]
theorem octW_12 (V : Int) (l : List Int) (h : ∀ c cs, l = c :: cs → ¬ (48 ≤ c ∧ c ≤ 55)) : octW V 1 l = octW V 2 l := by
  cases l with
  | nil => rfl
  | cons c cs =>
    have := h c cs rfl
    by_cases hz : c = 0 ∨ c = 32
    · rw [octW_tail _ _ _ _ (by omega), octW_tail _ _ _ _ (by omega)]
    · rw [octW_bad _ _ _ _ (by omega) (by omega) (by omega), octW_bad _ _ _ _ (by omega) (by omega) (by omega)]
theorem octW_01 (V : Int) (l : List Int) (h : ∀ c cs, l = c :: cs → c ≠ 32) : octW V 0 l = octW V 1 l := by
  cases l with
  | nil => rfl
  | cons c cs =>
    have := h c cs rfl
    by_cases hd : 48 ≤ c ∧ c ≤ 55
    · rw [octW_digit _ _ _ _ (by omega), octW_digit _ _ _ _ (by omega)]
    · by_cases hz : c = 0
      · rw [octW_tail _ _ _ _ (by omega), octW_tail _ _ _ _ (by omega)]
      · rw [octW_bad _ _ _ _ (by omega) hz (by omega), octW_bad _ _ _ _ (by omega) hz (by omega)]
theorem l1_eq (l : List Int) (hl : (l.length : Int) ≤ 140737488355328) (d : Nat) : ∀ (k : Nat) (i v : Int) (g : Bool), 0 ≤ i → (l.length : Int) - i ≤ d → 3 * d + 4 < k → (g = false → 0 ≤ v ∧ v < 9223372036854775808) →
    winkleref05_Octal.l1 k l i v g = octRes (octW (cur v g) 1 (l.drop i.toNat)) := by
  induction d with
  | zero =>
    intro k i v g h0 hd hk hv
    obtain ⟨k, rfl⟩ : ∃ j, k = j + 2 := ⟨k - 2, by omega⟩
    simp only [winkleref05_Octal.l1]
    rw [if_neg (by omega)]
    simp only [winkleref05_Octal.j3]
    rw [if_neg (by simp), l2_eq l hl 0 k i v g h0 hd (by omega) (fun h => (hv h).2), drop_end l i (by omega)]
    simp [octW]
  | succ d ih =>
    intro k i v g h0 hd hk hv
    obtain ⟨k, rfl⟩ : ∃ j, k = j + 2 := ⟨k - 2, by omega⟩
    by_cases h : i < (l.length : Int)
    · by_cases hdg : 48 ≤ rd l i ∧ rd l i ≤ 55
      · simp only [winkleref05_Octal.l1]
        rw [if_pos h, if_pos h0, if_pos (by omega)]
        simp only [winkleref05_Octal.j3]
        rw [if_pos (decide_eq_true hdg.2), w64 h0 h hl, drop_rd l i h0 h, octW_digit _ _ _ _ ⟨hdg.1, hdg.2, by omega⟩]
        cases g
        · obtain ⟨hv0, hv1⟩ := hv rfl
          rw [if_neg (by simp)]
          by_cases hg : v ≥ 1152921504606846976
          · rw [if_pos hg, ih k (i + 1) v _ (by omega) (by omega) (by omega) (by simp [hg])]
            simp [cur, hg]
          · rw [if_neg hg, if_pos h0, if_pos h, wu64, wu64]
            rw [show (8 * v % 18446744073709551616 + (rd l i - 48) % 256) % 18446744073709551616 = 8 * v + (rd l i - 48) by omega]
            rw [ih k (i + 1) _ _ (by omega) (by omega) (by omega) (fun _ => by omega)]
            simp [cur, hg]
        · rw [if_pos rfl, ih k (i + 1) v true (by omega) (by omega) (by omega) (by simp)]
          simp [cur]
      · have e3 : winkleref05_Octal.l1 (k + 2) l i v g = winkleref05_Octal.l2 k l i v g := by
          simp only [winkleref05_Octal.l1]
          rw [if_pos h, if_pos h0]
          by_cases h48 : rd l i ≥ 48
          · rw [if_pos h48]; simp only [winkleref05_Octal.j3]; rw [if_neg (by simp <;> omega)]
          · rw [if_neg h48]; simp only [winkleref05_Octal.j3]; rw [if_neg (by simp)]
        rw [e3, l2_eq l hl (d + 1) k i v g h0 hd (by omega) (fun h => (hv h).2), octW_12]
        intro c cs hc
        rw [drop_rd l i h0 h] at hc
        injection hc with hc1 hc2
        rw [← hc1]; exact hdg
    · simp only [winkleref05_Octal.l1]
      rw [if_neg h]
      simp only [winkleref05_Octal.j3]
      rw [if_neg (by simp), l2_eq l hl (d + 1) k i v g h0 hd (by omega) (fun h => (hv h).2), drop_end l i (by omega)]
      simp [octW]
theorem l0_eq (l : List Int) (hl : (l.length : Int) ≤ 140737488355328) (d : Nat) : ∀ (k : Nat) (i : Int), 0 ≤ i → (l.length : Int) - i ≤ d → 4 * d + 6 < k →
    winkleref05_Octal.l0 k l i = octRes (octW 0 0 (l.drop i.toNat)) := by
  induction d with
  | zero =>
    intro k i h0 hd hk
    obtain ⟨k, rfl⟩ : ∃ j, k = j + 2 := ⟨k - 2, by omega⟩
    simp only [winkleref05_Octal.l0]
    rw [if_neg (by omega)]
    simp only [winkleref05_Octal.j1]
    rw [l1_eq l hl 0 k i 0 false h0 hd (by omega) (by simp), drop_end l i (by omega)]
    simp [octW, cur]
  | succ d ih =>
    intro k i h0 hd hk
    obtain ⟨k, rfl⟩ : ∃ j, k = j + 1 := ⟨k - 1, by omega⟩
    obtain ⟨k2, hk2⟩ : ∃ j, k = j + 1 := ⟨k - 1, by omega⟩
    have hj : winkleref05_Octal.j1 k l i = octRes (octW 0 1 (l.drop i.toNat)) := by
      rw [hk2]
      simp only [winkleref05_Octal.j1]
      rw [l1_eq l hl (d + 1) k2 i 0 false h0 hd (by omega) (by simp)]; simp [cur]
    simp only [winkleref05_Octal.l0]
    by_cases h : i < (l.length : Int)
    · rw [if_pos h, if_pos h0, w64 h0 h hl]
      by_cases hc : rd l i = 32
      · rw [if_pos hc, ih k (i + 1) (by omega) (by omega) (by omega), drop_rd l i h0 h, hc, octW_skip]
      · rw [if_neg hc, hj, octW_01]
        intro c cs he
        rw [drop_rd l i h0 h] at he
        injection he with he1 he2
        rw [← he1]; exact hc
    · rw [if_neg h, hj, drop_end l i h]; simp [octW]
theorem refOctal (l : List Int) (hl : (l.length : Int) ≤ 140737488355328) (k : Nat) (hk : 4 * l.length + 6 < k) : winkleref05_Octal.f k l = number_Octal.f l := by
  unfold winkleref05_Octal.f
  rw [l0_eq l hl l.length k 0 (by omega) (by omega) hk]; rfl

/-! binary -/
def Bytes (l : List Int) : Prop := ∀ x ∈ l, 0 ≤ x ∧ x ≤ 255
theorem rd_byte {l : List Int} (hb : Bytes l) (i : Int) : 0 ≤ rd l i ∧ rd l i ≤ 255 := by
  unfold rd
  by_cases h : i.toNat < l.length
  · rw [List.getD_eq_getElem?_getD, List.getElem?_eq_getElem h]; exact hb _ (List.getElem_mem h)
  · rw [List.getD_eq_getElem?_getD, List.getElem?_eq_none (by omega)]; simp
def binW (v : Int) : List Int → Int × Bool
  | [] => (v, true)
  | c :: cs => if v ≥ 36028797018963968 then (0, false) else binW (256 * v + c) cs
def binF : List Int → Int × Bool
  | [] => (0, false)
  | c :: cs => if 128 ≤ c ∧ c < 192 then binW (c - 128) cs else (0, false)
theorem or8 (v c : Int) (h0 : 0 ≤ v) (h1 : ¬ v ≥ 36028797018963968) (hc0 : 0 ≤ c) (hc : c ≤ 255) : Go.bits .or .u64 (v * 256) c = 256 * v + c := by
  have := bits_join .u64 64 (by decide) (fun n h0 h1 => by rw [wu64]; omega) 8 (v * 256) c (by omega) (by omega) (by omega) hc0 (by omega) (by omega)
  omega
theorem numBin_l (l : List Int) (hb : Bytes l) (hl : (l.length : Int) ≤ 140737488355328) (d : Nat) : ∀ (k : Nat) (v i : Int), 0 ≤ i → (l.length : Int) - i ≤ d → d < k → 0 ≤ v → number_Binary.l0 k v l (l.length : Int) i = some (binW v (l.drop i.toNat)) := by
  induction d with
  | zero =>
    intro k v i h0 hd hk hv
    obtain ⟨k, rfl⟩ : ∃ j, k = j + 1 := ⟨k - 1, by omega⟩
    simp only [number_Binary.l0]
    rw [if_neg (by omega), drop_end l i (by omega)]; rfl
  | succ d ih =>
    intro k v i h0 hd hk hv
    obtain ⟨k, rfl⟩ : ∃ j, k = j + 1 := ⟨k - 1, by omega⟩
    simp only [number_Binary.l0]
    by_cases h : i < (l.length : Int)
    · rw [if_pos h, if_pos h0, if_pos h, drop_rd l i h0 h, w64 h0 h hl]
      have hr := rd_byte hb i
      by_cases hg : v ≥ 36028797018963968
      · rw [if_neg (show ¬ v / 36028797018963968 = 0 by omega)]; simp [binW, hg]
      · rw [if_pos (show v / 36028797018963968 = 0 by omega), wu64, wu64, show v * 256 % 18446744073709551616 = v * 256 by omega, show rd l i % 18446744073709551616 = rd l i by omega, or8 v _ hv hg hr.1 hr.2, ih k _ (i + 1) (by omega) (by omega) (by omega) (by omega)]
        simp [binW, hg]
    · rw [if_neg h, drop_end l i h]; rfl
theorem refBin_l (l : List Int) (hb : Bytes l) (hl : (l.length : Int) ≤ 140737488355328) (d : Nat) : ∀ (k : Nat) (v i : Int), 0 ≤ i → (l.length : Int) - i ≤ d → d < k → 0 ≤ v → winkleref05_Binary.l0 k l v i = some (binW v (l.drop i.toNat)) := by
  induction d with
  | zero =>
    intro k v i h0 hd hk hv
    obtain ⟨k, rfl⟩ : ∃ j, k = j + 1 := ⟨k - 1, by omega⟩
    simp only [winkleref05_Binary.l0]
    rw [if_neg (by omega), drop_end l i (by omega)]; rfl
  | succ d ih =>
    intro k v i h0 hd hk hv
    obtain ⟨k, rfl⟩ : ∃ j, k = j + 1 := ⟨k - 1, by omega⟩
    simp only [winkleref05_Binary.l0]
    by_cases h : i < (l.length : Int)
    · rw [if_pos h, drop_rd l i h0 h, w64 h0 h hl]
      have hr := rd_byte hb i
      by_cases hg : v ≥ 36028797018963968
      · rw [if_pos hg]; simp [binW, hg]
      · rw [if_neg hg, if_pos h0, wu64, wu64, wu64, show (256 * v % 18446744073709551616 + rd l i % 18446744073709551616) % 18446744073709551616 = 256 * v + rd l i by omega, ih k _ (i + 1) (by omega) (by omega) (by omega) (by omega)]
        simp [binW, hg]
    · rw [if_neg h, drop_end l i h]; rfl
theorem and63 (c : Int) (h : 128 ≤ c ∧ c < 192) : Go.bits .and .u8 c 63 = c - 128 := by
  have := @u8_and63 c (by omega) (by omega); omega
theorem numBin (l : List Int) (hb : Bytes l) (hl : (l.length : Int) ≤ 140737488355328) (k : Nat) (hk : l.length + 3 < k) : number_Binary.f k l = some (binF l) := by
  obtain ⟨k, rfl⟩ : ∃ j, k = j + 1 := ⟨k - 1, by omega⟩
  cases l with
  | nil => simp [number_Binary.f, number_Binary.j0, binF]
  | cons c cs =>
    have hc := hb c (by simp)
    have hcs : Bytes cs := fun x hx => hb x (by simp [hx])
    have hr : rd (c :: cs) 0 = c := by simp [rd]
    unfold number_Binary.f
    rw [if_neg (by simp <;> omega), if_pos (by simp <;> omega), hr]
    simp only [number_Binary.j0, hr]
    by_cases h : 128 ≤ c ∧ c < 192
    · rw [if_neg (by simp <;> omega), if_pos (by simp <;> omega), if_pos (by simp <;> omega), and63 c h, wu64]
      have := numBin_l cs hcs (by simp at hl; omega) cs.length k ((c - 128) % 18446744073709551616) 0 (by omega) (by omega) (by simp at hk; omega) (by omega)
      simp only [List.drop_succ_cons, List.drop_zero, Int.toNat_zero] at this ⊢
      rw [this, binF, if_pos h]
      congr 2; omega
    · rw [if_pos (by simp <;> omega), binF, if_neg h]
theorem refBin (l : List Int) (hb : Bytes l) (hl : (l.length : Int) ≤ 140737488355328) (k : Nat) (hk : l.length + 3 < k) : winkleref05_Binary.f k l = some (binF l) := by
  obtain ⟨k, rfl⟩ : ∃ j, k = j + 1 := ⟨k - 1, by omega⟩
  cases l with
  | nil => simp [winkleref05_Binary.f, winkleref05_Binary.j0, binF]
  | cons c cs =>
    have hc := hb c (by simp)
    have hr : rd (c :: cs) 0 = c := by simp [rd]
    unfold winkleref05_Binary.f
    rw [if_neg (by simp <;> omega), if_pos (by simp <;> omega), hr]
    simp only [winkleref05_Binary.j0, hr]
    by_cases h : 128 ≤ c ∧ c < 192
    · rw [if_neg (show ¬ c < 128 by omega), if_neg (by simp <;> omega), if_pos (by simp <;> omega)]
      have := refBin_l (c :: cs) hb hl (c :: cs).length k ((c - 128) % 256) 1 (by omega) (by omega) (by omega) (by omega)
      simp only [Int.toNat_one, List.drop_succ_cons, List.drop_zero] at this
      rw [this, binF, if_pos h]
      congr 2; omega
    · rw [binF, if_neg h]
      by_cases h2 : c < 128
      · rw [if_pos h2, if_pos trivial]
      · rw [if_neg h2, if_pos (by simp <;> omega)]
def fieldF (l : List Int) : Int × Bool := match l with
  | [] => (0, true)
  | c :: cs => if 128 ≤ c then binF (c :: cs) else (if octW 0 0 (c :: cs) ≥ 9223372036854775808 then (0, false) else (octW 0 0 (c :: cs), true))
theorem numField (l : List Int) (hb : Bytes l) (hl : (l.length : Int) ≤ 140737488355328) (k : Nat) (hk : l.length + 5 < k) : number_Field.f k l = some (fieldF l) := by
  obtain ⟨k, rfl⟩ : ∃ j, k = j + 1 := ⟨k - 1, by omega⟩
  cases l with
  | nil => simp [number_Field.f, number_Field.j0, fieldF, octal_f, octRes, octW]
  | cons c cs =>
    have hc := hb c (by simp)
    have hr : rd (c :: cs) 0 = c := by simp [rd]
    unfold number_Field.f
    rw [if_pos (by simp <;> omega), if_pos (by simp <;> omega), hr]
    simp only [number_Field.j0]
    rw [numBin _ hb hl k (by omega), octal_f]
    by_cases h : 128 ≤ c
    · rw [if_pos (by simp <;> omega)]; simp [fieldF, h]
    · rw [if_neg (by simp <;> omega)]; simp [fieldF, h, octRes]
theorem refField (l : List Int) (hb : Bytes l) (hl : (l.length : Int) ≤ 140737488355328) (k : Nat) (hk : 4 * l.length + 9 < k) : winkleref05_Field.f k l = some (fieldF l) := by
  obtain ⟨k, rfl⟩ : ∃ j, k = j + 1 := ⟨k - 1, by omega⟩
  cases l with
  | nil => 
    simp [winkleref05_Field.f, winkleref05_Field.j0, fieldF]
    rw [refOctal [] (by simp) k (by simp; simp at hk; omega)]; simp [octal_f, octRes, octW]
  | cons c cs =>
    have hr : rd (c :: cs) 0 = c := by simp [rd]
    unfold winkleref05_Field.f
    rw [if_pos (by simp <;> omega), if_pos (by simp <;> omega), hr]
    simp only [winkleref05_Field.j0]
    rw [refBin _ hb hl k (by omega), refOctal _ hl k (by omega), octal_f]
    by_cases h : 128 ≤ c
    · rw [if_pos (by simp <;> omega)]; simp [fieldF, h]
    · rw [if_neg (by simp <;> omega)]; simp [fieldF, h, octRes]
theorem bytes_of {l : List Int} (h : ∀ x ∈ l, (Lit.int .u8 x).wf = true) : Bytes l := fun x hx => by
  have := h x hx
  simpa [Lit.wf, IntKind.min, IntKind.max, IntKind.signed, IntKind.bits] using this
end Go.Proofs.Ytlomhifacokgmaa.Num
