/- Plain: blanks ahead of octal digits, and blanks or noughts behind them, change nothing; another byte in their place makes the field none; for every list of digits and counts. -/
import Derived.Test.YtlomhifacokgmaaNum
import Derived.Test.YtlomhifacokgmaaPAllx3
namespace Go.Proofs.Ytlomhifacokgmaa.Pure
open Go.Proofs.YtlomhifacokgmaaW.PrintMore Go.RowKit Go.Proofs.Ytlomhifacokgmaa.PAll Go.Proofs.YtlomhifacokgmaaW.PrintWords Go.Proofs.YtlomhifacokgmaaW.PrintLast Go.Proofs.Ytlomhifacokgmaa.Num
set_option linter.unusedVariables false

def Digs (l : List Int) : Prop := ∀ x ∈ l, 48 ≤ x ∧ x ≤ 55
def Tail (l : List Int) : Prop := ∀ x ∈ l, x = 0 ∨ x = 32
def val (v : Int) : List Int → Int
  | [] => v
  | c :: cs => val (8 * v + (c - 48)) cs
theorem pow8_le {m n : Nat} (h : m ≤ n) : (8 : Int) ^ m ≤ 8 ^ n := by exact_mod_cast Nat.pow_le_pow_right (by decide : 0 < 8) h
theorem val_bound (n : Nat) : ∀ (l : List Int) (v : Int) (m : Nat), Digs l → l.length ≤ n → 0 ≤ v → v < 8 ^ m → 0 ≤ val v l ∧ val v l < 8 ^ (m + n) := by
  induction n with
  | zero =>
    intro l v m hd hn h0 h1
    obtain rfl : l = [] := List.eq_nil_of_length_eq_zero (by omega)
    exact ⟨h0, h1⟩
  | succ n ih =>
    intro l v m hd hn h0 h1
    cases l with
    | nil => exact ⟨h0, Int.lt_of_lt_of_le h1 (pow8_le (by omega))⟩
    | cons c cs =>
      have hc := hd c (by simp)
      have := ih cs (8 * v + (c - 48)) (m + 1) (fun x hx => hd x (by simp [hx])) (by simp at hn; omega) (by omega) (by rw [Int.pow_succ]; omega)
      rw [show m + (n + 1) = m + 1 + n by omega]
      exact this
theorem octW_digs (l T : List Int) : ∀ (v p : Int) (m : Nat), Digs l → 0 ≤ v → v < 8 ^ m → m + l.length ≤ 20 → p < 2 → 0 ≤ p → ∃ p', p' < 2 ∧ 0 ≤ p' ∧ octW v p (l ++ T) = octW (val v l) p' T := by
  induction l with
  | nil => intro v p m hd h0 h1 hl hp hp0; exact ⟨p, hp, hp0, rfl⟩
  | cons c cs ih =>
    intro v p m hd h0 h1 hl hp hp0
    have hc := hd c (by simp)
    simp only [List.length_cons] at hl
    have hv : v < 1152921504606846976 := by
      have : (8 : Int) ^ m ≤ 8 ^ 19 := pow8_le (by omega)
      have h2 : (8 : Int) ^ 19 = 144115188075855872 := by decide
      omega
    obtain ⟨p', hp', hp0', e⟩ := ih (8 * v + (c - 48)) 1 (m + 1) (fun x hx => hd x (by simp [hx])) (by omega) (by rw [Int.pow_succ]; omega) (by omega) (by omega) (by omega)
    refine ⟨p', hp', hp0', ?_⟩
    rw [List.cons_append, octW_digit _ _ _ _ ⟨hc.1, hc.2, hp⟩, if_neg (by omega), e]; rfl
theorem octW_tl (T : List Int) : ∀ (v p : Int), Tail T → octW v p T = v := by
  induction T with
  | nil => intros; rfl
  | cons c cs ih =>
    intro v p h
    have hc := h c (by simp)
    have hcs : Tail cs := fun x hx => h x (by simp [hx])
    by_cases h1 : c = 32 ∧ p = 0
    · obtain ⟨rfl, rfl⟩ := h1
      rw [octW_skip, ih _ _ hcs]
    · rw [octW_tail _ _ _ _ (by omega), ih _ _ hcs]
theorem octW_tl_bad (T : List Int) : ∀ (v p : Int), Tail T → octW v p (T ++ [56]) = 9223372036854775808 := by
  induction T with
  | nil => intro v p h; exact octW_bad _ _ _ _ (by omega) (by omega) (by omega)
  | cons c cs ih =>
    intro v p h
    have hc := h c (by simp)
    have hcs : Tail cs := fun x hx => h x (by simp [hx])
    rw [List.cons_append]
    by_cases h1 : c = 32 ∧ p = 0
    · obtain ⟨rfl, rfl⟩ := h1
      rw [octW_skip, ih _ _ hcs]
    · rw [octW_tail _ _ _ _ (by omega), ih _ _ hcs]
theorem octW_ahead (a : Nat) (v : Int) (X : List Int) : octW v 0 (List.replicate a 32 ++ X) = octW v 0 X := by
  induction a with
  | zero => rfl
  | succ a ih => rw [List.replicate_succ, List.cons_append, octW_skip, ih]
/-- the three readings. -/
theorem readings (D T : List Int) (a : Nat) (hD : Digs D) (hn : D.length ≤ 20) (hT : Tail T) :
    number_Octal.f D = some (val 0 D, true) ∧ number_Octal.f (List.replicate a 32 ++ D ++ T) = some (val 0 D, true) ∧ (number_Octal.f (List.replicate a 32 ++ D ++ T ++ [56]) = some (0, false)) ∧ 0 ≤ val 0 D ∧ val 0 D < 1152921504606846976 := by
  have hv := val_bound 20 D 0 0 hD hn (by omega) (by decide)
  have h2 : (8 : Int) ^ (0 + 20) = 1152921504606846976 := by decide
  obtain ⟨p, hp, hp0, e⟩ := octW_digs D [] 0 0 0 hD (by omega) (by decide) (by omega) (by omega) (by omega)
  obtain ⟨q, hq, hq0, f⟩ := octW_digs D T 0 0 0 hD (by omega) (by decide) (by omega) (by omega) (by omega)
  obtain ⟨r, hr, hr0, g⟩ := octW_digs D (T ++ [56]) 0 0 0 hD (by omega) (by decide) (by omega) (by omega) (by omega)
  rw [List.append_nil] at e
  have e1 : octW 0 0 D = val 0 D := e
  have e2 : octW 0 0 (List.replicate a 32 ++ D ++ T) = val 0 D := by rw [List.append_assoc, octW_ahead, f, octW_tl _ _ _ hT]
  have e3 : octW 0 0 (List.replicate a 32 ++ D ++ T ++ [56]) = 9223372036854775808 := by
    rw [List.append_assoc, List.append_assoc, octW_ahead, g, octW_tl_bad _ _ _ hT]
  refine ⟨?_, ?_, ?_, hv.1, by omega⟩
  · rw [octal_f, e1, octRes, if_neg (by omega)]
  · rw [octal_f, e2, octRes, if_neg (by omega)]
  · rw [octal_f, e3, octRes, if_pos (by omega)]
/-! the loops -/
theorem l3_loop (D : List Int) (hD : Digs D) (hn : D.length ≤ 20) (V : Int) (d : Nat) : ∀ (k : Nat) (i u : Int), 0 ≤ i → i ≤ D.length → (D.length : Int) - i ≤ d → d < k → 0 ≤ u → u < 8 ^ i.toNat → val u (D.drop i.toNat) = V →
    winklelaw05_NumberBlanks.l3 k D V true V true false u i = some true := by
  induction d with
  | zero =>
    intro k i u h0 h1 hd hk hu hu1 hV
    obtain ⟨k, rfl⟩ : ∃ j, k = j + 1 := ⟨k - 1, by omega⟩
    simp only [winklelaw05_NumberBlanks.l3]
    rw [drop_end D i (by omega)] at hV
    rw [if_neg (by omega), if_pos trivial]; simp [val] at hV; simp [hV]
  | succ d ih =>
    intro k i u h0 h1 hd hk hu hu1 hV
    obtain ⟨k, rfl⟩ : ∃ j, k = j + 1 := ⟨k - 1, by omega⟩
    simp only [winklelaw05_NumberBlanks.l3]
    by_cases h : i < (D.length : Int)
    · rw [if_pos h, if_pos h0, w64 h0 h (by omega), wu64, wu64]
      have hr : 48 ≤ rd D i ∧ rd D i ≤ 55 := by
        have : rd D i ∈ D.drop i.toNat := by rw [drop_rd D i h0 h]; simp
        exact hD _ (List.mem_of_mem_drop this)
      have hp : (8 : Int) ^ (i.toNat + 1) ≤ 8 ^ 20 := pow8_le (by omega)
      have h2 : (8 : Int) ^ 20 = 1152921504606846976 := by decide
      have hs : (8 : Int) ^ (i.toNat + 1) = 8 ^ i.toNat * 8 := Int.pow_succ ..
      rw [show (8 * u % 18446744073709551616 + (rd D i - 48) % 256) % 18446744073709551616 = 8 * u + (rd D i - 48) by omega]
      exact ih k (i + 1) _ (by omega) (by omega) (by omega) (by omega) (by omega) (by rw [show (i + 1).toNat = i.toNat + 1 by omega]; omega) (by rw [drop_rd D i h0 h] at hV; exact hV)
    · rw [drop_end D i h] at hV
      rw [if_neg h, if_pos trivial]; simp [val] at hV; simp [hV]
theorem bit_tail (x2 i : Int) (h : 0 ≤ x2) (h' : x2 ≤ 255) : (32 * (Go.bits .and .u8 (shr .u8 x2 (IntKind.u64.wrap (Int.tmod i 8))) 1)) % 256 = 0 ∨ (32 * (Go.bits .and .u8 (shr .u8 x2 (IntKind.u64.wrap (Int.tmod i 8))) 1)) % 256 = 32 := by
  have hs : 0 ≤ shr .u8 x2 (IntKind.u64.wrap (Int.tmod i 8)) ∧ shr .u8 x2 (IntKind.u64.wrap (Int.tmod i 8)) ≤ 255 := by
    unfold shr
    generalize min (IntKind.u64.wrap (Int.tmod i 8)).toNat IntKind.u8.bits = m
    have hp : (1 : Int) ≤ 2 ^ m := by have := Nat.one_le_two_pow (n := m); exact_mod_cast this
    exact ⟨Int.ediv_nonneg h (by omega), Int.le_trans (Int.ediv_le_self _ h) h'⟩
  generalize shr .u8 x2 (IntKind.u64.wrap (Int.tmod i 8)) = y at *
  have := bits_mask .u8 8 (by decide) wraps_u8 1 (by omega) y hs.1 (by omega)
  rw [show ((2 : Int) ^ 1 - 1) = 1 by decide, show (2 : Int) ^ 1 = 2 by decide] at this
  rw [this]; omega
theorem l2_loop (D : List Int) (hD : Digs D) (hn : D.length ≤ 20) (x2 : Int) (hx : 0 ≤ x2 ∧ x2 ≤ 255) (a : Nat) (ha : a ≤ 8) (d : Nat) : ∀ (k : Nat) (T : List Int) (i : Int), 0 ≤ i → Tail T → T.length = i.toNat → i ≤ 9 → (9 : Int) - i ≤ d → d + 22 < k →
    winklelaw05_NumberBlanks.l2 k x2 D (val 0 D) true (List.replicate a 32 ++ D ++ T) i = some true := by
  have fin : ∀ (k : Nat) (T : List Int), Tail T → T.length ≤ 9 → 21 < k → ((number_Octal.f (List.replicate a 32 ++ D ++ T)).bind fun bt165 => ((some (([] : List Int) : List Int)).bind fun y167 => (if y167.length + (List.replicate a 32 ++ D ++ T).length < 140737488355328 then ((some (y167 ++ (List.replicate a 32 ++ D ++ T) : List Int)).bind fun y170 => (if y170.length < 140737488355328 then ((number_Octal.f (y170 ++ [56])).bind fun bt176 => (winklelaw05_NumberBlanks.l3 k D (val 0 D) true bt165.1 bt165.2 bt176.2 0 0)) else (none))) else (none)))) = some true := by
    intro k T hT hTl hk
    obtain ⟨r1, r2, r3, r4, r5⟩ := readings D T a hD hn hT
    rw [r2]
    simp only [Option.bind_some, List.nil_append]
    rw [if_pos (by simp; omega), if_pos (by simp; omega), r3]
    simp only [Option.bind_some]
    exact l3_loop D hD hn _ D.length k 0 0 (by omega) (by omega) (by omega) (by omega) (by omega) (by decide) rfl
  induction d with
  | zero =>
    intro k T i h0 hT hTl hi hd hk
    obtain ⟨k, rfl⟩ : ∃ j, k = j + 1 := ⟨k - 1, by omega⟩
    simp only [winklelaw05_NumberBlanks.l2]
    rw [if_neg (by rw [Int.tmod_eq_emod_of_nonneg hx.1]; unfold wrap64; omega)]
    exact fin k T hT (by omega) (by omega)
  | succ d ih =>
    intro k T i h0 hT hTl hi hd hk
    obtain ⟨k, rfl⟩ : ∃ j, k = j + 1 := ⟨k - 1, by omega⟩
    simp only [winklelaw05_NumberBlanks.l2]
    by_cases h : i < wrap64 (Int.tmod x2 9)
    · have h8 : i < 9 := by rw [Int.tmod_eq_emod_of_nonneg hx.1] at h; unfold wrap64 at h; omega
      rw [if_pos h, if_pos (by rw [wu64]; omega), if_pos (by simp; omega), w64 h0 h8 (by omega)]
      have hb := bit_tail x2 i hx.1 hx.2
      generalize (32 * (Go.bits .and .u8 (shr .u8 x2 (IntKind.u64.wrap (Int.tmod i 8))) 1)) % 256 = c at *
      rw [List.append_assoc _ T]
      exact ih k (T ++ [c]) (i + 1) (by omega) (fun x hxm => by
        rcases List.mem_append.1 hxm with hm | hm
        · exact hT x hm
        · rw [List.mem_singleton] at hm; rw [hm]; exact hb) (by simp; omega) (by omega) (by omega) (by omega)
    · rw [if_neg h]
      exact fin k T hT (by omega) (by omega)
theorem l1_loop (D : List Int) (hD : Digs D) (hn : D.length ≤ 20) (x1 x2 : Int) (hy : 0 ≤ x1 ∧ x1 ≤ 255) (hx : 0 ≤ x2 ∧ x2 ≤ 255) (d : Nat) : ∀ (k : Nat) (a : Nat), a ≤ 8 → 8 - a ≤ d → d + 40 < k →
    winklelaw05_NumberBlanks.l1 k x1 x2 D (val 0 D) true (List.replicate a 32) (a : Int) = some true := by
  have fin : ∀ (k : Nat) (a : Nat), a ≤ 8 → 32 < k → (if (List.replicate a (32 : Int)).length + D.length < 140737488355328 then (winklelaw05_NumberBlanks.l2 k x2 D (val 0 D) true (List.replicate a 32 ++ D) 0) else (none)) = some true := by
    intro k a ha hk
    rw [if_pos (by simp; omega)]
    have := l2_loop D hD hn x2 hx a ha 9 k [] 0 (by omega) (fun x hx => by cases hx) rfl (by omega) (by omega) (by omega)
    rwa [List.append_nil] at this
  induction d with
  | zero =>
    intro k a ha hd hk
    obtain ⟨k, rfl⟩ : ∃ j, k = j + 1 := ⟨k - 1, by omega⟩
    simp only [winklelaw05_NumberBlanks.l1]
    rw [if_neg (by rw [Int.tmod_eq_emod_of_nonneg hy.1]; unfold wrap64; omega)]
    exact fin k a ha (by omega)
  | succ d ih =>
    intro k a ha hd hk
    obtain ⟨k, rfl⟩ : ∃ j, k = j + 1 := ⟨k - 1, by omega⟩
    simp only [winklelaw05_NumberBlanks.l1]
    by_cases h : (a : Int) < wrap64 (Int.tmod x1 9)
    · have h8 : (a : Int) < 8 := by rw [Int.tmod_eq_emod_of_nonneg hy.1] at h; unfold wrap64 at h; omega
      rw [if_pos h, if_pos (by simp; omega), w64 (by omega) h8 (by omega)]
      have := ih k (a + 1) (by omega) (by omega) (by omega)
      rw [List.replicate_succ'] at this
      exact_mod_cast this
    · rw [if_neg h]
      exact fin k a ha (by omega)
theorem l0_loop (l : List Int) (hb : Bytes l) (x1 x2 : Int) (hy : 0 ≤ x1 ∧ x1 ≤ 255) (hx : 0 ≤ x2 ∧ x2 ≤ 255) (hl : (l.length : Int) ≤ 140737488355328) (d : Nat) : ∀ (k : Nat) (D : List Int) (i : Int), 0 ≤ i → Digs D → D.length = i.toNat → i ≤ 20 → (20 : Int) - i ≤ d → d + 70 < k →
    winklelaw05_NumberBlanks.l0 k l x1 x2 D i = some true := by
  have fin : ∀ (k : Nat) (D : List Int), Digs D → D.length ≤ 20 → 60 < k → winklelaw05_NumberBlanks.j1 k x1 x2 D = some true := by
    intro k D hD hn hk
    obtain ⟨k, rfl⟩ : ∃ j, k = j + 1 := ⟨k - 1, by omega⟩
    simp only [winklelaw05_NumberBlanks.j1]
    rw [(readings D [] 0 hD hn (fun x hx => by cases hx)).1]
    simp only [Option.bind_some]
    exact l1_loop D hD hn x1 x2 hy hx 8 k 0 (by omega) (by omega) (by omega)
  induction d with
  | zero =>
    intro k D i h0 hD hDl hi hd hk
    obtain ⟨k, rfl⟩ : ∃ j, k = j + 1 := ⟨k - 1, by omega⟩
    simp only [winklelaw05_NumberBlanks.l0]
    have hj := fin k D hD (by omega) (by omega)
    by_cases h : i < (l.length : Int)
    · rw [if_pos h, if_neg (show ¬ i < 20 by omega), hj]
    · rw [if_neg h, hj]
  | succ d ih =>
    intro k D i h0 hD hDl hi hd hk
    obtain ⟨k, rfl⟩ : ∃ j, k = j + 1 := ⟨k - 1, by omega⟩
    simp only [winklelaw05_NumberBlanks.l0]
    have hj := fin k D hD (by omega) (by omega)
    by_cases h : i < (l.length : Int)
    · rw [if_pos h]
      by_cases h20 : i < 20
      · rw [if_pos h20, if_pos h0, if_pos (by omega), w64 h0 h20 (by omega)]
        have hr := rd_byte hb i
        refine ih k _ (i + 1) (by omega) (fun x hxm => ?_) (by simp; omega) (by omega) (by omega) (by omega)
        rcases List.mem_append.1 hxm with hm | hm
        · exact hD x hm
        · rw [List.mem_singleton] at hm
          rw [hm, Int.tmod_eq_emod_of_nonneg hr.1]; omega
      · rw [if_neg h20, hj]
    · rw [if_neg h, hj]
theorem u8_of {x : Int} (h : (Lit.int .u8 x).wf = true) : 0 ≤ x ∧ x ≤ 255 := by
  simpa [Lit.wf, IntKind.min, IntKind.max, IntKind.signed, IntKind.bits] using h
theorem NumberBlanks : winklelaw05_NumberBlanks.Pure := by
  intro l x1 x2 h1 h2 h3 w1 w2
  refine ⟨100, ?_⟩
  unfold winklelaw05_NumberBlanks.f
  exact l0_loop l (bytes_of h3) x1 x2 (u8_of w1) (u8_of w2) (by omega) 20 100 [] 0 (by omega) (fun x hx => by cases hx) rfl (by omega) (by omega) (by omega)
end Go.Proofs.Ytlomhifacokgmaa.Pure
