/- Plain: a number that is written into a field is read out of it again; what fits a field fits a wider one; for every number and every width. -/
import Derived.Test.YtlomhifacokgmaaNum
namespace Go.Proofs.Ytlomhifacokgmaa.Pure
open Go.Proofs.YtlomhifacokgmaaW.PrintMore Go.RowKit Go.Proofs.Ytlomhifacokgmaa.PAll Go.Proofs.YtlomhifacokgmaaW.PrintWords Go.Proofs.YtlomhifacokgmaaW.PrintLast Go.Proofs.Ytlomhifacokgmaa.Num
set_option linter.unusedVariables false

/-- the m lowest digits to the base B, each with z added, the highest first. -/
def dg (B z : Nat) : Nat → Nat → List Int
  | 0, _ => []
  | m + 1, v => ((z + v / B ^ m % B : Nat) : Int) :: dg B z m v
theorem dg_length (B z : Nat) (m : Nat) (v : Nat) : (dg B z m v).length = m := by
  induction m with
  | zero => rfl
  | succ m ih => simp [dg, ih]
theorem div_next (v B m : Nat) : v / B ^ m / B = v / B ^ (m + 1) := by rw [Nat.pow_succ, Nat.div_div_eq_div_mul]
theorem set_mid (n : Nat) (L D : List Int) (c y : Int) (h : L.length = n) : (L ++ c :: D).set n y = L ++ y :: D := by
  subst h; simp
theorem and7 (x : Int) (h0 : 0 ≤ x) (h1 : x < 18446744073709551616) : Go.bits .and .u64 x 7 = x % 8 := by
  have := bits_mask .u64 64 (by decide) (fun n h0 h1 => by rw [wu64]; omega) 3 (by omega) x h0 (by omega)
  simpa using this
theorem take_set (L D : List Int) (i : Nat) (y : Int) (h : i < L.length) : (L.take (i + 1) ++ D).set i y = L.take i ++ y :: D := by
  rw [List.take_succ_eq_append_getElem h, List.append_assoc, List.singleton_append]
  exact set_mid i _ _ _ _ (by simp; omega)
theorem l1_run (V : Nat) (L : List Int) (hL : 0 < L.length) (h64 : L.length ≤ 64) (i : Nat) : ∀ (k j : Nat), i + j + 1 = L.length → i < k →
    number_Put.l1 k (L.take (i + 1) ++ dg 256 0 j V) ((V / 256 ^ j : Nat) : Int) (i : Int) = some (if V / 256 ^ (L.length - 1) = 0 then (128 :: dg 256 0 (L.length - 1) V, true) else ([], false)) := by
  induction i with
  | zero =>
    intro k j hj hk
    obtain ⟨k, rfl⟩ : ∃ n, k = n + 1 := ⟨k - 1, by omega⟩
    obtain rfl : j = L.length - 1 := by omega
    simp only [number_Put.l1]
    rw [if_neg (by omega)]
    by_cases h : V / 256 ^ (L.length - 1) = 0
    · rw [if_pos (by omega), if_pos h, if_pos (by simp; omega)]
      have := take_set L (dg 256 0 (L.length - 1) V) 0 128 hL
      rw [show (0 : Int).toNat = 0 from rfl, this]; simp
    · rw [if_neg (by omega), if_neg h]
  | succ i ih =>
    intro k j hj hk
    obtain ⟨k, rfl⟩ : ∃ n, k = n + 1 := ⟨k - 1, by omega⟩
    simp only [number_Put.l1]
    rw [if_pos (by omega), if_pos (by omega), if_pos (by simp [dg_length]; omega)]
    rw [show wrap64 (((i + 1 : Nat) : Int) - 1) = (i : Int) by unfold wrap64; omega, show (((i + 1 : Nat) : Int)).toNat = i + 1 by omega, take_set L _ (i + 1) _ (by omega)]
    have e1 : ((V / 256 ^ j : Nat) : Int) / 256 = ((V / 256 ^ (j + 1) : Nat) : Int) := by rw [← div_next]; omega
    have e2 : ((V / 256 ^ j : Nat) : Int) % 256 = ((0 + V / 256 ^ j % 256 : Nat) : Int) := by omega
    rw [e1, e2]
    exact ih k (j + 1) (by omega) (by omega)
theorem rep_set (n : Nat) (D : List Int) (y : Int) : (List.replicate (n + 1) (0 : Int) ++ D).set n y = List.replicate n 0 ++ y :: D := by
  rw [List.replicate_succ', List.append_assoc, List.singleton_append]
  exact set_mid n _ _ _ _ (by simp)
def putR (V w : Nat) : List Int × Bool := if V / 8 ^ (w - 1) = 0 then (dg 8 48 (w - 1) V ++ [0], true) else if V / 256 ^ (w - 1) = 0 then (128 :: dg 256 0 (w - 1) V, true) else ([], false)
theorem l0_run (V : Nat) (hV : V < 18446744073709551616) (w : Nat) (hw : 2 ≤ w) (h64 : w ≤ 64) (n : Nat) : ∀ (k j : Nat), n + j + 1 = w → n + 70 < k →
    number_Put.l0 k (V : Int) (w : Int) (List.replicate n 0 ++ (dg 8 48 j V ++ [0])) ((V / 8 ^ j : Nat) : Int) ((n : Int) - 1) = some (putR V w) := by
  induction n with
  | zero =>
    intro k j hj hk
    obtain ⟨k, rfl⟩ : ∃ m, k = m + 1 := ⟨k - 1, by omega⟩
    obtain rfl : j = w - 1 := by omega
    simp only [number_Put.l0]
    rw [if_neg (by omega)]
    unfold putR
    by_cases h : V / 8 ^ (w - 1) = 0
    · rw [if_pos (by omega), if_pos h]; simp
    · rw [if_neg (by omega), if_neg h]
      have hl : (dg 8 48 (w - 1) V ++ [(0 : Int)]).length = w := by simp [dg_length]; omega
      have := l1_run V (dg 8 48 (w - 1) V ++ [0]) (by omega) (by omega) (w - 1) k 0 (by omega) (by omega)
      rw [hl, show w - 1 + 1 = w by omega] at this
      rw [List.take_of_length_le (by omega)] at this
      simp only [dg, List.append_nil, Nat.pow_zero, Nat.div_one] at this
      rw [show wrap64 ((w : Int) - 1) = ((w - 1 : Nat) : Int) by unfold wrap64; omega]
      simpa using this
  | succ n ih =>
    intro k j hj hk
    obtain ⟨k, rfl⟩ : ∃ m, k = m + 1 := ⟨k - 1, by omega⟩
    simp only [number_Put.l0]
    have hb : V / 8 ^ j ≤ V := Nat.div_le_self _ _
    rw [if_pos (by omega), if_pos (by omega), if_pos (by simp [dg_length]; omega)]
    have e0 : Go.bits .and .u64 ((V / 8 ^ j : Nat) : Int) 7 = ((V / 8 ^ j % 8 : Nat) : Int) := by
      generalize V / 8 ^ j = q at hb ⊢
      rw [and7 _ (by omega) (by omega)]; omega
    rw [e0, show ((((n + 1 : Nat) : Int) - 1)).toNat = n by omega, rep_set, show wrap64 (((n + 1 : Nat) : Int) - 1 - 1) = (n : Int) - 1 by unfold wrap64; omega]
    have e1 : ((V / 8 ^ j : Nat) : Int) / 8 = ((V / 8 ^ (j + 1) : Nat) : Int) := by rw [← div_next]; omega
    have e2 : (48 + ((V / 8 ^ j % 8 : Nat) : Int) % 256) % 256 = ((48 + V / 8 ^ j % 8 : Nat) : Int) := by
      generalize V / 8 ^ j = q
      omega
    rw [e1, e2]
    exact ih k (j + 1) (by omega) (by omega)
theorem put_f (V : Nat) (hV : V < 18446744073709551616) (w : Int) (k : Nat) (hk : 140 < k) :
    number_Put.f k (V : Int) w = some (if 2 ≤ w ∧ w ≤ 64 ∧ V < 9223372036854775808 then putR V w.toNat else ([], false)) := by
  obtain ⟨k, rfl⟩ : ∃ m, k = m + 1 := ⟨k - 1, by omega⟩
  have hj : number_Put.j0 (k + 1) (V : Int) w true = some ([], false) := by simp only [number_Put.j0, if_true]
  unfold number_Put.f
  by_cases h2 : w < 2
  · rw [if_pos h2, hj, if_neg (by omega)]
  · rw [if_neg h2]
    by_cases h64 : w > 64
    · rw [if_pos h64, hj, if_neg (by omega)]
    · rw [if_neg h64]
      by_cases hv : (V : Int) ≥ 9223372036854775808
      · rw [decide_eq_true hv, hj, if_neg (by omega)]
      · rw [decide_eq_false hv, if_pos (by omega)]
        simp only [number_Put.j0]
        rw [if_neg (by decide), if_pos (by omega), if_pos (by omega)]
        have := l0_run V hV w.toNat (by omega) (by omega) (w.toNat - 1) k 0 (by omega) (by omega)
        simp only [dg, List.nil_append, Nat.pow_zero, Nat.div_one] at this
        rw [show List.replicate w.toNat (0 : Int) = List.replicate (w.toNat - 1) 0 ++ [0] by rw [← List.replicate_succ']; congr 1; omega]
        rw [show wrap64 (w - 2) = ((w.toNat - 1 : Nat) : Int) - 1 by unfold wrap64; omega]
        rw [show ((w.toNat : Nat) : Int) = w by omega] at this
        exact this
/-! reading -/
theorem octW_dg (T : List Int) (v m : Nat) : ∀ (V p : Int), 0 ≤ V → p < 2 → V * 8 ^ m + ((v % 8 ^ m : Nat) : Int) < 9223372036854775808 → ∃ p' : Int, p' < 2 ∧ octW V p (dg 8 48 m v ++ T) = octW (V * 8 ^ m + ((v % 8 ^ m : Nat) : Int)) p' T := by
  induction m with
  | zero => intro V p h0 hp hb; exact ⟨p, hp, by simp [dg, Nat.mod_one]⟩
  | succ m ih =>
    intro V p h0 hp hb
    have hm : v % 8 ^ (m + 1) = 8 ^ m * (v / 8 ^ m % 8) + v % 8 ^ m := by
      rw [Nat.pow_succ, Nat.mod_mul]; omega
    have hpos : (1 : Int) ≤ 8 ^ m := by exact_mod_cast Nat.one_le_pow _ _ (by decide)
    have hps : (8 : Int) ^ (m + 1) = 8 ^ m * 8 := Int.pow_succ ..
    have hd : ((v / 8 ^ m % 8 : Nat) : Int) ≤ 7 := by omega
    have e1 : V * 8 ^ (m + 1) + ((v % 8 ^ (m + 1) : Nat) : Int) = (8 * V + ((v / 8 ^ m % 8 : Nat) : Int)) * 8 ^ m + ((v % 8 ^ m : Nat) : Int) := by
      rw [hm, hps, Int.natCast_add, Int.natCast_mul, Int.add_mul]
      have : ((8 ^ m : Nat) : Int) = (8 : Int) ^ m := Int.natCast_pow 8 m
      rw [this]
      generalize (8 : Int) ^ m = P
      generalize ((v / 8 ^ m % 8 : Nat) : Int) = D
      rw [Int.mul_comm P D, show V * (P * 8) = 8 * V * P by rw [Int.mul_comm P 8, ← Int.mul_assoc, Int.mul_comm V 8]]
      omega
    have hV : ¬ V ≥ 1152921504606846976 := by
      intro hc
      have h1 : V * 8 ≤ V * 8 ^ (m + 1) := Int.mul_le_mul_of_nonneg_left (by omega) h0
      omega
    rw [e1] at hb ⊢
    obtain ⟨p', hp', e⟩ := ih (8 * V + ((v / 8 ^ m % 8 : Nat) : Int)) 1 (by omega) (by omega) hb
    refine ⟨p', hp', ?_⟩
    rw [← e]
    show octW V p (((48 + v / 8 ^ m % 8 : Nat) : Int) :: (dg 8 48 m v ++ T)) = _
    rw [octW_digit _ _ _ _ (by omega), if_neg hV]
    congr 1; omega
theorem binW_dg (v m : Nat) : ∀ (V : Int), 0 ≤ V → V * 256 ^ m + ((v % 256 ^ m : Nat) : Int) < 9223372036854775808 → binW V (dg 256 0 m v) = (V * 256 ^ m + ((v % 256 ^ m : Nat) : Int), true) := by
  induction m with
  | zero =>
    intro V h0 hb
    show (V, true) = _
    rw [Nat.pow_zero, Nat.mod_one, Int.pow_zero, Int.mul_one]; simp only [Int.natCast_zero, Int.add_zero]
  | succ m ih =>
    intro V h0 hb
    have hm : v % 256 ^ (m + 1) = 256 ^ m * (v / 256 ^ m % 256) + v % 256 ^ m := by
      rw [Nat.pow_succ, Nat.mod_mul]; omega
    have hpos : (1 : Int) ≤ 256 ^ m := by
      have h1 : 1 ≤ 256 ^ m := Nat.one_le_pow _ _ (by decide)
      have h2 : ((256 ^ m : Nat) : Int) = (256 : Int) ^ m := Int.natCast_pow 256 m
      omega
    have hps : (256 : Int) ^ (m + 1) = 256 ^ m * 256 := Int.pow_succ ..
    have e1 : V * 256 ^ (m + 1) + ((v % 256 ^ (m + 1) : Nat) : Int) = (256 * V + ((v / 256 ^ m % 256 : Nat) : Int)) * 256 ^ m + ((v % 256 ^ m : Nat) : Int) := by
      rw [hm, hps, Int.natCast_add, Int.natCast_mul, Int.add_mul]
      have : ((256 ^ m : Nat) : Int) = (256 : Int) ^ m := Int.natCast_pow 256 m
      rw [this]
      generalize (256 : Int) ^ m = P
      generalize ((v / 256 ^ m % 256 : Nat) : Int) = D
      rw [Int.mul_comm P D, show V * (P * 256) = 256 * V * P by rw [Int.mul_comm P 256, ← Int.mul_assoc, Int.mul_comm V 256]]
      omega
    have hV : ¬ V ≥ 36028797018963968 := by
      intro hc
      have h1 : V * 256 ≤ V * 256 ^ (m + 1) := Int.mul_le_mul_of_nonneg_left (by omega) h0
      omega
    rw [e1] at hb ⊢
    have := ih (256 * V + ((v / 256 ^ m % 256 : Nat) : Int)) (by omega) hb
    rw [← this]
    show binW V (((0 + v / 256 ^ m % 256 : Nat) : Int) :: dg 256 0 m v) = _
    simp only [binW]
    rw [if_neg hV, Nat.zero_add]
theorem dg_bytes (B z m v : Nat) (hB : 0 < B) (h : z + B ≤ 256) : Bytes (dg B z m v) := by
  induction m with
  | zero => intro x hx; cases hx
  | succ m ih =>
    intro x hx
    rcases List.mem_cons.1 hx with rfl | hx
    · have := Nat.mod_lt (v / B ^ m) hB; omega
    · exact ih x hx
/-- what is put is read. -/
theorem read_put (V w : Nat) (hw : 2 ≤ w) (h64 : w ≤ 64) (hV : V < 9223372036854775808) (h : (putR V w).2 = true) : fieldF (putR V w).1 = ((V : Int), true) ∧ (putR V w).1.length = w ∧ Bytes (putR V w).1 := by
  unfold putR at *
  by_cases h8 : V / 8 ^ (w - 1) = 0
  · rw [if_pos h8]
    have hlt : V < 8 ^ (w - 1) := (Nat.div_eq_zero_iff_lt (Nat.pow_pos (by decide))).1 h8
    obtain ⟨p', hp', e⟩ := octW_dg [0] V (w - 1) 0 0 (by omega) (by omega) (by rw [Nat.mod_eq_of_lt hlt]; omega)
    rw [Nat.mod_eq_of_lt hlt, octW_tail _ _ _ _ (.inl rfl)] at e
    simp only [octW] at e
    refine ⟨?_, by simp [dg_length]; omega, ?_⟩
    · obtain ⟨m, hm⟩ : ∃ m, w - 1 = m + 1 := ⟨w - 2, by omega⟩
      rw [hm] at e ⊢
      show (if (128 : Int) ≤ ((48 + V / 8 ^ m % 8 : Nat) : Int) then _ else _) = _
      rw [if_neg (by omega)]
      show (if octW 0 0 (dg 8 48 (m + 1) V ++ [0]) ≥ 9223372036854775808 then ((0 : Int), false) else (octW 0 0 (dg 8 48 (m + 1) V ++ [0]), true)) = _
      rw [e, if_neg (by omega)]; simp
    · intro x hx
      rcases List.mem_append.1 hx with hx | hx
      · exact dg_bytes 8 48 (w - 1) V (by decide) (by decide) x hx
      · rw [List.mem_singleton] at hx; omega
  · rw [if_neg h8] at h ⊢
    by_cases h256 : V / 256 ^ (w - 1) = 0
    · rw [if_pos h256]
      have hlt : V < 256 ^ (w - 1) := (Nat.div_eq_zero_iff_lt (Nat.pow_pos (by decide))).1 h256
      have e := binW_dg V (w - 1) 0 (by omega) (by rw [Nat.mod_eq_of_lt hlt]; omega)
      rw [Nat.mod_eq_of_lt hlt] at e
      refine ⟨?_, by simp [dg_length]; omega, ?_⟩
      · simp only [fieldF, binF]
        rw [if_pos (by omega), if_pos (by omega), show (128 : Int) - 128 = 0 from rfl, e]; simp
      · intro x hx
        rcases List.mem_cons.1 hx with rfl | hx
        · omega
        · exact dg_bytes 256 0 (w - 1) V (by decide) (by decide) x hx
    · rw [if_neg h256] at h; cases h
theorem put_ok (V w : Nat) (hw : 2 ≤ w) : (putR V w).2 = true ↔ V < 256 ^ (w - 1) := by
  unfold putR
  have h1 : V / 8 ^ (w - 1) = 0 ↔ V < 8 ^ (w - 1) := Nat.div_eq_zero_iff_lt (Nat.pow_pos (by decide))
  have h2 : V / 256 ^ (w - 1) = 0 ↔ V < 256 ^ (w - 1) := Nat.div_eq_zero_iff_lt (Nat.pow_pos (by decide))
  have h3 : 8 ^ (w - 1) ≤ 256 ^ (w - 1) := Nat.pow_le_pow_left (by decide) _
  by_cases h8 : V / 8 ^ (w - 1) = 0
  · rw [if_pos h8]; exact ⟨fun _ => by omega, fun _ => rfl⟩
  · rw [if_neg h8]
    by_cases h256 : V / 256 ^ (w - 1) = 0
    · rw [if_pos h256]; exact ⟨fun _ => by omega, fun _ => rfl⟩
    · rw [if_neg h256]; exact ⟨fun h => (by cases h), fun h => (by omega)⟩
theorem NumberBack : winklelaw05_NumberBack.Pure := by
  intro a0 a1 w0 w1
  have hx : 0 ≤ a0 ∧ a0 ≤ 18446744073709551615 := by simpa [Lit.wf, IntKind.min, IntKind.max, IntKind.signed, IntKind.bits] using w0
  have hy : 0 ≤ a1 ∧ a1 ≤ 255 := by simpa [Lit.wf, IntKind.min, IntKind.max, IntKind.signed, IntKind.bits] using w1
  obtain ⟨V, rfl⟩ := Int.eq_ofNat_of_zero_le hx.1
  have hw : wrap64 (Int.tmod a1 66) = a1 % 66 := by rw [Int.tmod_eq_emod_of_nonneg hy.1]; unfold wrap64; omega
  have hf1 : number_Field.f 200 [49] = some (1, true) := by
    rw [numField [49] (by intro x hx; simp at hx; omega) (by decide) _ (by simp)]; rfl
  refine ⟨200, ?_⟩
  unfold winklelaw05_NumberBack.f
  rw [hw, hf1]
  have hw0 : 0 ≤ a1 % 66 ∧ a1 % 66 ≤ 65 := by omega
  generalize a1 % 66 = w at *
  rw [show wrap64 (w + 1) = w + 1 by unfold wrap64; omega]
  rw [put_f V (by omega) w 200 (by omega), put_f V (by omega) (w + 1) 200 (by omega)]
  simp only [Option.bind_some]
  by_cases hg : 2 ≤ w ∧ w ≤ 64 ∧ V < 9223372036854775808
  · rw [if_pos hg]
    cases hok : (putR V w.toNat).2 with
    | true =>
      rw [if_pos trivial]
      obtain ⟨r1, r2, r3⟩ := read_put V w.toNat (by omega) (by omega) hg.2.2 hok
      rw [numField _ r3 (by omega) 200 (by omega), r1]
      simp only [Option.bind_some, if_true]
      rw [if_pos (show ((putR V w.toNat).1.length : Int) = w by omega)]
      by_cases h64 : w = 64
      · rw [if_neg (show ¬ (2 ≤ w + 1 ∧ w + 1 ≤ 64 ∧ V < 9223372036854775808) by omega)]; subst h64; rfl
      · rw [if_pos (show 2 ≤ w + 1 ∧ w + 1 ≤ 64 ∧ V < 9223372036854775808 by omega)]
        have h1 := (put_ok V w.toNat (by omega)).1 hok
        have h2 : 256 ^ (w.toNat - 1) ≤ 256 ^ ((w + 1).toNat - 1) := Nat.pow_le_pow_right (by decide) (by omega)
        rw [if_pos ((put_ok V (w + 1).toNat (by omega)).2 (by omega))]
    | false =>
      rw [if_neg (by decide)]
      have hno : ¬ V < 256 ^ (w.toNat - 1) := fun hc => by rw [(put_ok V w.toNat (by omega)).2 hc] at hok; cases hok
      have hnil : (putR V w.toNat).1 = [] := by
        unfold putR at hok ⊢
        split at hok
        · cases hok
        · split at hok
          · cases hok
          · rename_i h1 h2; rw [if_neg h1, if_neg h2]
      rw [if_pos (by omega), if_pos (by omega), if_pos (by omega)]
      have h9 : ¬ w > 8 := by
        intro hc
        have : 256 ^ 8 ≤ 256 ^ (w.toNat - 1) := Nat.pow_le_pow_right (by decide) (by omega)
        omega
      rw [if_neg h9]
      have hm : mx w 1 = w := by unfold mx; rw [if_neg (by omega)]
      have hsh : IntKind.u64.wrap (8 * IntKind.u64.wrap (wrap64 (mx w 1 - 1))) = ((8 * (w.toNat - 1) : Nat) : Int) := by
        rw [hm, wu64, wu64]; unfold wrap64; omega
      rw [hsh, if_pos (by omega)]
      have hs : shl .u64 1 ((8 * (w.toNat - 1) : Nat) : Int) = ((256 ^ (w.toNat - 1) : Nat) : Int) := by
        unfold shl
        have h8 : min (((8 * (w.toNat - 1) : Nat) : Int)).toNat IntKind.u64.bits = 8 * (w.toNat - 1) := by
          simp only [IntKind.bits]; omega
        rw [h8, wu64]
        have hp : (256 : Nat) ^ (w.toNat - 1) = 2 ^ (8 * (w.toNat - 1)) := by rw [Nat.pow_mul]
        have hle : 256 ^ (w.toNat - 1) ≤ 256 ^ 7 := Nat.pow_le_pow_right (by decide) (by omega)
        have hc : (2 : Int) ^ (8 * (w.toNat - 1)) = ((256 ^ (w.toNat - 1) : Nat) : Int) := by rw [hp]; simp
        rw [hc]
        generalize 256 ^ (w.toNat - 1) = q at hle ⊢
        omega
      rw [hs, if_neg (by omega), if_pos trivial, hnil]; rfl
  · rw [if_neg hg]
    rw [if_neg (show ¬ ((([] : List Int), false).2 = true) by decide)]
    by_cases h1 : (V : Int) < 9223372036854775808
    · rw [if_pos h1]
      by_cases h2 : w ≥ 2
      · rw [if_pos h2]
        rw [if_neg (show ¬ w ≤ 64 by omega)]; rfl
      · rw [if_neg h2]; rfl
    · rw [if_neg h1]; rfl
end Go.Proofs.Ytlomhifacokgmaa.Pure
