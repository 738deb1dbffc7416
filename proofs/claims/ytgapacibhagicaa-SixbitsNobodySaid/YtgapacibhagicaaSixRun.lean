/- Plain: the document's reading and the decoder's reading are one run; rows are compared; what is awake. -/
import Derived.Test.YtgapacibhagicaaSix
namespace Go.Proofs.Ytgapacibhagicaa.Six
open Go.RowKit Go.Proofs.Ytgapacibhagicaa.PAll Go.Proofs.YtgapacibhagicaaW.PrintWords Go.Proofs.YtgapacibhagicaaW.PrintLast Go.Proofs.YtgapacibhagicaaW.PrintMore
set_option linter.unusedVariables false
def Bytes (l : List Int) : Prop := ∀ x ∈ l, 0 ≤ x ∧ x ≤ 255
theorem bytes_of {l : List Int} (h : ∀ x ∈ l, (Lit.int .u8 x).wf = true) : Bytes l := fun x hx => by simpa [Lit.wf, IntKind.min, IntKind.max, IntKind.signed, IntKind.bits] using h x hx
theorem rd_mid (pre : List Int) (c : Int) (r : List Int) : rd (pre ++ c :: r) (pre.length : Int) = c := by simp [rd]
/-- what is read from the place P, the pads Q and the bits H on stays as it should. -/
def Ok (P Q H : Int) : Prop := 0 ≤ P ∧ P ≤ 3 ∧ 0 ≤ Q ∧ 0 ≤ H ∧ H < 4096
theorem ok_st {P Q H : Int} (h : Ok P Q H) (c : Int) : Ok (st P Q H c).P (st P Q H c).Q (st P Q H c).H := by
  have hv := vl_range c
  unfold st Ok at *
  repeat' split
  all_goals dsimp only
  all_goals omega
theorem Q_st (P Q H : Int) (c : Int) : (st P Q H c).Q ≤ Q + 1 := by
  unfold st
  repeat' split
  all_goals dsimp only
  all_goals omega
theorem err_st (P Q H : Int) (c : Int) : (st P Q H c).err = 0 ∨ (st P Q H c).err = 21 ∨ (st P Q H c).err = 20 := by
  unfold st
  repeat' split
  all_goals simp
theorem has_st (P Q H : Int) (c : Int) (h : (st P Q H c).has = true) : (st P Q H c).err = 0 := by
  revert h; unfold st
  repeat' split
  all_goals simp
theorem b_st (P Q H : Int) (c : Int) (h : (st P Q H c).has = false) : (st P Q H c).b = 0 := by
  revert h; unfold st
  repeat' split
  all_goals simp
  intro a
  omega
theorem sh_i64 (P x : Int) (h1 : 1 ≤ P) (h3 : P ≤ 3) (hx : 0 ≤ x) (hx2 : x < 4096) : shr .i64 (wrap64 x) (IntKind.u64.wrap (wrap64 (6 - (wrap64 (2 * P))))) = x / 2 ^ (6 - 2 * P).toNat := by
  rw [w64 x (by omega) (by omega), w64 (2 * P) (by omega) (by omega), w64 _ (by omega) (by omega), wu64, show (6 - 2 * P) % 18446744073709551616 = 6 - 2 * P by omega]
  exact (shr_small (k := .i64) rfl (show 6 - 2 * P ≤ ((64 : Nat) : Int) by omega)).symm
theorem step_cur (P : Int) (h0 : 0 ≤ P) (h3 : P ≤ 3) : Int.tmod (wrap64 (P + 1)) 4 = (P + 1) % 4 := by
  rw [w64 _ (by omega) (by omega), Int.tmod_eq_emod_of_nonneg (by omega)]
theorem hold_cur (H v : Int) (h0 : 0 ≤ H) (h1 : H < 4096) (hv0 : 0 ≤ v) (hv : v < 64) : wrap64 ((wrap64 ((Int.tmod H 64) * 64)) + v) = H % 64 * 64 + v := by
  rw [Int.tmod_eq_emod_of_nonneg h0, w64 (_ * 64) (by omega) (by omega), w64 _ (by omega) (by omega)]
theorem of_run (L : List Int) (hL : Bytes L) (hLn : L.length ≤ 8388608) (rest : List Int) : ∀ (pre : List Int) (k : Nat) (P Q H : Int) (o t : List Int), L = pre ++ rest → Ok P Q H → Q ≤ pre.length → o.length ≤ pre.length → t.length ≤ pre.length → 3 * rest.length + 24 ≤ k →
    winkleref10_Of.l0 k L P Q H (pre.length : Int) o t 0 (L.length : Int) = some (o ++ (run rest pre.length P Q H).out, t ++ (run rest pre.length P Q H).times, (run rest pre.length P Q H).why, (run rest pre.length P Q H).pos) := by
  induction rest with
  | nil =>
    intro pre k P Q H o t hp hok hq ho ht hk
    obtain ⟨k, rfl⟩ : ∃ j, k = j + 1 := ⟨k - 1, by omega⟩
    simp only [winkleref10_Of.l0, run]
    have : L.length = pre.length := by rw [hp]; simp
    rw [if_neg (by omega), this]
    by_cases h : P = 0
    · rw [if_pos h, if_pos h]; simp
    · rw [if_neg h, if_neg h]; simp
  | cons c r ih =>
    intro pre k P Q H o t hp hok hq ho ht hk
    have hlen : L.length = pre.length + r.length + 1 := by rw [hp]; simp; omega
    have hc : 0 ≤ c ∧ c ≤ 255 := hL c (by rw [hp]; simp)
    obtain ⟨k, rfl⟩ : ∃ j, k = j + 1 := ⟨k - 1, by omega⟩
    have hrd : rd L (pre.length : Int) = c := by rw [hp]; exact rd_mid _ _ _
    have hi : wrap64 ((pre.length : Int) + 1) = (pre.length : Int) + 1 := w64 _ (by omega) (by omega)
    have hpl : (pre ++ [c]).length = pre.length + 1 := by simp
    have hnl : (((pre ++ [c]).length : Nat) : Int) = (pre.length : Int) + 1 := by simp
    have hnext := fun k P Q H o t h1 h2 h3 h4 h5 => ih (pre ++ [c]) k P Q H o t (by rw [hp]; simp) h1 h2 h3 h4 h5
    rw [hnl, hpl] at hnext
    have hok' := ok_st hok c
    have hv := vl_range c
    rw [List.length_cons] at hk
    simp only [winkleref10_Of.l0]
    rw [if_pos (by omega), if_pos (by omega), hrd, blank_f c hc.1 hc.2, Option.bind_some, hi]
    simp only [run]
    by_cases hb : vl c = 64
    · rw [if_pos (by simp [hb])]
      have es : st P Q H c = ⟨0, false, 0, P, Q, H⟩ := by unfold st; rw [if_pos hb]
      rw [es, if_pos rfl, if_neg (by simp)]
      exact hnext k P Q H o t hok (by omega) (by omega) (by omega) (by omega)
    rw [if_neg (by simp [hb]), refvalue_f c hc.1 hc.2 _ (by omega), Option.bind_some]
    have hj : ∀ b : Bool, b = decide (0 < Q ∧ P = 0) → winkleref10_Of.j1 k L P Q H (pre.length : Int) (if vl c < 64 then vl c else -1) b o t 0 (L.length : Int) = some (o ++ (run (c :: r) pre.length P Q H).out, t ++ (run (c :: r) pre.length P Q H).times, (run (c :: r) pre.length P Q H).why, (run (c :: r) pre.length P Q H).pos) := by
      intro b hbb
      obtain ⟨k, rfl⟩ : ∃ j, k = j + 1 := ⟨k - 1, by omega⟩
      simp only [winkleref10_Of.j1, run]
      rw [hi]
      by_cases h1 : 0 < Q ∧ P = 0
      · rw [if_pos (by rw [hbb]; simp [h1])]
        have es : st P Q H c = ⟨21, false, 0, P, Q, H⟩ := by unfold st; rw [if_neg hb, if_pos h1]
        rw [es]; simp
      rw [if_neg (by rw [hbb]; simp; omega), if_pos (by omega), if_pos (by omega), hrd]
      have hj2 : ∀ b : Bool, b = decide (c = 61 ∧ P < 2) → winkleref10_Of.j2 k L P Q H (pre.length : Int) (if vl c < 64 then vl c else -1) b o t 0 (L.length : Int) = some (o ++ (run (c :: r) pre.length P Q H).out, t ++ (run (c :: r) pre.length P Q H).times, (run (c :: r) pre.length P Q H).why, (run (c :: r) pre.length P Q H).pos) := by
        intro b hbb
        obtain ⟨k, rfl⟩ : ∃ j, k = j + 1 := ⟨k - 1, by omega⟩
        simp only [winkleref10_Of.j2, run]
        rw [hi, hrd]
        obtain ⟨hP0, hP3, hQ0, hH0, hH1⟩ := id hok
        by_cases h5 : vl c = 65
        · have h61 := (vl_pad c).1 h5
          by_cases h2 : P < 2
          · rw [if_pos (by rw [hbb]; simp [h61, h2])]
            have es : st P Q H c = ⟨21, false, 0, P, Q, H⟩ := by unfold st; rw [if_neg hb, if_neg h1, if_pos h5, if_pos h2]
            rw [es]; simp
          · rw [if_neg (by rw [hbb]; simp [h2]), if_pos (by omega), if_pos (by omega), if_pos h61, if_pos trivial]
            have es : st P Q H c = ⟨0, false, 0, (P + 1) % 4, Q + 1, H⟩ := by unfold st; rw [if_neg hb, if_neg h1, if_pos h5, if_neg h2]
            rw [es] at hok' ⊢
            rw [if_pos rfl, if_neg (show ¬ (false = true) by simp), step_cur P hP0 hP3, w64 (Q + 1) (by omega) (by omega)]
            exact hnext k _ _ _ o t hok' (by omega) (by omega) (by omega) (by omega)
        have h61 : c ≠ 61 := fun h => h5 ((vl_pad c).2 h)
        rw [if_neg (by rw [hbb]; simp [h61]), if_pos (by omega), if_pos (by omega), if_neg h61]
        by_cases hq0 : 0 < Q
        · rw [if_pos (show Q > 0 from hq0)]
          have es : st P Q H c = ⟨21, false, 0, P, Q, H⟩ := by unfold st; rw [if_neg hb, if_neg h1, if_neg h5, if_pos hq0]
          rw [es]; simp
        rw [if_neg (show ¬ Q > 0 from hq0)]
        by_cases h6 : vl c = 66
        · rw [if_pos (show (if vl c < 64 then vl c else -1) < 0 by rw [if_neg (by omega)]; decide)]
          have es : st P Q H c = ⟨20, false, 0, P, Q, H⟩ := by unfold st; rw [if_neg hb, if_neg h1, if_neg h5, if_neg hq0, if_pos h6]
          rw [es]; simp
        rw [show (if vl c < 64 then vl c else -1) = vl c from if_pos (by omega), if_neg (show ¬ vl c < 0 by omega)]
        rw [hold_cur H (vl c) hH0 hH1 hv.1 (by omega), step_cur P hP0 hP3]
        have es : st P Q H c = ⟨0, decide (0 < P), if 0 < P then byt P H (vl c) else 0, (P + 1) % 4, Q, H % 64 * 64 + vl c⟩ := by unfold st; rw [if_neg hb, if_neg h1, if_neg h5, if_neg hq0, if_neg h6]
        rw [es] at hok' ⊢
        by_cases hp0 : 0 < P
        · rw [if_pos (show P > 0 from hp0), if_pos (by rw [wu64]; omega), if_pos (by omega), Option.bind_some, if_pos (by omega), Option.bind_some, if_pos trivial, if_pos rfl, if_pos (show decide (0 < P) = true by simp [hp0]), if_pos hp0]
          have eb : shr .i64 (H % 64 * 64 + vl c) (IntKind.u64.wrap (wrap64 (6 - (wrap64 (2 * P))))) % 256 = byt P H (vl c) := by
            have := sh_i64 P (H % 64 * 64 + vl c) (by omega) hP3 (by omega) (by omega)
            rw [w64 (H % 64 * 64 + vl c) (by omega) (by omega)] at this
            rw [this]; rfl
          rw [eb, hnext k _ _ _ _ _ hok' (show Q ≤ _ by omega) (by simp; omega) (by simp; omega) (by omega)]
          simp
        · rw [if_neg (show ¬ P > 0 from hp0), if_pos trivial, if_pos rfl, if_neg (show ¬ decide (0 < P) = true by simp [hp0])]
          exact hnext k _ _ _ o t hok' (by omega) (by omega) (by omega) (by omega)
      by_cases h61 : c = 61
      · rw [if_pos h61]; exact hj2 _ (by simp [h61])
      · rw [if_neg h61]; exact hj2 _ (by simp [h61])
    by_cases hq0 : Q > 0
    · rw [if_pos hq0]; exact hj _ (by rw [Bool.eq_iff_iff]; simp; omega)
    · rw [if_neg hq0]; exact hj _ (by rw [Bool.eq_iff_iff]; simp; omega)
theorem of_f (L : List Int) (hL : Bytes L) (hLn : L.length ≤ 8388608) (k : Nat) (hk : 3 * L.length + 24 ≤ k) : winkleref10_Of.f k L = some ((run L 0 0 0 0).out, (run L 0 0 0 0).times, (run L 0 0 0 0).why, (run L 0 0 0 0).pos) := by
  have := of_run L hL hLn L [] k 0 0 0 [] [] rfl (by unfold Ok; omega) (by simp) (by simp) (by simp) hk
  simpa [winkleref10_Of.f] using this
theorem whole_run (L : List Int) (hL : Bytes L) (hLn : L.length ≤ 8388608) (rest : List Int) : ∀ (pre : List Int) (k : Nat) (p q h : Int) (last : Bool) (P Q H : Int) (o : List Int), L = pre ++ rest → Rel p q h last P Q H → o.length ≤ pre.length → rest.length + 8 ≤ k →
    sixbits_Whole.l0 k L o L (L.length : Int) (pre.length : Int) p q h last 0 = some (o ++ (run rest pre.length P Q H).out, (run rest pre.length P Q H).why, (run rest pre.length P Q H).pos) := by
  induction rest with
  | nil =>
    intro pre k p q h last P Q H o hp R ho hk
    obtain ⟨k, rfl⟩ : ∃ j, k = j + 1 := ⟨k - 1, by omega⟩
    simp only [sixbits_Whole.l0, run]
    have : L.length = pre.length := by rw [hp]; simp
    obtain ⟨_, _, _, _, _, he, _⟩ := end_f R
    rw [if_neg (by omega), he, this]
    simp
  | cons c r ih =>
    intro pre k p q h last P Q H o hp R ho hk
    have hlen : L.length = pre.length + r.length + 1 := by rw [hp]; simp; omega
    have hc : 0 ≤ c ∧ c ≤ 255 := hL c (by rw [hp]; simp)
    obtain ⟨k, rfl⟩ : ∃ j, k = j + 1 := ⟨k - 1, by omega⟩
    have hrd : rd L (pre.length : Int) = c := by rw [hp]; exact rd_mid _ _ _
    have hi : wrap64 ((pre.length : Int) + 1) = (pre.length : Int) + 1 := w64 _ (by omega) (by omega)
    have hpl : (pre ++ [c]).length = pre.length + 1 := by simp
    have hnl : (((pre ++ [c]).length : Nat) : Int) = (pre.length : Int) + 1 := by simp
    have hnext := fun k p q h last P Q H o h1 h2 h3 => ih (pre ++ [c]) k p q h last P Q H o (by rw [hp]; simp) h1 h2 h3
    rw [hnl, hpl] at hnext
    rw [List.length_cons] at hk
    simp only [sixbits_Whole.l0]
    obtain ⟨p', q', h', last', e, hR⟩ := put_st R c hc.1 hc.2 k (by omega)
    rw [if_pos (by omega), if_pos (by omega), if_pos (by omega), hrd, e, Option.bind_some, hi]
    simp only [run]
    by_cases h0 : (st P Q H c).err = 0
    · rw [if_pos h0, if_pos h0]
      rw [h0]
      by_cases hh : (st P Q H c).has = true
      · rw [if_pos hh, if_pos hh, if_pos (by omega), hnext k _ _ _ _ _ _ _ _ (hR h0) (by simp; omega) (by omega)]
        simp
      · rw [if_neg hh, if_neg hh]
        exact hnext k _ _ _ _ _ _ _ _ (hR h0) (by omega) (by omega)
    · rw [if_neg h0, if_neg h0]
      simp
theorem whole_f (L : List Int) (hL : Bytes L) (hLn : L.length ≤ 8388608) (k : Nat) (hk : L.length + 8 ≤ k) : sixbits_Whole.f k L = some ((run L 0 0 0 0).out, (run L 0 0 0 0).why, (run L 0 0 0 0).pos) := by
  have := whole_run L hL hLn L [] k 0 0 0 false 0 0 0 [] rfl rel0 (by simp) hk
  simpa [sixbits_Whole.f, sixbits_New.f] using this
theorem same_run (L M : List Int) (hlen : L.length = M.length) (hLn : L.length ≤ 9007199254740992) : ∀ (n k i : Nat), i + n = L.length → n < k → L.drop i = M.drop i → winkleref03_Same.l0 k L M (i : Int) = some true := by
  intro n
  induction n with
  | zero =>
    intro k i hi hk h
    obtain ⟨k, rfl⟩ : ∃ j, k = j + 1 := ⟨k - 1, by omega⟩
    simp only [winkleref03_Same.l0]
    rw [if_neg (by omega)]
  | succ n ih =>
    intro k i hi hk h
    obtain ⟨k, rfl⟩ : ∃ j, k = j + 1 := ⟨k - 1, by omega⟩
    simp only [winkleref03_Same.l0]
    rw [if_pos (by omega), if_pos (by omega), if_pos (by omega)]
    rw [List.drop_eq_getElem_cons (show i < L.length by omega), List.drop_eq_getElem_cons (show i < M.length by omega)] at h
    have h1 : rd L (i : Int) = rd M (i : Int) := by
      have := (List.cons.inj h).1
      simpa [rd, show i < L.length by omega, show i < M.length by omega] using this
    rw [if_pos h1, w64 _ (by omega) (by omega)]
    exact ih k (i + 1) (by omega) (by omega) (List.cons.inj h).2
theorem same_f (L : List Int) (hLn : L.length ≤ 9007199254740992) (k : Nat) (hk : L.length < k) : winkleref03_Same.f k L L = some true := by
  unfold winkleref03_Same.f
  rw [if_pos rfl]
  exact same_run L L rfl hLn L.length k 0 (by omega) hk rfl
end Go.Proofs.Ytgapacibhagicaa.Six
