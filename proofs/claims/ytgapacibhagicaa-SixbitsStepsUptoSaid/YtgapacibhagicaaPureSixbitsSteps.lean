import Derived.Test.YtgapacibhagicaaPureSixbitsWhole
import Derived.Test.YtgapacibhagicaaPAllx8
namespace Go.Proofs.Ytgapacibhagicaa.Six
open Go.RowKit Go.Proofs.Ytgapacibhagicaa.PAll Go.Proofs.YtgapacibhagicaaW.PrintWords Go.Proofs.YtgapacibhagicaaW.PrintLast
set_option linter.unusedVariables false
theorem times_ge (l : List Int) : ∀ (i P Q H : Int), (∀ t ∈ (run l i P Q H).times, i ≤ t) ∧ i ≤ (run l i P Q H).pos ∧ (run l i P Q H).times.length = (run l i P Q H).out.length := by
  induction l with
  | nil => intro i P Q H; simp [run]
  | cons c r ih =>
    intro i P Q H
    simp only [run]
    obtain ⟨h1, h2, h3⟩ := ih (i + 1) (st P Q H c).P (st P Q H c).Q (st P Q H c).H
    split
    · split
      · refine ⟨?_, by dsimp only; omega, by simp [h3]⟩
        intro t ht
        rcases List.mem_cons.1 ht with rfl | ht
        · omega
        · have := h1 t ht; omega
      · exact ⟨fun t ht => by have := h1 t ht; omega, by omega, h3⟩
    · simp
/-- the checks of one step, once told that they hold. -/
theorem j3_go (k : Nat) (L : List Int) (told i : Int) (has : Bool) (why : Int) (p q h : Int) (last : Bool) (e : Int) (A T : List Int) (W M : Int)
    (hs : (if W = 0 then false else decide (M ≤ i)) = (why != 0)) (hw : W ≠ 0 → M ≤ i → why = W) :
    winklelaw10_SixbitsSteps.j3 (k + 1) L told i has why false p q h last e A T W M = winklelaw10_SixbitsSteps.l1 k L (if has = true then wrap64 (told + 1) else told) (wrap64 (i + 1)) p q h last e A T W M := by
  simp only [winklelaw10_SixbitsSteps.j3]
  rw [if_neg (show ¬ (false = true) by simp)]
  by_cases hW : W = 0
  · rw [if_pos hW] at hs
    rw [← hs]
    cases has
    · rw [if_neg (show ¬ (false = true) by simp), if_pos hW, if_neg (show ¬ (false != false) = true by simp), if_neg (show ¬ (false = true) by simp)]
    · rw [if_pos rfl, if_pos hW, if_neg (show ¬ (false != false) = true by simp), if_pos rfl]
  · rw [if_neg hW] at hs
    rw [← hs]
    have hne : ¬ (decide (M ≤ i) != decide (M ≤ i)) = true := by simp
    cases has
    · rw [if_neg (show ¬ (false = true) by simp), if_neg hW, if_neg hne, if_neg (show ¬ (false = true) by simp)]
      by_cases hM : M ≤ i
      · rw [if_pos hM, if_pos (hw hW hM)]
      · rw [if_neg hM]
    · rw [if_pos rfl, if_neg hW, if_neg hne, if_pos rfl]
      by_cases hM : M ≤ i
      · rw [if_pos hM, if_pos (hw hW hM)]
      · rw [if_neg hM]
theorem l1_step (k : Nat) (L : List Int) (told i : Nat) (b why : Int) (has : Bool) (p q h : Int) (last : Bool) (e : Int) (p' q' h' : Int) (last' : Bool) (e' : Int) (A T : List Int) (W M : Int)
    (hi : i < L.length) (hLn : L.length ≤ 1048576) (hTA : T.length = A.length) (hta : told ≤ A.length) (hA : A.length ≤ 1048576)
    (hput : sixbits_Decoder_Put.f (k + 2) p q h last e (rd L (i : Int)) = some (b, has, why, p', q', h', last', e'))
    (hhas : has = if told < A.length then (rd T (told : Int) == (i : Int)) else false)
    (hb : has = true → b = rd A (told : Int)) (hb0 : has = false → b = 0)
    (hs : (if W = 0 then false else decide (M ≤ (i : Int))) = (why != 0)) (hw : W ≠ 0 → M ≤ (i : Int) → why = W) :
    winklelaw10_SixbitsSteps.l1 (k + 3) L (told : Int) (i : Int) p q h last e A T W M = winklelaw10_SixbitsSteps.l1 k L ((if has = true then told + 1 else told : Nat) : Int) ((i + 1 : Nat) : Int) p' q' h' last' e' A T W M := by
  have hj : ∀ want : Bool, want = has → winklelaw10_SixbitsSteps.j2 (k + 2) L (told : Int) (i : Int) b has why want p' q' h' last' e' A T W M = winklelaw10_SixbitsSteps.l1 k L ((if has = true then told + 1 else told : Nat) : Int) ((i + 1 : Nat) : Int) p' q' h' last' e' A T W M := by
    intro want hwant
    have e1 : (if has = true then wrap64 ((told : Int) + 1) else (told : Int)) = ((if has = true then told + 1 else told : Nat) : Int) := by
      split
      · rw [w64 _ (by omega) (by omega)]; rfl
      · rfl
    have e2 : wrap64 ((i : Int) + 1) = ((i + 1 : Nat) : Int) := by rw [w64 _ (by omega) (by omega)]; rfl
    simp only [winklelaw10_SixbitsSteps.j2]
    rw [hwant, if_neg (show ¬ (has != has) = true by simp)]
    by_cases hh : has = true
    · have ht : told < A.length := by
        rcases Nat.lt_or_ge told A.length with h | h
        · exact h
        · rw [if_neg (by omega)] at hhas; rw [hhas] at hh; cases hh
      rw [if_pos hh, if_pos (by omega), if_pos (by omega), if_pos (hb hh), j3_go _ _ _ _ _ _ _ _ _ _ _ _ _ _ _ hs hw, e1, e2]
    · rw [if_neg hh, hb0 (by simpa using hh), show ((0 : Int) != 0) = false from rfl, j3_go _ _ _ _ _ _ _ _ _ _ _ _ _ _ _ hs hw, e1, e2]
  rw [show k + 3 = (k + 2) + 1 from rfl]
  conv => lhs; unfold winklelaw10_SixbitsSteps.l1
  rw [if_pos (by omega), if_pos (by omega), hput, Option.bind_some]
  dsimp only
  by_cases ht : told < A.length
  · rw [if_pos (by omega), if_pos (by omega), if_pos (by omega)]
    exact hj _ (by rw [hhas, if_pos ht])
  · rw [if_neg (by omega)]
    exact hj _ (by rw [hhas, if_neg ht])
theorem l1_end (k : Nat) (hk : 40 ≤ k) (L : List Int) (A : List Int) (T : List Int) (p q h : Int) (last : Bool) (e W M : Int) (p' q' h' : Int) (last' : Bool) (e' : Int) (p2 q2 h2 : Int) (last2 : Bool) (e2 : Int) (b why : Int)
    (hE1 : sixbits_Decoder_End.f p q h last e = some (W, p', q', h', last', e')) (hE2 : sixbits_Decoder_End.f p' q' h' last' e' = some (W, p2, q2, h2, last2, e2))
    (hput : ∀ k, 4 ≤ k → ∃ a1 a2 a3 a4 a5, sixbits_Decoder_Put.f k p2 q2 h2 last2 e2 61 = some (b, false, why, a1, a2, a3, a4, a5)) (hwhy : why ≠ 0) :
    winklelaw10_SixbitsSteps.l1 (k + 2) L (A.length : Int) (L.length : Int) p q h last e A T W M = some true := by
  conv => lhs; unfold winklelaw10_SixbitsSteps.l1
  rw [if_neg (by omega), hE1, Option.bind_some]
  dsimp only
  rw [if_pos rfl, hE2, Option.bind_some]
  dsimp only
  simp only [winklelaw10_SixbitsSteps.j4]
  obtain ⟨a1, a2, a3, a4, a5, hp⟩ := hput k (by omega)
  rw [if_neg (by simp), hp, Option.bind_some, if_pos trivial, if_neg (by simp)]
  dsimp only
  rw [if_neg hwhy, awake_f k hk]
  rfl
theorem run_err (L : List Int) (hLn : L.length ≤ 1048576) (A T : List Int) (hTA : T.length = A.length) (hA : A.length ≤ 1048576) (W M : Int) (hW : W ≠ 0) (p q h : Int) (last : Bool) (n : Nat) : ∀ (i k : Nat), i + n = L.length → M ≤ i → 3 * n + 50 ≤ k →
    winklelaw10_SixbitsSteps.l1 k L (A.length : Int) (i : Int) p q h last W A T W M = some true := by
  induction n with
  | zero =>
    intro i k hi hM hk
    obtain ⟨k, rfl⟩ : ∃ j, k = j + 2 := ⟨k - 2, by omega⟩
    obtain rfl : i = L.length := by omega
    exact l1_end k (by omega) L A T p q h last W W M _ _ _ _ _ _ _ _ _ _ 0 W (end_err p q h last W hW) (end_err p q h last W hW) (fun k _ => ⟨_, _, _, _, _, put_err p q h last W 61 hW k⟩) hW
  | succ n ih =>
    intro i k hi hM hk
    obtain ⟨k, rfl⟩ : ∃ j, k = j + 3 := ⟨k - 3, by omega⟩
    rw [l1_step k L A.length i 0 W false p q h last W _ _ _ _ _ A T W M (by omega) hLn hTA (Nat.le_refl _) hA (put_err p q h last W _ hW _) (by rw [if_neg (by omega)]) (by simp) (fun _ => rfl) (by rw [if_neg hW]; simp [hW, hM]) (fun _ _ => rfl)]
    exact ih (i + 1) k (by omega) (by omega) (by omega)
theorem steps_run (L : List Int) (hLb : Bytes L) (hLn : L.length ≤ 1048576) (A T : List Int) (hTA : T.length = A.length) (hA : A.length ≤ 1048576) (W M : Int) (rest : List Int) : ∀ (pre : List Int) (k : Nat) (p q h : Int) (last : Bool) (P Q H : Int) (a t : List Int), L = pre ++ rest → Rel p q h last P Q H → t.length = a.length →
    A = a ++ (run rest pre.length P Q H).out → T = t ++ (run rest pre.length P Q H).times → W = (run rest pre.length P Q H).why → M = (run rest pre.length P Q H).pos → 3 * rest.length + 60 ≤ k →
    winklelaw10_SixbitsSteps.l1 k L (a.length : Int) (pre.length : Int) p q h last 0 A T W M = some true := by
  induction rest with
  | nil =>
    intro pre k p q h last P Q H a t hp R hta eA eT eW eM hk
    obtain ⟨k, rfl⟩ : ∃ j, k = j + 2 := ⟨k - 2, by omega⟩
    simp only [run, List.append_nil] at eA eT eW eM
    have : L.length = pre.length := by rw [hp]; simp
    rw [← this, ← eA]
    obtain ⟨p', q', h', last', e', he, hee, hR⟩ := end_f R
    by_cases hP : P = 0
    · have hR' := hR hP
      rw [if_pos hP] at he hee eW
      subst hee
      obtain ⟨p2, q2, h2, last2, e2, he2, hee2, hR2⟩ := end_f hR'
      rw [if_pos hP] at he2 hee2
      subst hee2
      have hs : (st P Q H 61).err = 21 ∧ (st P Q H 61).has = false := by
        unfold st
        rw [show vl 61 = 65 from rfl, if_neg (by omega)]
        by_cases hQ : 0 < Q ∧ P = 0
        · rw [if_pos hQ]; exact ⟨rfl, rfl⟩
        · rw [if_neg hQ, if_pos rfl, if_pos (by omega)]; exact ⟨rfl, rfl⟩
      rw [eW]
      refine l1_end k (by omega) L A T p q h last 0 0 M _ _ _ _ _ _ _ _ _ _ (st P Q H 61).b 21 he he2 (fun k hk => ?_) (by decide)
      obtain ⟨a1, a2, a3, a4, hput, _⟩ := put_st (hR2 hP) 61 (by omega) (by omega) k hk
      rw [hs.1, hs.2] at hput
      exact ⟨_, _, _, _, _, hput⟩
    · rw [if_neg hP] at he hee eW
      subst hee
      rw [eW]
      exact l1_end k (by omega) L A T p q h last 0 1 M _ _ _ _ _ _ _ _ _ _ 0 1 he (end_err _ _ _ _ 1 (by decide)) (fun k _ => ⟨_, _, _, _, _, put_err _ _ _ _ 1 61 (by decide) k⟩) (by decide)
  | cons c r ih =>
    intro pre k p q h last P Q H a t hp R hta eA eT eW eM hk
    have hlen : L.length = pre.length + r.length + 1 := by rw [hp]; simp; omega
    have hc : 0 ≤ c ∧ c ≤ 255 := hLb c (by rw [hp]; simp)
    rw [List.length_cons] at hk
    obtain ⟨k, rfl⟩ : ∃ j, k = j + 3 := ⟨k - 3, by omega⟩
    have hrd : rd L (pre.length : Int) = c := by rw [hp]; exact rd_mid _ _ _
    have hpl : (pre ++ [c]).length = pre.length + 1 := by simp
    have hnl : ((pre.length + 1 : Nat) : Int) = (pre.length : Int) + 1 := by simp
    have hnext := fun k p q h last P Q H a t h1 => ih (pre ++ [c]) k p q h last P Q H a t (by rw [hp]; simp) h1
    rw [hpl] at hnext
    rw [hnl] at hnext
    obtain ⟨p', q', h', last', hput, hR⟩ := put_st R c hc.1 hc.2 (k + 2) (by omega)
    obtain ⟨g1, g2, g3⟩ := times_ge r ((pre.length : Int) + 1) (st P Q H c).P (st P Q H c).Q (st P Q H c).H
    simp only [run] at eA eT eW eM
    by_cases h0 : (st P Q H c).err = 0
    · rw [if_pos h0] at eA eT eW eM
      by_cases hh : (st P Q H c).has = true
      · rw [if_pos hh] at eA eT eW eM
        dsimp only at eA eT eW eM
        have hal : a.length < A.length := by rw [eA]; simp
        rw [l1_step k L a.length pre.length (st P Q H c).b 0 true p q h last 0 p' q' h' last' 0 A T W M (by omega) hLn hTA (by omega) hA (by rw [hrd, hput, h0, hh])
          (by rw [if_pos hal, eT, ← hta]; rw [rd_mid]; simp) (fun _ => by rw [eA, rd_mid]) (fun h => by cases h)
          (by by_cases hW : W = 0
              · rw [if_pos hW]; rfl
              · rw [if_neg hW, decide_eq_false (by omega)]; rfl) (fun _ h => absurd h (by omega))]
        rw [if_pos rfl, hnl]
        have := hnext k p' q' h' last' _ _ _ (a ++ [(st P Q H c).b]) (t ++ [(pre.length : Int)]) (hR h0) (by simp [hta]) (by rw [eA]; simp) (by rw [eT]; simp) eW eM (by omega)
        simpa using this
      · have hh' : (st P Q H c).has = false := by simpa using hh
        rw [if_neg hh] at eA eT eW eM
        rw [l1_step k L a.length pre.length (st P Q H c).b 0 false p q h last 0 p' q' h' last' 0 A T W M (by omega) hLn hTA (by rw [eA]; simp) hA (by rw [hrd, hput, h0, hh'])
          (by by_cases ht : a.length < A.length
              · rw [if_pos ht]
                have hgt : ∃ y ys, (run r ((pre.length : Int) + 1) (st P Q H c).P (st P Q H c).Q (st P Q H c).H).times = y :: ys := by
                  cases hz : (run r ((pre.length : Int) + 1) (st P Q H c).P (st P Q H c).Q (st P Q H c).H).times with
                  | nil => rw [hz] at g3; rw [eA, List.length_append, ← g3] at ht; simp at ht
                  | cons y ys => exact ⟨y, ys, rfl⟩
                obtain ⟨y, ys, hy⟩ := hgt
                have := g1 y (by rw [hy]; simp)
                rw [eT, hy, ← hta, rd_mid]
                simp; omega
              · rw [if_neg ht]) (fun h => by cases h) (fun _ => b_st P Q H c hh')
          (by by_cases hW : W = 0
              · rw [if_pos hW]; rfl
              · rw [if_neg hW, decide_eq_false (by omega)]; rfl) (fun _ h => absurd h (by omega))]
        rw [if_neg (show ¬ (false = true) by simp), hnl]
        exact hnext k p' q' h' last' _ _ _ a t (hR h0) hta eA eT eW eM (by omega)
    · rw [if_neg h0] at eA eT eW eM
      simp only [List.append_nil] at eA eT eW eM
      have hh : (st P Q H c).has = false := by
        cases hz : (st P Q H c).has
        · rfl
        · exact absurd (has_st P Q H c hz) h0
      have eA' := eA.symm
      have eT' := eT.symm
      clear eA eT
      subst eA' eT'
      subst eW eM
      rw [l1_step k L a.length pre.length (st P Q H c).b (st P Q H c).err false p q h last 0 p' q' h' last' (st P Q H c).err a t _ _ (by omega) hLn hTA (Nat.le_refl _) hA (by rw [hrd, hput, hh])
          (by rw [if_neg (by omega)]) (fun h => by cases h) (fun _ => b_st P Q H c hh) (by rw [if_neg h0]; simp [h0]) (fun _ _ => rfl)]
      rw [if_neg (show ¬ (false = true) by simp)]
      exact run_err L hLn a t hTA hA _ _ h0 p' q' h' last' r.length (pre.length + 1) k (by omega) (by omega) (by omega)
/-- any letters put in leave a decoder that is as it should be. -/
theorem junk_run (L M : List Int) (hMb : Bytes M) (hMn : M.length ≤ 1048576) (hend : ∀ k p q h last e, 4000000 ≤ k → winklelaw10_SixbitsSteps.l0 (k + 1) L M (M.length : Int) p q h last e = some true) (n : Nat) :
    ∀ (i k : Nat) (p q h : Int) (last : Bool) (e : Int), i + n = M.length → (e ≠ 0 ∨ (e = 0 ∧ ∃ P Q H, Rel p q h last P Q H)) → n + 4000001 ≤ k → winklelaw10_SixbitsSteps.l0 k L M (i : Int) p q h last e = some true := by
  induction n with
  | zero =>
    intro i k p q h last e hi _ hk
    obtain ⟨k, rfl⟩ : ∃ j, k = j + 1 := ⟨k - 1, by omega⟩
    obtain rfl : i = M.length := by omega
    exact hend k _ _ _ _ _ (by omega)
  | succ n ih =>
    intro i k p q h last e hi hinv hk
    obtain ⟨k, rfl⟩ : ∃ j, k = j + 1 := ⟨k - 1, by omega⟩
    simp only [winklelaw10_SixbitsSteps.l0]
    have hc : 0 ≤ rd M (i : Int) ∧ rd M (i : Int) ≤ 255 := by
      have : rd M (i : Int) = M[i]'(by omega) := by simp [rd, show i < M.length by omega]
      rw [this]; exact hMb _ (List.getElem_mem _)
    rw [if_pos (by omega), if_pos (by omega), w64 _ (by omega) (by omega)]
    rcases hinv with he | ⟨rfl, P, Q, H, R⟩
    · rw [put_err p q h last e _ he, Option.bind_some]
      exact ih (i + 1) k _ _ _ _ _ (by omega) (Or.inl he) (by omega)
    · obtain ⟨p', q', h', last', hput, hR⟩ := put_st R _ hc.1 hc.2 k (by omega)
      rw [hput, Option.bind_some]
      refine ih (i + 1) k _ _ _ _ _ (by omega) ?_ (by omega)
      by_cases h0 : (st P Q H (rd M (i : Int))).err = 0
      · exact Or.inr ⟨h0, _, _, _, hR h0⟩
      · exact Or.inl h0
end Go.Proofs.Ytgapacibhagicaa.Six
namespace Go.Proofs.Ytgapacibhagicaa.Pure
open Go.RowKit Go.Proofs.Ytgapacibhagicaa.PAll Go.Proofs.YtgapacibhagicaaW.PrintWords Go.Proofs.YtgapacibhagicaaW.PrintLast Go.Proofs.Ytgapacibhagicaa.Six

/-- SixbitsSteps in the second form: inputs of length at most 1048576. -/
theorem SixbitsSteps : ∀ (l0 : List Int) (l1 : List Int), l0.length ≤ maxLen → l0.length ≤ 1048576 → (∀ x ∈ l0, (Lit.int .u8 x).wf = true) → l1.length ≤ maxLen → l1.length ≤ 1048576 → (∀ x ∈ l1, (Lit.int .u8 x).wf = true) → ∃ k, winklelaw10_SixbitsSteps.f k l0 l1 = some true := by
  intro L M _ h0 b0 _ h1 b1
  have hL := bytes_of b0
  obtain ⟨N, hN⟩ : ∃ N : Nat, 8000000 ≤ N := ⟨_, Nat.le_refl _⟩
  refine ⟨N, ?_⟩
  unfold winklelaw10_SixbitsSteps.f
  show winklelaw10_SixbitsSteps.l0 N L M ((0 : Nat) : Int) 0 0 0 false 0 = some true
  refine junk_run L M (bytes_of b1) h1 ?_ M.length 0 _ _ _ _ _ _ (by omega) (Or.inr ⟨rfl, 0, 0, 0, rel0⟩) (by omega)
  intro k p q h last e hk
  simp only [winklelaw10_SixbitsSteps.l0]
  rw [if_neg (by omega)]
  show ((winkleref10_Of.f k L).bind fun bt337 => (winklelaw10_SixbitsSteps.l1 k L 0 0 0 0 0 false 0 bt337.1 bt337.2.1 bt337.2.2.1 bt337.2.2.2)) = some true
  rw [of_f L hL (by omega) _ (by omega), Option.bind_some]
  have ht := times_ge L 0 0 0 0
  have hr := run_len L 0 0 0 0
  exact steps_run L hL h0 _ _ ht.2.2 (by omega) _ _ L [] k 0 0 0 false 0 0 0 [] [] rfl rel0 rfl rfl rfl rfl rfl (by omega)

end Go.Proofs.Ytgapacibhagicaa.Pure
