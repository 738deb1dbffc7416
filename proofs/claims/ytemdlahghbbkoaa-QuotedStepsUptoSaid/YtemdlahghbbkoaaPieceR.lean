/- The document's piece: how a byte is written. -/
import Derived.Test.YtemdlahghbbkoaaWrite
import Derived.Test.YtemdlahghbbkoaaPAllx1
namespace Go.Proofs.Ytemdlahghbbkoaa.PAll
open Go.RowKit Go.Proofs.YtemdlahghbbkoaaW.PrintWords Go.Proofs.YtemdlahghbbkoaaW.PrintLast Go.Proofs.YtemdlahghbbkoaaW.PrintMore
attribute [local go_sem] max2_int min2_int max_two min_two max_three min_three max_four min_four   -- for this text's walks alone
set_option linter.unusedVariables false
set_option linter.unusedSimpArgs false
def DIG : ByteArray := ⟨#[48, 49, 50, 51, 52, 53, 54, 55, 56, 57, 65, 66, 67, 68, 69, 70]⟩
theorem dig_hex (j : Int) (h0 : 0 ≤ j) (h1 : j < 16) : bt DIG j = hexD j := by
  have key : ∀ n : Fin 16, bt DIG ((n.1 : Nat) : Int) = hexD ((n.1 : Nat) : Int) := by decide +kernel
  have := key ⟨j.toNat, by omega⟩
  simp only [Int.toNat_of_nonneg h0] at this
  exact this
def winkleref11_piece.f (a0 : Int) (a1 : Bool) : Option (List Int) := if 0 ≤ a0 ∧ a0 ≤ 255 then some (pieceL a0 a1) else none
theorem piece_cases (c : Int) (l : Bool) (h0 : 0 ≤ c) (h1 : c ≤ 255) :
    (decide (33 ≤ c) = true ∧ decide (c ≤ 126) = true ∧ (c != 61) = true ∧ pieceL c l = [c]) ∨
    (decide (33 ≤ c) = false ∧ winkleref11_Blank.f c = some true ∧ l = false ∧ pieceL c l = [c]) ∨
    (decide (33 ≤ c) = false ∧ winkleref11_Blank.f c = some true ∧ l = true ∧ pieceL c l = [61, hexD (c / 16), hexD (c % 16)]) ∨
    (decide (33 ≤ c) = false ∧ winkleref11_Blank.f c = some false ∧ pieceL c l = [61, hexD (c / 16), hexD (c % 16)]) ∨
    (decide (33 ≤ c) = true ∧ decide (c ≤ 126) = false ∧ winkleref11_Blank.f c = some false ∧ pieceL c l = [61, hexD (c / 16), hexD (c % 16)]) ∨
    (decide (33 ≤ c) = true ∧ decide (c ≤ 126) = true ∧ (c != 61) = false ∧ winkleref11_Blank.f c = some false ∧ pieceL c l = [61, hexD (c / 16), hexD (c % 16)]) := by
  have key : ∀ n : Fin 256, ∀ l : Bool, ((decide (33 ≤ ((n.1 : Nat) : Int)) = true ∧ decide (((n.1 : Nat) : Int) ≤ 126) = true ∧ (((n.1 : Nat) : Int) != 61) = true ∧ pieceL ((n.1 : Nat) : Int) l = [((n.1 : Nat) : Int)]) ∨
    (decide (33 ≤ ((n.1 : Nat) : Int)) = false ∧ winkleref11_Blank.f ((n.1 : Nat) : Int) = some true ∧ l = false ∧ pieceL ((n.1 : Nat) : Int) l = [((n.1 : Nat) : Int)]) ∨
    (decide (33 ≤ ((n.1 : Nat) : Int)) = false ∧ winkleref11_Blank.f ((n.1 : Nat) : Int) = some true ∧ l = true ∧ pieceL ((n.1 : Nat) : Int) l = [61, hexD (((n.1 : Nat) : Int) / 16), hexD (((n.1 : Nat) : Int) % 16)]) ∨
    (decide (33 ≤ ((n.1 : Nat) : Int)) = false ∧ winkleref11_Blank.f ((n.1 : Nat) : Int) = some false ∧ pieceL ((n.1 : Nat) : Int) l = [61, hexD (((n.1 : Nat) : Int) / 16), hexD (((n.1 : Nat) : Int) % 16)]) ∨
    (decide (33 ≤ ((n.1 : Nat) : Int)) = true ∧ decide (((n.1 : Nat) : Int) ≤ 126) = false ∧ winkleref11_Blank.f ((n.1 : Nat) : Int) = some false ∧ pieceL ((n.1 : Nat) : Int) l = [61, hexD (((n.1 : Nat) : Int) / 16), hexD (((n.1 : Nat) : Int) % 16)]) ∨
    (decide (33 ≤ ((n.1 : Nat) : Int)) = true ∧ decide (((n.1 : Nat) : Int) ≤ 126) = true ∧ (((n.1 : Nat) : Int) != 61) = false ∧ winkleref11_Blank.f ((n.1 : Nat) : Int) = some false ∧ pieceL ((n.1 : Nat) : Int) l = [61, hexD (((n.1 : Nat) : Int) / 16), hexD (((n.1 : Nat) : Int) % 16)])) := by decide +kernel
  have := key ⟨c.toNat, by omega⟩ l
  simp only [Int.toNat_of_nonneg h0] at this
  exact this
set_option maxHeartbeats 8000000 in
set_option maxRecDepth 100000 in
theorem winkleref11_piece.calls (a0 : Int) (a1 : Bool) (r : List Int) (w : World) (h : winkleref11_piece.f a0 a1 = some r) :
    Calls Try.prog 31 #[.int .u8 a0, .bool a1] w fun e w' => ∃ v0_ : Value, e = .returned (v0_) ∧ Kd.R (Kd.int .u8) 5 w' w.heap.size (fun _ => True) v0_ r ∧ Below w.heap.size w w' := by
  unfold winkleref11_piece.f at h
  split at h
  case isFalse => cases h
  rename_i hb
  have h := Option.some.inj h
  obtain ⟨j1, hj1, hj10, hj11⟩ : ∃ j1, a0 / 16 = j1 ∧ 0 ≤ j1 ∧ j1 < 16 := ⟨_, rfl, by omega, by omega⟩
  obtain ⟨j2, hj2, hj20, hj21⟩ : ∃ j2, a0 % 16 = j2 ∧ 0 ≤ j2 ∧ j2 < 16 := ⟨_, rfl, by omega, by omega⟩
  have HHX := Aside0.mk (show [61, hexD (a0 / 16), hexD (a0 % 16)] = [61, bt DIG j1, bt DIG j2] by rw [hj1, hj2, dig_hex j1 hj10 hj11, dig_hex j2 hj20 hj21])
  have e1 : a0.tdiv 16 = j1 := by rw [Int.tdiv_eq_ediv_of_nonneg hb.1]; exact hj1
  have e2 : a0.tmod 16 = j2 := by rw [Int.tmod_eq_emod_of_nonneg hb.1]; exact hj2
  have w1 : IntKind.u8.wrap j1 = j1 := by rw [IntKind.wrap_u8]; omega
  have w2 : IntKind.u8.wrap j2 = j2 := by rw [IntKind.wrap_u8]; omega
  have p1 := eq_true hj10
  have q1 := eq_true hj11
  have p2 := eq_true hj20
  have q2 := eq_true hj21
  have d0 := decide_eq_true hj10
  have HB0 := Aside0.mk (Below.refl w.heap.size w)
  have HC := Aside0.mk (piece_cases a0 a1 hb.1 hb.2)
  have HH := Aside0.mk h
  clear h hb hj1 hj2 hj10 hj11 hj20 hj21 d0
  rcases HC.out with ⟨h1, h2, h3, h4⟩ | ⟨h1, h2, rfl, h4⟩ | ⟨h1, h2, rfl, h4⟩ | ⟨h1, h2, h4⟩ | ⟨h1, h2, h3, h4⟩ | ⟨h1, h2, h3, h5, h4⟩
  all_goals clear HC
  · have HR := Aside0.mk (show r = [a0] by rw [← HH.out, h4])
    clear h4 HH HHX e1 e2
    go_enter Try.func31, Try.ntmps31
    go_wp2
    go_ret
    exact ⟨_, rfl, by rw [HR.out]; exact Kd.R_of_own (enc := Value.int .u8) (h1 := fun _ => rfl) (own_lit_of (enc := Value.int .u8) w w.heap.size 5 [a0] (Nat.le_refl _) (by simp)) (fun _ _ => trivial), below_alloc (Below.refl _ _) _⟩
  · have HR := Aside0.mk (show r = [a0] by rw [← HH.out, h4])
    have HBL := Aside0.mk h2
    clear h4 h2 HH HHX e1 e2
    go_enter Try.func31, Try.ntmps31
    go_wp2_with (go_at_call 27; (with_reducible refine (winkleref11_Blank.calls a0 true _ HBL.out).mono ?_); rintro e w3 ⟨rfl, hd⟩; have HB := Aside0.mk (below_step HB0.out hd.below); clear hd)
    go_ret
    exact ⟨_, rfl, by rw [HR.out]; exact Kd.R_of_own (enc := Value.int .u8) (h1 := fun _ => rfl) (own_lit_of (enc := Value.int .u8) w3 w.heap.size 5 [a0] HB.out.size (by simp)) (fun _ _ => trivial), below_alloc HB.out _⟩
  all_goals
    have HR := Aside0.mk (show r = [61, bt DIG j1, bt DIG j2] by rw [← HH.out, h4, HHX.out])
    have HBL := Aside0.mk (show ∃ b, winkleref11_Blank.f a0 = some b ∧ b = b from ⟨_, by first | exact h2 | exact h3 | exact h5, rfl⟩)
    clear HBL
    have HBL := Aside0.mk (by first | exact h5 | exact h3 | exact h2 : winkleref11_Blank.f a0 = some _)
    clear h4 HH HHX
    (try clear h5)
    have hx1 := bt_at DIG j1
    have hx2 := bt_at DIG j2
    unfold DIG at hx1 hx2
    clear h
    go_enter Try.func31, Try.ntmps31
    go_wp2_with (go_at_call 27; (with_reducible refine (winkleref11_Blank.calls a0 _ _ HBL.out).mono ?_); rintro e w3 ⟨rfl, hd⟩; have HB := Aside0.mk (below_drew (below_step HB0.out hd.below)); clear hd)
    refine start_ (n := 8) (S := fun w' => True) (ds := [6]) #[false, false, false, false, false, false, false, false] (by kernel_rfl) rfl rfl trivial (fun hHeld => ?_)
    generalize w3.drew = w4 at HB hHeld ⊢
    refine pure_ (i := 0) (N := some 25) (v := ?_) (a' := ?_) #[true, false, false, false, false, false, false, false] rfl rfl (by kernel_rfl) (fun _ _ _ h => h) (Or.inl ⟨by rfl, ?_⟩) ?_ ?_
    rotate_left
    · intro w'
      go_simp
      with_reducible rfl
    rotate_left
    · simp only [Act.put, List.setIfInBounds_toArray, List.set_cons_zero, List.set_cons_succ, i64_w, i32_w]
      rfl
    refine pure_ (i := 1) (N := some 26) (v := ?_) (a' := ?_) #[true, true, false, false, false, false, false, false] rfl rfl (by kernel_rfl) (fun _ _ _ h => h) (Or.inl ⟨by rfl, ?_⟩) ?_ ?_
    rotate_left
    · intro w'
      go_simp
      with_reducible rfl
    rotate_left
    · simp only [Act.put, List.setIfInBounds_toArray, List.set_cons_zero, List.set_cons_succ, i64_w, i32_w]
      rfl
    refine pure_ (i := 3) (N := some 28) (v := ?_) (a' := ?_) #[true, true, false, true, false, false, false, false] rfl rfl (by kernel_rfl) (fun _ _ _ h => h) (Or.inl ⟨by rfl, ?_⟩) ?_ ?_
    rotate_left
    · intro w'
      go_simp
      with_reducible rfl
    rotate_left
    · simp only [Act.put, List.setIfInBounds_toArray, List.set_cons_zero, List.set_cons_succ, i64_w, i32_w]
      rfl
    refine pure_ (i := 4) (N := some 29) (v := ?_) (a' := ?_) #[true, true, false, true, true, false, false, false] rfl rfl (by kernel_rfl) (fun _ _ _ h => h) (Or.inl ⟨by rfl, ?_⟩) ?_ ?_
    rotate_left
    · intro w'
      go_simp
      with_reducible rfl
    rotate_left
    · simp only [Act.put, List.setIfInBounds_toArray, List.set_cons_zero, List.set_cons_succ, i64_w, i32_w]
      rfl
    refine take_ (i := 2) (N := some 27) (v := ?_) (a' := ?_) #[true, true, true, true, true, false, false, false] rfl rfl (by kernel_rfl) (fun _ _ _ h => h) (Or.inl ⟨by rfl, ?_⟩) hHeld ?_ ?_
    rotate_left
    · intro w' _
      go_simp
      with_reducible rfl
    rotate_left
    · simp only [Act.put, List.setIfInBounds_toArray, List.set_cons_zero, List.set_cons_succ, i64_w, i32_w]
      rfl
    refine take_ (i := 5) (N := some 30) (v := ?_) (a' := ?_) #[true, true, true, true, true, true, false, false] rfl rfl (by kernel_rfl) (fun _ _ _ h => h) (Or.inl ⟨by rfl, ?_⟩) hHeld ?_ ?_
    rotate_left
    · intro w' _
      go_simp
      with_reducible rfl
    rotate_left
    · simp only [Act.put, List.setIfInBounds_toArray, List.set_cons_zero, List.set_cons_succ, i64_w, i32_w]
      rfl
    refine last_ (i := 6) (N := some 31) #[true, true, true, true, true, true, true, false] rfl rfl (by kernel_rfl) (by decide) (fun K hK => ?_)
    refine value_ (w1 := ?_) (v := ?_) (by rfl) rfl ?_ ?_
    rotate_left 2
    · go_simp
      constructor
      · rfl
      · rfl
    refine hK.out _ _ ?_
    clear hK K
    refine norm_ (a' := ?_) ?_ ?_
    rotate_left
    · show Act.put _ (some 31) _ = _
      simp only [Act.put, List.setIfInBounds_toArray, List.set_cons_zero, List.set_cons_succ, i64_w, i32_w]
      rfl
    refine pure_ (i := 7) (N := some 4) (v := ?_) (a' := ?_) #[true, true, true, true, true, true, true, true] rfl rfl (by kernel_rfl) (fun _ _ _ h => h) (Or.inl ⟨by rfl, ?_⟩) ?_ ?_
    rotate_left
    · intro w'
      go_simp
      with_reducible rfl
    rotate_left
    · simp only [Act.put, List.setIfInBounds_toArray, List.set_cons_zero, List.set_cons_succ, i64_w, i32_w]
      rfl
    refine done_ (by kernel_rfl) ?_
    go_wp2
    go_ret
    exact ⟨_, rfl, by rw [HR.out]; exact Kd.R_of_own (enc := Value.int .u8) (h1 := fun _ => rfl) (own_lit_of (enc := Value.int .u8) w4 w.heap.size 5 [61, bt DIG j1, bt DIG j2] HB.out.size (by simp)) (fun _ _ => trivial), below_alloc HB.out _⟩
end Go.Proofs.Ytemdlahghbbkoaa.PAll
