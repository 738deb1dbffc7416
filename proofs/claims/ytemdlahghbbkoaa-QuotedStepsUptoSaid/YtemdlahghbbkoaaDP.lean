/- The decoder as a queue of blanks and a row of bytes that are known. -/
import Derived.Test.YtemdlahghbbkoaaDM
namespace Go.Proofs.Ytemdlahghbbkoaa.PAll
open Go.RowKit Go.Proofs.YtemdlahghbbkoaaW.PrintWords Go.Proofs.YtemdlahghbbkoaaW.PrintLast Go.Proofs.YtemdlahghbbkoaaW.PrintMore
attribute [local go_sem] max2_int min2_int max_two min_two max_three min_three max_four min_four   -- for this text's walks alone
set_option linter.unusedVariables false
set_option linter.unusedSimpArgs false
/-- blanks q wait, p is known (from place k on). -/
def DQ (W : World) (g : Nat) (st hi : Int) (en : Bool) (wh : Int) (q p : List Int) (k : Nat) : Prop :=
  ∃ bl ou, DC W g st hi en wh bl (q.length : Int) ou (k : Int) ((k + p.length : Nat) : Int) ∧ q.length ≤ 64 ∧ bl.take q.length = q ∧ k + p.length ≤ 68 ∧ (ou.drop k).take p.length = p
theorem list_say (ou p : List Int) (k n : Nat) (b : Int) (hn : n = k + p.length) (h : n < ou.length) (hp : (ou.drop k).take p.length = p) : ((ou.set n b).drop k).take (p ++ [b]).length = p ++ [b] := by
  subst hn
  rw [List.drop_set, if_neg (by omega), show k + p.length - k = p.length by omega, List.length_append, List.length_singleton]
  rw [List.take_succ_eq_append_getElem (by rw [List.length_set, List.length_drop]; omega), List.take_set_of_le (Nat.le_refl _), hp]
  simp
theorem list_free (ou p q bl : List Int) (k : Nat) (h : k + p.length + q.length ≤ ou.length) (hp : (ou.drop k).take p.length = p) (hq : bl.take q.length = q) :
    ((ou.take (k + p.length) ++ bl.take q.length ++ ou.drop (k + p.length + q.length)).drop k).take (p ++ q).length = p ++ q := by
  rw [hq, List.append_assoc, List.drop_append_of_le_length (by rw [List.length_take]; omega), List.drop_take, show k + p.length - k = p.length by omega, hp, ← List.append_assoc, List.take_left]
theorem list_push (bl q : List Int) (b : Int) (h : q.length < bl.length) (hq : bl.take q.length = q) : (bl.set q.length b).take (q ++ [b]).length = q ++ [b] := by
  rw [List.length_append, List.length_singleton, List.take_succ_eq_append_getElem (by rw [List.length_set]; omega), List.take_set_of_le (Nat.le_refl _), hq]
  simp
theorem list_shift (bl q : List Int) (b : Int) (hb : bl.length = 64) (h : q.length = 64) (hq : bl.take q.length = q) : ((bl.drop 1 ++ bl.drop 63).set 63 b).take (q.drop 1 ++ [b]).length = q.drop 1 ++ [b] := by
  have e : q = bl := by rw [← hq, h, List.take_of_length_le (by omega)]
  subst e
  have e1 : (q.drop 1).length = 63 := by simp; omega
  have e2 : (q.drop 63).length = 1 := by simp; omega
  rw [List.set_append_right _ _ (by omega), e1, Nat.sub_self, List.length_append, e1, List.length_singleton]
  match hx : q.drop 63, e2 with
  | [x], _ =>
    rw [List.set_cons_zero, List.take_of_length_le (by rw [List.length_append, e1]; simp)]
section
variable {W W' : World} {g : Nat} {st hi : Int} {en : Bool} {wh : Int} {q p : List Int} {k : Nat}
theorem dq_c0 (h : Aside0 (DQ W g st hi en wh q p k)) : W.cell? ⟨g, 0, none⟩ = some (.int .i64 st) := by obtain ⟨bl, ou, h, _⟩ := h.out; exact dc_c0 h
theorem dq_c1 (h : Aside0 (DQ W g st hi en wh q p k)) : W.cell? ⟨g, 1, none⟩ = some (.int .u8 hi) := by obtain ⟨bl, ou, h, _⟩ := h.out; exact dc_c1 h
theorem dq_c2 (h : Aside0 (DQ W g st hi en wh q p k)) : W.cell? ⟨g, 2, none⟩ = some (.bool en) := by obtain ⟨bl, ou, h, _⟩ := h.out; exact dc_c2 h
theorem dq_c3 (h : Aside0 (DQ W g st hi en wh q p k)) : W.cell? ⟨g, 3, none⟩ = some (.int .i64 wh) := by obtain ⟨bl, ou, h, _⟩ := h.out; exact dc_c3 h
theorem dq_hd (h : Aside0 (DQ W g st hi en wh q p k)) : W.cell? ⟨g, 68, none⟩ = some (.int .i64 (q.length : Int)) := by obtain ⟨bl, ou, h, _⟩ := h.out; exact dc_hd h
theorem dq_fr (h : Aside0 (DQ W g st hi en wh q p k)) : W.cell? ⟨g, 137, none⟩ = some (.int .i64 (k : Int)) := by obtain ⟨bl, ou, h, _⟩ := h.out; exact dc_f0 h
theorem dq_to (h : Aside0 (DQ W g st hi en wh q p k)) : W.cell? ⟨g, 138, none⟩ = some (.int .i64 ((k + p.length : Nat) : Int)) := by obtain ⟨bl, ou, h, _⟩ := h.out; exact dc_t0 h
theorem dq_f (h : Aside0 (DQ W g st hi en wh q p k)) (i : Nat) : W.frozen? ⟨g, i, none⟩ = false := by obtain ⟨bl, ou, h, _⟩ := h.out; exact dc_f h i
theorem dq_s0 (h : Aside0 (DQ W g st hi en wh q p k)) (x : Int) : Aside0 (DQ (W.setCell ⟨g, 0, none⟩ (.int .i64 x)) g x hi en wh q p k) := by obtain ⟨bl, ou, h, r⟩ := h.out; exact ⟨bl, ou, dc_s0 h x, r⟩
theorem dq_s1 (h : Aside0 (DQ W g st hi en wh q p k)) (x : Int) : Aside0 (DQ (W.setCell ⟨g, 1, none⟩ (.int .u8 x)) g st x en wh q p k) := by obtain ⟨bl, ou, h, r⟩ := h.out; exact ⟨bl, ou, dc_s1 h x, r⟩
theorem dq_s2 (h : Aside0 (DQ W g st hi en wh q p k)) (x : Bool) : Aside0 (DQ (W.setCell ⟨g, 2, none⟩ (.bool x)) g st hi x wh q p k) := by obtain ⟨bl, ou, h, r⟩ := h.out; exact ⟨bl, ou, dc_s2 h x, r⟩
theorem dq_s3 (h : Aside0 (DQ W g st hi en wh q p k)) (x : Int) : Aside0 (DQ (W.setCell ⟨g, 3, none⟩ (.int .i64 x)) g st hi en x q p k) := by obtain ⟨bl, ou, h, r⟩ := h.out; exact ⟨bl, ou, dc_s3 h x, r⟩
theorem dq_shd0 (h : Aside0 (DQ W g st hi en wh q p k)) : Aside0 (DQ (W.setCell ⟨g, 68, none⟩ (.int .i64 0)) g st hi en wh [] p k) := by obtain ⟨bl, ou, h, h1, h2, r⟩ := h.out; exact ⟨bl, ou, dc_shd h 0, by simp, by simp, r⟩
theorem dq_zero (h : Aside0 (DQ W g st hi en wh q p k)) : Aside0 (DQ ((W.setCell ⟨g, 137, none⟩ (.int .i64 0)).setCell ⟨g, 138, none⟩ (.int .i64 0)) g st hi en wh q [] 0) := by obtain ⟨bl, ou, h, h1, h2, r⟩ := h.out; exact ⟨bl, ou, dc_st0 (dc_sf0 h 0) 0, h1, h2, by simp, by simp⟩
theorem dq_drew (h : Aside0 (DQ W g st hi en wh q p k)) : Aside0 (DQ W.drew g st hi en wh q p k) := h
theorem dq_below (h : DQ W g st hi en wh q p k) (hb : Below W.heap.size W W') : DQ W' g st hi en wh q p k := by obtain ⟨bl, ou, h, r⟩ := h; exact ⟨bl, ou, dc_below h hb, r⟩
theorem dq_say (b : Int) (h : Aside0 (DQ W g st hi en wh q p k)) (hn : k + p.length < 68) :
    Calls Try.prog 37 #[.pointer (some ⟨g, 0, none⟩), .int .u8 b] W fun e W' => e = .returned (.tuple #[]) ∧ DQ W' g st hi en wh q (p ++ [b]) k ∧ DK W W' g := by
  obtain ⟨bl, ou, h, h1, h2, h3, h4⟩ := h.out
  refine (dm_say _ b ⟨h⟩ hn).mono fun e W' ⟨he, hc, hk⟩ => ⟨he, ⟨bl, ou.set (k + p.length) b, ?_, h1, h2, by rw [List.length_append]; simp; omega, list_say ou p k _ b rfl (by rw [h.2.2]; omega) h4⟩, hk⟩
  rw [List.length_append, List.length_singleton]
  exact hc
theorem dq_free (h : Aside0 (DQ W g st hi en wh q p k)) (hn : k + p.length + q.length ≤ 68) :
    Calls Try.prog 36 #[.pointer (some ⟨g, 0, none⟩)] W fun e W' => e = .returned (.tuple #[]) ∧ DQ W' g st hi en wh [] (p ++ q) k ∧ DK W W' g := by
  obtain ⟨bl, ou, h, h1, h2, h3, h4⟩ := h.out
  refine (dm_free (k + p.length) q.length ⟨h⟩ hn h1 ⟨rfl⟩).mono fun e W' ⟨he, hc, hk⟩ => ⟨he, ⟨bl, _, ?_, by simp, by simp, by rw [List.length_append]; omega, list_free ou p q bl k (by rw [h.2.2]; exact hn) h4 h2⟩, hk⟩
  rw [List.length_append, ← Nat.add_assoc]
  exact hc
end
theorem dm_facts (m : Nat) (h : m < 64) : (0 : Int) ≤ (m : Int) ∧ (m : Int) < 64 ∧ Aside0 (wrap64 ((m : Int) + 1) = (m : Int) + 1) ∧ ((m : Int) == 64) = false := ⟨by omega, by omega, ⟨by unfold wrap64; omega⟩, beq_eq_false_iff_ne.2 (by omega)⟩
section
variable {W : World} {g : Nat} {st hi : Int} {en : Bool} {wh : Int} {q p : List Int} {k : Nat}
set_option maxHeartbeats 8000000 in
set_option maxRecDepth 100000 in
/-- a blank, and room for it. -/
theorem dq_blank (b : Int) (h : Aside0 (DQ W g st hi en wh q p k)) (hb : b = 9 ∨ b = 32) (hq : q.length < 64) :
    Calls Try.prog 35 #[.pointer (some ⟨g, 0, none⟩), .int .u8 b] W fun e W' => e = .returned (.tuple #[]) ∧ DQ W' g st hi en wh (q ++ [b]) p k ∧ DK W W' g := by
  obtain ⟨bl, ou, hD, h1, h2, h3, h4⟩ := h.out
  obtain ⟨m, hm⟩ : ∃ m, q.length = m := ⟨_, rfl⟩
  obtain ⟨T, hT⟩ : ∃ T : Int, ((k + p.length : Nat) : Int) = T := ⟨_, rfl⟩
  rw [hm, hT] at hD
  have HE := Aside0.mk (show ∀ W', DC W' g st hi en wh (bl.set m b) ((m : Int) + 1) ou (k : Int) T → DQ W' g st hi en wh (q ++ [b]) p k from fun W' hc => by
    subst hm; subst hT
    refine ⟨bl.set q.length b, ou, ?_, by rw [List.length_append]; simp; omega, list_push bl q b (by rw [hD.2.1]; omega) h2, h3, h4⟩
    rw [List.length_append, List.length_singleton]
    exact hc)
  rw [hm] at hq
  clear h h1 h2 h3 h4 hm hT
  obtain ⟨hm0, hm1, HWM, hm2⟩ := dm_facts m hq
  have hbb : ((b == 9) = true) ∨ ((b == 9) = false ∧ (b == 32) = true) := by rcases hb with rfl | rfl <;> decide
  have H0 := Aside0.mk hD
  clear hb hD
  rcases hbb with hb1 | ⟨hb1, hb2⟩
  all_goals
    have H := Aside0.mk (dc_drew H0.out)
    have HK := Aside0.mk (DK.refl W g).drew
    have hh0 := dc_hd H0.out
    have hc := dc_hd H.out
    have hf := dc_f H.out (4 + m)
    have hx := dc_bl H.out m hq
    have hwm := HWM.out
    go_enter Try.func35, Try.ntmps35
    go_wp2
    clear hh0 H0
    refine start_ (n := 10) (S := fun w' => w'.cell? ⟨g, 68, none⟩ = some (.int .i64 (m : Int))) (ds := [9]) #[false, false, false, false, false, false, false, false, false, false] (by kernel_rfl) rfl rfl (hc) (fun hHeld => ?_)
    generalize W.drew = W1 at H hc hf hx HK hHeld ⊢
    refine pure_ (i := 0) (N := some 41) (v := ?_) (a' := ?_) #[true, false, false, false, false, false, false, false, false, false] rfl rfl (by kernel_rfl) (fun _ _ _ h => h) (Or.inl ⟨by rfl, ?_⟩) ?_ ?_
    rotate_left
    · intro w'
      go_simp
      with_reducible rfl
    rotate_left
    · simp only [Act.put, List.setIfInBounds_toArray, List.set_cons_zero, List.set_cons_succ, i64_w, i32_w]
      rfl
    refine pure_ (i := 1) (N := some 42) (v := ?_) (a' := ?_) #[true, true, false, false, false, false, false, false, false, false] rfl rfl (by kernel_rfl) (fun _ _ _ h => h) (Or.inl ⟨by rfl, ?_⟩) ?_ ?_
    rotate_left
    · intro w'
      go_simp
      with_reducible rfl
    rotate_left
    · simp only [Act.put, List.setIfInBounds_toArray, List.set_cons_zero, List.set_cons_succ, i64_w, i32_w]
      rfl
    refine pure_ (i := 2) (N := some 43) (v := ?_) (a' := ?_) #[true, true, true, false, false, false, false, false, false, false] rfl rfl (by kernel_rfl) (fun _ _ _ h => h) (Or.inl ⟨by rfl, ?_⟩) ?_ ?_
    rotate_left
    · intro w'
      go_simp
      with_reducible rfl
    rotate_left
    · simp only [Act.put, List.setIfInBounds_toArray, List.set_cons_zero, List.set_cons_succ, i64_w, i32_w]
      rfl
    refine pure_ (i := 3) (N := some 44) (v := ?_) (a' := ?_) #[true, true, true, true, false, false, false, false, false, false] rfl rfl (by kernel_rfl) (fun _ _ _ h => h) (Or.inl ⟨by rfl, ?_⟩) ?_ ?_
    rotate_left
    · intro w'
      go_simp
      with_reducible rfl
    rotate_left
    · simp only [Act.put, List.setIfInBounds_toArray, List.set_cons_zero, List.set_cons_succ, i64_w, i32_w]
      rfl
    refine pure_ (i := 5) (N := some 46) (v := ?_) (a' := ?_) #[true, true, true, true, false, true, false, false, false, false] rfl rfl (by kernel_rfl) (fun _ _ _ h => h) (Or.inl ⟨by rfl, ?_⟩) ?_ ?_
    rotate_left
    · intro w'
      go_simp
      with_reducible rfl
    rotate_left
    · simp only [Act.put, List.setIfInBounds_toArray, List.set_cons_zero, List.set_cons_succ, i64_w, i32_w]
      rfl
    refine pure_ (i := 6) (N := some 47) (v := ?_) (a' := ?_) #[true, true, true, true, false, true, true, false, false, false] rfl rfl (by kernel_rfl) (fun _ _ _ h => h) (Or.inl ⟨by rfl, ?_⟩) ?_ ?_
    rotate_left
    · intro w'
      go_simp
      with_reducible rfl
    rotate_left
    · simp only [Act.put, List.setIfInBounds_toArray, List.set_cons_zero, List.set_cons_succ, i64_w, i32_w]
      rfl
    refine pure_ (i := 7) (N := some 48) (v := ?_) (a' := ?_) #[true, true, true, true, false, true, true, true, false, false] rfl rfl (by kernel_rfl) (fun _ _ _ h => h) (Or.inl ⟨by rfl, ?_⟩) ?_ ?_
    rotate_left
    · intro w'
      go_simp
      with_reducible rfl
    rotate_left
    · simp only [Act.put, List.setIfInBounds_toArray, List.set_cons_zero, List.set_cons_succ, i64_w, i32_w]
      rfl
    refine take_ (i := 4) (N := some 45) (v := ?_) (a' := ?_) #[true, true, true, true, true, true, true, true, false, false] rfl rfl (by kernel_rfl) (fun _ _ _ h => h) (Or.inl ⟨by rfl, ?_⟩) hHeld ?_ ?_
    rotate_left
    · intro w' s0
      go_simp
      with_reducible rfl
    rotate_left
    · simp only [Act.put, List.setIfInBounds_toArray, List.set_cons_zero, List.set_cons_succ, i64_w, i32_w]
      rfl
    refine pure_ (i := 8) (N := some 49) (v := ?_) (a' := ?_) #[true, true, true, true, true, true, true, true, true, false] rfl rfl (by kernel_rfl) (fun _ _ _ h => h) (Or.inl ⟨by rfl, ?_⟩) ?_ ?_
    rotate_left
    · intro w'
      go_simp
      with_reducible rfl
    rotate_left
    · simp only [Act.put, List.setIfInBounds_toArray, List.set_cons_zero, List.set_cons_succ, i64_w, i32_w]
      rfl
    refine last_ (i := 9) (N := none) #[true, true, true, true, true, true, true, true, true, true] rfl rfl (by kernel_rfl) (by decide) (fun K hK => ?_)
    refine skip_ (w1 := ?_) (by rfl) rfl ?_ ?_
    rotate_left
    · go_simp
      rfl
    refine hK.out _ _ ?_
    clear hK K
    refine done_ (by kernel_rfl) ?_
    clear hc hf hx hHeld
    have H2 := Aside0.mk (dc_sbl H.out m hq b)
    have HK2 := Aside0.mk (HK.out.set (4 + m) (.int .u8 b))
    clear H HK
    generalize W1.setCell ⟨g, 4 + m, none⟩ (.int .u8 b) = W2 at *
    have hc := dc_hd H2.out
    have hf := dc_f H2.out 68
    go_wp2
    go_end0
    exact ⟨rfl, HE.out _ (dc_shd H2.out ((m : Int) + 1)), HK2.out.set 68 (.int .i64 ((m : Int) + 1))⟩
set_option maxHeartbeats 8000000 in
set_option maxRecDepth 100000 in
/-- a blank, and no room for it: the first one is said. -/
theorem dq_blank_full (b : Int) (h : Aside0 (DQ W g st hi en wh q p k)) (hb : b = 9 ∨ b = 32) (hq : q.length = 64) (hn : k + p.length < 68) :
    Calls Try.prog 35 #[.pointer (some ⟨g, 0, none⟩), .int .u8 b] W fun e W' => e = .returned (.tuple #[]) ∧ DQ W' g st hi en wh (q.drop 1 ++ [b]) (p ++ q.take 1) k ∧ DK W W' g := by
  obtain ⟨bl, ou, hD, h1, h2, h3, h4⟩ := h.out
  have hhq : ((q.length : Nat) : Int) = 64 := by omega
  rw [hhq] at hD
  have hq1 : q.take 1 = [bl.getD 0 0] := by
    have e : q = bl := by rw [← h2, hq, List.take_of_length_le (by rw [hD.2.1]; omega)]
    have : 0 < bl.length := by rw [hD.2.1]; omega
    rw [e, List.take_one]
    rcases bl with _ | ⟨x, r⟩
    · simp at this
    · rfl
  obtain ⟨X, hX⟩ : ∃ X, bl.getD 0 0 = X := ⟨_, rfl⟩
  rw [hX] at hq1
  obtain ⟨n, hnn⟩ : ∃ n : Nat, k + p.length = n := ⟨_, rfl⟩
  rw [hnn] at hD hn
  have HE := Aside0.mk (show ∀ W', DC W' g st hi en wh ((bl.drop 1 ++ bl.drop 63).set 63 b) 64 (ou.set n X) (k : Int) ((n : Int) + 1) → DQ W' g st hi en wh (q.drop 1 ++ [b]) (p ++ q.take 1) k from fun W' hc => by
    subst hnn
    rw [hq1]
    have e63 : (q.drop 1 ++ [b]).length = 64 := by simp; omega
    refine ⟨_, _, ?_, by omega, list_shift bl q b hD.2.1 hq h2, by simp; omega, list_say ou p k _ X rfl (by rw [hD.2.2]; omega) h4⟩
    rw [e63, List.length_append, List.length_singleton]
    exact hc)
  have hx0 := dc_bl hD 0 (by omega)
  rw [hX] at hx0
  have H0 := Aside0.mk hD
  have HN := Aside0.mk hn
  clear h h1 h2 h3 h4 hnn hq hq1 hhq hX hD hn
  have hbb : ((b == 9) = true) ∨ ((b == 9) = false ∧ (b == 32) = true) := by rcases hb with rfl | rfl <;> decide
  clear hb
  rcases hbb with hb1 | ⟨hb1, hb2⟩
  all_goals
    have hh0 := dc_hd H0.out
    have hs1 := fun W => sl46_a W g
    have hs2 := fun W => sl46_1 W g
    go_enter Try.func35, Try.ntmps35
    go_wp2_with (go_at_call 37; (with_reducible refine (dm_say n X H0 HN.out).mono ?_); rintro e W3 ⟨rfl, hc, hk⟩; have H := Aside0.mk (dc_drew hc); have HK := Aside0.mk hk.drew; clear hc hk)
    clear hh0 hx0
    refine start_ (n := 9) (S := fun w' => True) (ds := [8]) #[false, false, false, false, false, false, false, false, false] (by kernel_rfl) rfl rfl trivial (fun hHeld => ?_)
    generalize W3.drew = W4 at H HK hHeld ⊢
    refine pure_ (i := 0) (N := some 25) (v := ?_) (a' := ?_) #[true, false, false, false, false, false, false, false, false] rfl rfl (by kernel_rfl) (fun _ _ _ h => h) (Or.inl ⟨by rfl, ?_⟩) ?_ ?_
    rotate_left
    · intro w'
      go_simp
      with_reducible rfl
    rotate_left
    · simp only [Act.put, List.setIfInBounds_toArray, List.set_cons_zero, List.set_cons_succ, i64_w, i32_w]
      rfl
    refine pure_ (i := 1) (N := some 26) (v := ?_) (a' := ?_) #[true, true, false, false, false, false, false, false, false] rfl rfl (by kernel_rfl) (fun _ _ _ h => h) (Or.inl ⟨by rfl, ?_⟩) ?_ ?_
    rotate_left
    · intro w'
      go_simp
      with_reducible rfl
    rotate_left
    · simp only [Act.put, List.setIfInBounds_toArray, List.set_cons_zero, List.set_cons_succ, i64_w, i32_w]
      rfl
    refine pure_ (i := 2) (N := some 27) (v := ?_) (a' := ?_) #[true, true, true, false, false, false, false, false, false] rfl rfl (by kernel_rfl) (fun _ _ _ h => h) (Or.inl ⟨by rfl, ?_⟩) ?_ ?_
    rotate_left
    · intro w'
      go_simp
      with_reducible rfl
    rotate_left
    · simp only [Act.put, List.setIfInBounds_toArray, List.set_cons_zero, List.set_cons_succ, i64_w, i32_w]
      rfl
    refine pure_ (i := 3) (N := some 28) (v := ?_) (a' := ?_) #[true, true, true, true, false, false, false, false, false] rfl rfl (by kernel_rfl) (fun _ _ _ h => h) (Or.inl ⟨by rfl, ?_⟩) ?_ ?_
    rotate_left
    · intro w'
      go_simp
      with_reducible rfl
    rotate_left
    · simp only [Act.put, List.setIfInBounds_toArray, List.set_cons_zero, List.set_cons_succ, i64_w, i32_w]
      rfl
    refine pure_ (i := 4) (N := some 29) (v := ?_) (a' := ?_) #[true, true, true, true, true, false, false, false, false] rfl rfl (by kernel_rfl) (fun _ _ _ h => h) (Or.inl ⟨by rfl, ?_⟩) ?_ ?_
    rotate_left
    · intro w'
      go_simp
      with_reducible rfl
    rotate_left
    · simp only [Act.put, List.setIfInBounds_toArray, List.set_cons_zero, List.set_cons_succ, i64_w, i32_w]
      rfl
    refine pure_ (i := 5) (N := some 30) (v := ?_) (a' := ?_) #[true, true, true, true, true, true, false, false, false] rfl rfl (by kernel_rfl) (fun _ _ _ h => h) (Or.inl ⟨by rfl, ?_⟩) ?_ ?_
    rotate_left
    · intro w'
      go_simp
      with_reducible rfl
    rotate_left
    · simp only [Act.put, List.setIfInBounds_toArray, List.set_cons_zero, List.set_cons_succ, i64_w, i32_w]
      rfl
    refine pure_ (i := 6) (N := some 31) (v := ?_) (a' := ?_) #[true, true, true, true, true, true, true, false, false] rfl rfl (by kernel_rfl) (fun _ _ _ h => h) (Or.inl ⟨by rfl, ?_⟩) ?_ ?_
    rotate_left
    · intro w'
      go_simp
      with_reducible rfl
    rotate_left
    · simp only [Act.put, List.setIfInBounds_toArray, List.set_cons_zero, List.set_cons_succ, i64_w, i32_w]
      rfl
    refine pure_ (i := 7) (N := some 32) (v := ?_) (a' := ?_) #[true, true, true, true, true, true, true, true, false] rfl rfl (by kernel_rfl) (fun _ _ _ h => h) (Or.inl ⟨by rfl, ?_⟩) ?_ ?_
    rotate_left
    · intro w'
      go_simp
      with_reducible rfl
    rotate_left
    · simp only [Act.put, List.setIfInBounds_toArray, List.set_cons_zero, List.set_cons_succ, i64_w, i32_w]
      rfl
    refine last_ (i := 8) (N := some 33) #[true, true, true, true, true, true, true, true, true] rfl rfl (by kernel_rfl) (by decide) (fun K hK => ?_)
    obtain ⟨W5, hcp, hts, hkk⟩ := sh_copy H
    refine value_ (w1 := ?_) (v := ?_) (by rfl) rfl ?_ ?_
    rotate_left 2
    · go_simp
      constructor
      · rfl
      · rfl
    have H5 := Aside0.mk hts
    have HK5 := Aside0.mk (HK.out.trans hkk)
    clear hts hcp hkk
    refine hK.out _ _ ?_
    clear hK K
    refine norm_ (a' := ?_) ?_ ?_
    rotate_left
    · show Act.put _ (some 33) _ = _
      simp only [Act.put, List.setIfInBounds_toArray, List.set_cons_zero, List.set_cons_succ, i64_w, i32_w]
      rfl
    refine done_ (by kernel_rfl) ?_
    clear hs1 hs2 H HK hHeld
    have hc := dc_hd H5.out
    have hf := dc_f H5.out 68
    go_wp2
    clear hc hf
    have H6 := Aside0.mk (dc_shd H5.out 63)
    have HK6 := Aside0.mk (HK5.out.set 68 (.int .i64 63))
    clear H5 HK5
    generalize W5.setCell ⟨g, 68, none⟩ (.int .i64 63) = W6 at *
    have H := Aside0.mk (dc_drew H6.out)
    have HK := Aside0.mk HK6.out.drew
    clear H6 HK6
    have hc := dc_hd H.out
    have hf := dc_f H.out 67
    have hx := dc_bl H.out 63 (by omega)
    refine start_ (n := 10) (S := fun w' => w'.cell? ⟨g, 68, none⟩ = some (.int .i64 63)) (ds := [9]) #[false, false, false, false, false, false, false, false, false, false] (by kernel_rfl) rfl rfl (hc) (fun hHeld => ?_)
    generalize W6.drew = W7 at H hc hf hx HK hHeld ⊢
    refine pure_ (i := 0) (N := some 41) (v := ?_) (a' := ?_) #[true, false, false, false, false, false, false, false, false, false] rfl rfl (by kernel_rfl) (fun _ _ _ h => h) (Or.inl ⟨by rfl, ?_⟩) ?_ ?_
    rotate_left
    · intro w'
      go_simp
      with_reducible rfl
    rotate_left
    · simp only [Act.put, List.setIfInBounds_toArray, List.set_cons_zero, List.set_cons_succ, i64_w, i32_w]
      rfl
    refine pure_ (i := 1) (N := some 42) (v := ?_) (a' := ?_) #[true, true, false, false, false, false, false, false, false, false] rfl rfl (by kernel_rfl) (fun _ _ _ h => h) (Or.inl ⟨by rfl, ?_⟩) ?_ ?_
    rotate_left
    · intro w'
      go_simp
      with_reducible rfl
    rotate_left
    · simp only [Act.put, List.setIfInBounds_toArray, List.set_cons_zero, List.set_cons_succ, i64_w, i32_w]
      rfl
    refine pure_ (i := 2) (N := some 43) (v := ?_) (a' := ?_) #[true, true, true, false, false, false, false, false, false, false] rfl rfl (by kernel_rfl) (fun _ _ _ h => h) (Or.inl ⟨by rfl, ?_⟩) ?_ ?_
    rotate_left
    · intro w'
      go_simp
      with_reducible rfl
    rotate_left
    · simp only [Act.put, List.setIfInBounds_toArray, List.set_cons_zero, List.set_cons_succ, i64_w, i32_w]
      rfl
    refine pure_ (i := 3) (N := some 44) (v := ?_) (a' := ?_) #[true, true, true, true, false, false, false, false, false, false] rfl rfl (by kernel_rfl) (fun _ _ _ h => h) (Or.inl ⟨by rfl, ?_⟩) ?_ ?_
    rotate_left
    · intro w'
      go_simp
      with_reducible rfl
    rotate_left
    · simp only [Act.put, List.setIfInBounds_toArray, List.set_cons_zero, List.set_cons_succ, i64_w, i32_w]
      rfl
    refine pure_ (i := 5) (N := some 46) (v := ?_) (a' := ?_) #[true, true, true, true, false, true, false, false, false, false] rfl rfl (by kernel_rfl) (fun _ _ _ h => h) (Or.inl ⟨by rfl, ?_⟩) ?_ ?_
    rotate_left
    · intro w'
      go_simp
      with_reducible rfl
    rotate_left
    · simp only [Act.put, List.setIfInBounds_toArray, List.set_cons_zero, List.set_cons_succ, i64_w, i32_w]
      rfl
    refine pure_ (i := 6) (N := some 47) (v := ?_) (a' := ?_) #[true, true, true, true, false, true, true, false, false, false] rfl rfl (by kernel_rfl) (fun _ _ _ h => h) (Or.inl ⟨by rfl, ?_⟩) ?_ ?_
    rotate_left
    · intro w'
      go_simp
      with_reducible rfl
    rotate_left
    · simp only [Act.put, List.setIfInBounds_toArray, List.set_cons_zero, List.set_cons_succ, i64_w, i32_w]
      rfl
    refine pure_ (i := 7) (N := some 48) (v := ?_) (a' := ?_) #[true, true, true, true, false, true, true, true, false, false] rfl rfl (by kernel_rfl) (fun _ _ _ h => h) (Or.inl ⟨by rfl, ?_⟩) ?_ ?_
    rotate_left
    · intro w'
      go_simp
      with_reducible rfl
    rotate_left
    · simp only [Act.put, List.setIfInBounds_toArray, List.set_cons_zero, List.set_cons_succ, i64_w, i32_w]
      rfl
    refine take_ (i := 4) (N := some 45) (v := ?_) (a' := ?_) #[true, true, true, true, true, true, true, true, false, false] rfl rfl (by kernel_rfl) (fun _ _ _ h => h) (Or.inl ⟨by rfl, ?_⟩) hHeld ?_ ?_
    rotate_left
    · intro w' s0
      go_simp
      with_reducible rfl
    rotate_left
    · simp only [Act.put, List.setIfInBounds_toArray, List.set_cons_zero, List.set_cons_succ, i64_w, i32_w]
      rfl
    refine pure_ (i := 8) (N := some 49) (v := ?_) (a' := ?_) #[true, true, true, true, true, true, true, true, true, false] rfl rfl (by kernel_rfl) (fun _ _ _ h => h) (Or.inl ⟨by rfl, ?_⟩) ?_ ?_
    rotate_left
    · intro w'
      go_simp
      with_reducible rfl
    rotate_left
    · simp only [Act.put, List.setIfInBounds_toArray, List.set_cons_zero, List.set_cons_succ, i64_w, i32_w]
      rfl
    refine last_ (i := 9) (N := none) #[true, true, true, true, true, true, true, true, true, true] rfl rfl (by kernel_rfl) (by decide) (fun K hK => ?_)
    refine skip_ (w1 := ?_) (by rfl) rfl ?_ ?_
    rotate_left
    · go_simp
      rfl
    refine hK.out _ _ ?_
    clear hK K
    refine done_ (by kernel_rfl) ?_
    clear hc hf hx hHeld
    have H2 := Aside0.mk (dc_sbl H.out 63 (by omega) b)
    have HK2 := Aside0.mk (HK.out.set 67 (.int .u8 b))
    clear H HK
    generalize W7.setCell ⟨g, 67, none⟩ (.int .u8 b) = W8 at *
    have hc := dc_hd H2.out
    have hf := dc_f H2.out 68
    go_wp2
    go_end0
    exact ⟨rfl, HE.out _ (dc_shd H2.out 64), HK2.out.set 68 (.int .i64 64)⟩
end
end Go.Proofs.Ytemdlahghbbkoaa.PAll
