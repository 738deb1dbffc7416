/- What one byte does to the decoder: plain, behind, escape, second. -/
import Derived.Test.YtemdlahghbbkoaaDP
import Derived.Test.YtemdlahghbbkoaaPAllx1
namespace Go.Proofs.Ytemdlahghbbkoaa.PAll
open Go.RowKit Go.Proofs.YtemdlahghbbkoaaW.PrintWords Go.Proofs.YtemdlahghbbkoaaW.PrintLast Go.Proofs.YtemdlahghbbkoaaW.PrintMore
attribute [local go_sem] max2_int min2_int max_two min_two max_three min_three max_four min_four   -- for this text's walks alone
set_option linter.unusedVariables false
set_option linter.unusedSimpArgs false
/-- a byte where nothing is begun: the state behind it, the blanks that wait, what is known. -/
def plainS (q : List Int) (b : Int) : Int × List Int × List Int :=
  if b = 9 ∨ b = 32 then (if q.length = 64 then (0, q.drop 1 ++ [b], q.take 1) else (0, q ++ [b], []))
  else if b = 13 then (4, q, []) else if b = 10 then (0, [], [10]) else if b = 61 then (1, [], q) else (0, [], q ++ [b])
/-- what a digit says. -/
def digS (b : Int) : Option Int := if 48 ≤ b ∧ b ≤ 57 then some (b - 48) else if 65 ≤ b ∧ b ≤ 70 then some (b - 55) else if 97 ≤ b ∧ b ≤ 102 then some (b - 87) else none
/-- a byte: state, high digit, why, blanks, what is known. -/
def stepS (st hi : Int) (q : List Int) (b : Int) : Int × Int × Int × List Int × List Int :=
  if st = 1 then (match digS b with | some v => (2, v, 0, q, []) | none => if b = 13 then (3, hi, 0, q, []) else if b = 10 then (0, hi, 0, q, []) else (0, hi, 22, q, []))
  else if st = 2 then (match digS b with | some v => (0, hi, 0, q, [16 * hi + v]) | none => (0, hi, 22, q, []))
  else if st = 3 then (if b = 10 then (0, hi, 0, q, []) else (0, hi, 22, q, []))
  else if st = 4 then (if b = 10 then (0, hi, 0, [], [13, 10]) else ((plainS [] b).1, hi, 0, (plainS [] b).2.1, q ++ [13] ++ (plainS [] b).2.2))
  else ((plainS q b).1, hi, 0, (plainS q b).2.1, (plainS q b).2.2)
theorem plainS_len (q : List Int) (b : Int) (h : q.length ≤ 64) : (plainS q b).2.1.length ≤ 64 ∧ (plainS q b).2.2.length ≤ q.length + 1 := by
  unfold plainS
  split
  · split
    · simp; omega
    · simp; omega
  · split
    · simp; omega
    · split
      · simp
      · split <;> simp
theorem stepS_len (st hi : Int) (q : List Int) (b : Int) (h : q.length ≤ 64) : (stepS st hi q b).2.2.2.1.length ≤ 64 ∧ (stepS st hi q b).2.2.2.2.length ≤ 66 := by
  have h1 := plainS_len q b h
  have h2 := plainS_len [] b (by simp)
  simp at h2
  unfold stepS
  split
  · split
    · simp; omega
    · split <;> (try split) <;> simp <;> omega
  · split
    · split <;> simp <;> omega
    · split
      · split <;> simp <;> omega
      · split
        · split
          · simp
          · simp; omega
        · simp; omega
section
variable {W : World} {g : Nat} {st hi : Int} {en : Bool} {wh : Int} {q p : List Int} {k : Nat}
set_option maxHeartbeats 8000000 in
set_option maxRecDepth 100000 in
theorem dq_p13 (h : Aside0 (DQ W g st hi en wh q p k)) :
    Calls Try.prog 35 #[.pointer (some ⟨g, 0, none⟩), .int .u8 13] W fun e W' => e = .returned (.tuple #[]) ∧ DQ W' g 4 hi en wh q p k ∧ DK W W' g := by
  have hc := dq_c0 h
  have hf := dq_f h 0
  have HS := dq_s0 h 4
  have HK := Aside0.mk ((DK.refl W g).set 0 (.int .i64 4))
  clear h
  go_enter Try.func35, Try.ntmps35
  go_wp2
  go_end0
  exact ⟨rfl, HS.out, HK.out⟩
set_option maxHeartbeats 8000000 in
set_option maxRecDepth 100000 in
theorem dq_p10 (h : Aside0 (DQ W g st hi en wh q p k)) (hn : k + p.length < 68) :
    Calls Try.prog 35 #[.pointer (some ⟨g, 0, none⟩), .int .u8 10] W fun e W' => e = .returned (.tuple #[]) ∧ DQ W' g st hi en wh [] (p ++ [10]) k ∧ DK W W' g := by
  have hc := dq_hd h
  have hf := dq_f h 68
  have HS := dq_shd0 h
  have HK := Aside0.mk ((DK.refl W g).set 68 (.int .i64 0))
  have HN := Aside0.mk hn
  clear h hn
  go_enter Try.func35, Try.ntmps35
  go_wp2_with (go_at_call 37; (with_reducible refine (dq_say 10 HS HN.out).mono ?_); rintro e W3 ⟨rfl, hc, hk⟩; have H := Aside0.mk hc; have HK2 := Aside0.mk (HK.out.trans hk); clear hc hk)
  go_end0
  exact ⟨rfl, H.out, HK2.out⟩
set_option maxHeartbeats 8000000 in
set_option maxRecDepth 100000 in
theorem dq_p61 (h : Aside0 (DQ W g st hi en wh q p k)) (hn : k + p.length + q.length ≤ 68) :
    Calls Try.prog 35 #[.pointer (some ⟨g, 0, none⟩), .int .u8 61] W fun e W' => e = .returned (.tuple #[]) ∧ DQ W' g 1 hi en wh [] (p ++ q) k ∧ DK W W' g := by
  go_enter Try.func35, Try.ntmps35
  go_wp2_with (go_at_call 36; (with_reducible refine (dq_free h hn).mono ?_); rintro e W3 ⟨rfl, hc, hk⟩; have H := Aside0.mk hc; have HK2 := Aside0.mk hk; clear hc hk; have hc := dq_c0 H; have hf := dq_f H 0)
  go_end0
  exact ⟨rfl, (dq_s0 H 1).out, HK2.out.set 0 (.int .i64 1)⟩
set_option maxHeartbeats 8000000 in
set_option maxRecDepth 100000 in
theorem dq_pother (b : Int) (h : Aside0 (DQ W g st hi en wh q p k)) (hb : b ≠ 9 ∧ b ≠ 32 ∧ b ≠ 13 ∧ b ≠ 10 ∧ b ≠ 61) (hn : k + p.length + q.length < 68) :
    Calls Try.prog 35 #[.pointer (some ⟨g, 0, none⟩), .int .u8 b] W fun e W' => e = .returned (.tuple #[]) ∧ DQ W' g st hi en wh [] (p ++ q ++ [b]) k ∧ DK W W' g := by
  have hb1 : (b == 9) = false := beq_eq_false_iff_ne.2 hb.1
  have hb2 : (b == 32) = false := beq_eq_false_iff_ne.2 hb.2.1
  have hb3 : (b == 13) = false := beq_eq_false_iff_ne.2 hb.2.2.1
  have hb4 : (b == 10) = false := beq_eq_false_iff_ne.2 hb.2.2.2.1
  have hb5 : (b == 61) = false := beq_eq_false_iff_ne.2 hb.2.2.2.2
  have HN := Aside0.mk (show k + p.length + q.length ≤ 68 by omega)
  have HN2 := Aside0.mk (show k + (p ++ q).length < 68 by rw [List.length_append]; omega)
  clear hb hn
  go_enter Try.func35, Try.ntmps35
  go_wp2_with (first
    | (go_at_call 36; (with_reducible refine (dq_free h HN.out).mono ?_); rintro e W3 ⟨rfl, hc, hk⟩; have H := Aside0.mk hc; have HK := Aside0.mk hk; clear hc hk)
    | (go_at_call 37; (with_reducible refine (dq_say b H HN2.out).mono ?_); rintro e W4 ⟨rfl, hc, hk⟩; have H2 := Aside0.mk hc; have HK2 := Aside0.mk (HK.out.trans hk); clear hc hk))
  go_end0
  exact ⟨rfl, H2.out, HK2.out⟩
/-- plain. -/
theorem dq_plain (b : Int) (h : Aside0 (DQ W g 0 hi en wh q p k)) (hn : k + p.length + q.length < 68) :
    Calls Try.prog 35 #[.pointer (some ⟨g, 0, none⟩), .int .u8 b] W fun e W' => e = .returned (.tuple #[]) ∧ DQ W' g (plainS q b).1 hi en wh (plainS q b).2.1 (p ++ (plainS q b).2.2) k ∧ DK W W' g := by
  have hq : q.length ≤ 64 := by obtain ⟨bl, ou, _, h, _⟩ := h.out; exact h
  unfold plainS
  by_cases h1 : b = 9 ∨ b = 32
  · simp only [if_pos h1]
    by_cases h2 : q.length = 64
    · simp only [if_pos h2]
      exact dq_blank_full b h h1 h2 (by omega)
    · simp only [if_neg h2, List.append_nil]
      exact dq_blank b h h1 (by omega)
  · simp only [if_neg h1]
    by_cases h2 : b = 13
    · subst h2
      simp only [if_true, List.append_nil]
      exact dq_p13 h
    · simp only [if_neg h2]
      by_cases h3 : b = 10
      · subst h3
        simp only [if_true]
        exact dq_p10 h (by omega)
      · simp only [if_neg h3]
        by_cases h4 : b = 61
        · subst h4
          simp only [if_true]
          exact dq_p61 h (by omega)
        · simp only [if_neg h4]
          rw [← List.append_assoc]
          exact dq_pother b h ⟨fun e => h1 (.inl e), fun e => h1 (.inr e), h2, h3, h4⟩ hn
set_option maxHeartbeats 8000000 in
set_option maxRecDepth 100000 in
/-- behind a 13: a 10. -/
theorem dq_behind10 (h : Aside0 (DQ W g st hi en wh q p k)) (hn : k + p.length + 2 ≤ 68) :
    Calls Try.prog 34 #[.pointer (some ⟨g, 0, none⟩), .int .u8 10] W fun e W' => e = .returned (.tuple #[]) ∧ DQ W' g 0 hi en wh [] (p ++ [13, 10]) k ∧ DK W W' g := by
  have hc0 := dq_c0 h
  have hf0 := dq_f h 0
  have HS0 := dq_s0 h 0
  have hc1 := dq_hd HS0
  have hf1 := dq_f HS0 68
  have HS := dq_shd0 HS0
  have HK := Aside0.mk (((DK.refl W g).set 0 (.int .i64 0)).set 68 (.int .i64 0))
  have HN1 := Aside0.mk (show k + p.length < 68 by omega)
  have HN2 := Aside0.mk (show k + (p ++ [13]).length < 68 by simp; omega)
  clear h hn HS0
  go_enter Try.func34, Try.ntmps34
  go_wp2_with (first
    | (go_at_call 37; (with_reducible refine (dq_say 13 HS HN1.out).mono ?_); rintro e W3 ⟨rfl, hc, hk⟩; have H := Aside0.mk hc; have HK2 := Aside0.mk (HK.out.trans hk); clear hc hk HS HK)
    | (go_at_call 37; (with_reducible refine (dq_say 10 H HN2.out).mono ?_); rintro e W4 ⟨rfl, hc, hk⟩; have H2 := Aside0.mk hc; have HK3 := Aside0.mk (HK2.out.trans hk); clear hc hk))
  (try simp only [Exit.inBlock, Exit.then])
  refine bodyPost_ret (results_none rfl _ _ _) rfl ?_
  exact ⟨rfl, by have := H2.out; rw [List.append_assoc] at this; exact this, HK3.out⟩
theorem dq_plain' {s2 : Int} {q2 e2 : List Int} (b : Int) (h : Aside0 (DQ W g 0 hi en wh q p k)) (hn : k + p.length + q.length < 68) (hp : plainS q b = (s2, q2, e2)) :
    Calls Try.prog 35 #[.pointer (some ⟨g, 0, none⟩), .int .u8 b] W fun e W' => e = .returned (.tuple #[]) ∧ DQ W' g s2 hi en wh q2 (p ++ e2) k ∧ DK W W' g := by
  have := dq_plain b h hn
  rw [hp] at this; exact this
set_option maxHeartbeats 8000000 in
set_option maxRecDepth 100000 in
/-- behind a 13: another byte. -/
theorem dq_behind {s2 : Int} {q2 e2 P2 : List Int} (b : Int) (h : Aside0 (DQ W g st hi en wh q p k)) (hb : b ≠ 10) (hn : k + p.length + q.length + 2 ≤ 68) (hp : Aside0 (plainS [] b = (s2, q2, e2) ∧ P2 = p ++ (q ++ [13] ++ e2))) :
    Calls Try.prog 34 #[.pointer (some ⟨g, 0, none⟩), .int .u8 b] W fun e W' => e = .returned (.tuple #[]) ∧ DQ W' g s2 hi en wh q2 P2 k ∧ DK W W' g := by
  have hc0 := dq_c0 h
  have hf0 := dq_f h 0
  have HS := dq_s0 h 0
  have HK := Aside0.mk ((DK.refl W g).set 0 (.int .i64 0))
  have hb1 : (b == 10) = false := beq_eq_false_iff_ne.2 hb
  have HN1 := Aside0.mk (show k + p.length + q.length ≤ 68 by omega)
  have HN2 := Aside0.mk (show k + (p ++ q).length < 68 by simp; omega)
  have HN3 := Aside0.mk (show k + (p ++ q ++ [13]).length + ([] : List Int).length < 68 by simp; omega)
  clear h hb hn
  go_enter Try.func34, Try.ntmps34
  go_wp2_with (first
    | (go_at_call 36; (with_reducible refine (dq_free HS HN1.out).mono ?_); rintro e W3 ⟨rfl, hc, hk⟩; have H := Aside0.mk hc; have HK2 := Aside0.mk (HK.out.trans hk); clear hc hk HS HK)
    | (go_at_call 37; (with_reducible refine (dq_say 13 H HN2.out).mono ?_); rintro e W4 ⟨rfl, hc, hk⟩; have H2 := Aside0.mk hc; have HK3 := Aside0.mk (HK2.out.trans hk); clear hc hk H HK2)
    | (go_at_call 35; (with_reducible refine (dq_plain' b H2 HN3.out hp.out.1).mono ?_); rintro e W5 ⟨rfl, hc, hk⟩; have H3 := Aside0.mk hc; have HK4 := Aside0.mk (HK3.out.trans hk); clear hc hk H2 HK3))
  go_end0
  exact ⟨rfl, by rw [hp.out.2, ← List.append_assoc, ← List.append_assoc]; exact H3.out, HK4.out⟩
theorem value_f (b : Int) (h0 : 0 ≤ b) (h1 : b ≤ 255) : (∃ v, digS b = some v ∧ quoted_value.f 3 b = some (v, true) ∧ 0 ≤ v ∧ v ≤ 15) ∨ (digS b = none ∧ quoted_value.f 3 b = some (0, false)) := by
  have key : ∀ n : Fin 256, (∃ v, digS ((n.1 : Nat) : Int) = some v ∧ quoted_value.f 3 ((n.1 : Nat) : Int) = some (v, true) ∧ 0 ≤ v ∧ v ≤ 15) ∨ (digS ((n.1 : Nat) : Int) = none ∧ quoted_value.f 3 ((n.1 : Nat) : Int) = some (0, false)) := by
    have h2 : ∀ n : Fin 256, (match digS ((n.1 : Nat) : Int) with | some v => decide (quoted_value.f 3 ((n.1 : Nat) : Int) = some (v, true) ∧ 0 ≤ v ∧ v ≤ 15) | none => decide (quoted_value.f 3 ((n.1 : Nat) : Int) = some (0, false))) = true := by decide +kernel
    intro n
    have := h2 n
    cases hd : digS ((n.1 : Nat) : Int) with
    | none => rw [hd] at this; exact .inr ⟨rfl, of_decide_eq_true this⟩
    | some v => rw [hd] at this; exact .inl ⟨v, rfl, of_decide_eq_true this⟩
  have := key ⟨b.toNat, by omega⟩
  simp only [Int.toNat_of_nonneg h0] at this
  exact this
theorem or_hi (h v : Int) (h0 : 0 ≤ h) (h1 : h ≤ 15) (v0 : 0 ≤ v) (v1 : v ≤ 15) : Go.bits .or .u8 (h * 16) v = 16 * h + v := by
  have key : ∀ a b : Fin 16, Go.bits .or .u8 (((a.1 : Nat) : Int) * 16) ((b.1 : Nat) : Int) = 16 * ((a.1 : Nat) : Int) + ((b.1 : Nat) : Int) := by decide +kernel
  have := key ⟨h.toNat, by omega⟩ ⟨v.toNat, by omega⟩
  simp only [Int.toNat_of_nonneg h0, Int.toNat_of_nonneg v0] at this
  exact this
set_option maxHeartbeats 8000000 in
set_option maxRecDepth 100000 in
/-- behind an =: a digit. -/
theorem dq_esc_dig (b v : Int) (h : Aside0 (DQ W g st hi en wh q p k)) (hv : Aside0 (quoted_value.f 3 b = some (v, true))) :
    Calls Try.prog 32 #[.pointer (some ⟨g, 0, none⟩), .int .u8 b] W fun e W' => e = .returned (.tuple #[]) ∧ DQ W' g 2 v en wh q p k ∧ DK W W' g := by
  have hc0 := dq_c0 h
  have hf0 := dq_f h 0
  have HS := dq_s0 h 0
  have HK := Aside0.mk ((DK.refl W g).set 0 (.int .i64 0))
  clear h
  go_enter Try.func32, Try.ntmps32
  go_wp2_with (go_at_call 40; (with_reducible refine (quoted_value.calls 3 b v true _ hv.out).mono ?_); rintro e W3 ⟨rfl, hd⟩; have H := Aside0.mk (dq_below HS.out hd.below); have HK2 := Aside0.mk (HK.out.trans (DK.below hd.below)); clear hd HS HK; have hc1 := dq_c1 H; have hc2 := dq_c0 H; have hf1 := dq_f H 1; have hf2 := dq_f H 0)
  go_end0
  exact ⟨rfl, (dq_s0 (dq_s1 H v) 2).out, (HK2.out.set 1 (.int .u8 v)).set 0 (.int .i64 2)⟩
set_option maxHeartbeats 8000000 in
set_option maxRecDepth 100000 in
theorem dq_esc_13 (h : Aside0 (DQ W g st hi en wh q p k)) :
    Calls Try.prog 32 #[.pointer (some ⟨g, 0, none⟩), .int .u8 13] W fun e W' => e = .returned (.tuple #[]) ∧ DQ W' g 3 hi en wh q p k ∧ DK W W' g := by
  have hc0 := dq_c0 h
  have hf0 := dq_f h 0
  have HS := dq_s0 h 0
  have HK := Aside0.mk ((DK.refl W g).set 0 (.int .i64 0))
  have HV := Aside0.mk (show quoted_value.f 3 13 = some (0, false) by decide +kernel)
  clear h
  go_enter Try.func32, Try.ntmps32
  go_wp2_with (go_at_call 40; (with_reducible refine (quoted_value.calls 3 13 0 false _ HV.out).mono ?_); rintro e W3 ⟨rfl, hd⟩; have H := Aside0.mk (dq_below HS.out hd.below); have HK2 := Aside0.mk (HK.out.trans (DK.below hd.below)); clear hd HS HK; have hc2 := dq_c0 H; have hf2 := dq_f H 0)
  go_end0
  exact ⟨rfl, (dq_s0 H 3).out, HK2.out.set 0 (.int .i64 3)⟩
set_option maxHeartbeats 8000000 in
set_option maxRecDepth 100000 in
theorem dq_esc_10 (h : Aside0 (DQ W g st hi en wh q p k)) :
    Calls Try.prog 32 #[.pointer (some ⟨g, 0, none⟩), .int .u8 10] W fun e W' => e = .returned (.tuple #[]) ∧ DQ W' g 0 hi en wh q p k ∧ DK W W' g := by
  have hc0 := dq_c0 h
  have hf0 := dq_f h 0
  have HS := dq_s0 h 0
  have HK := Aside0.mk ((DK.refl W g).set 0 (.int .i64 0))
  have HV := Aside0.mk (show quoted_value.f 3 10 = some (0, false) by decide +kernel)
  clear h
  go_enter Try.func32, Try.ntmps32
  go_wp2_with (go_at_call 40; (with_reducible refine (quoted_value.calls 3 10 0 false _ HV.out).mono ?_); rintro e W3 ⟨rfl, hd⟩; have H := Aside0.mk (dq_below HS.out hd.below); have HK2 := Aside0.mk (HK.out.trans (DK.below hd.below)); clear hd HS HK)
  go_end0
  exact ⟨rfl, H.out, HK2.out⟩
set_option maxHeartbeats 8000000 in
set_option maxRecDepth 100000 in
theorem dq_esc_no (b : Int) (h : Aside0 (DQ W g st hi en wh q p k)) (hv : Aside0 (quoted_value.f 3 b = some (0, false))) (hb : b ≠ 13 ∧ b ≠ 10) :
    Calls Try.prog 32 #[.pointer (some ⟨g, 0, none⟩), .int .u8 b] W fun e W' => e = .returned (.tuple #[]) ∧ DQ W' g 0 hi en 22 q p k ∧ DK W W' g := by
  have hc0 := dq_c0 h
  have hf0 := dq_f h 0
  have HS := dq_s0 h 0
  have HK := Aside0.mk ((DK.refl W g).set 0 (.int .i64 0))
  have hb1 : (b == 13) = false := beq_eq_false_iff_ne.2 hb.1
  have hb2 : (b != 10) = true := bne_iff_ne.2 hb.2
  have hb3 : (b == 10) = false := beq_eq_false_iff_ne.2 hb.2
  clear h hb
  go_enter Try.func32, Try.ntmps32
  go_wp2_with (go_at_call 40; (with_reducible refine (quoted_value.calls 3 b 0 false _ hv.out).mono ?_); rintro e W3 ⟨rfl, hd⟩; have H := Aside0.mk (dq_below HS.out hd.below); have HK2 := Aside0.mk (HK.out.trans (DK.below hd.below)); clear hd HS HK; have hc3 := dq_c3 H; have hf3 := dq_f H 3)
  go_end0
  exact ⟨rfl, (dq_s3 H 22).out, HK2.out.set 3 (.int .i64 22)⟩
set_option maxHeartbeats 8000000 in
set_option maxRecDepth 100000 in
/-- behind an = and a digit: a digit. -/
theorem dq_sec_dig (b v X : Int) (h : Aside0 (DQ W g st hi en wh q p k)) (hv : Aside0 (quoted_value.f 3 b = some (v, true))) (hh : Aside0 (0 ≤ hi ∧ hi ≤ 15 ∧ 0 ≤ v ∧ v ≤ 15)) (hX : Aside0 (X = 16 * hi + v)) (hn : k + p.length < 68) :
    Calls Try.prog 33 #[.pointer (some ⟨g, 0, none⟩), .int .u8 b] W fun e W' => e = .returned (.tuple #[]) ∧ DQ W' g 0 hi en wh q (p ++ [X]) k ∧ DK W W' g := by
  have hc0 := dq_c0 h
  have hf0 := dq_f h 0
  have HS := dq_s0 h 0
  have HK := Aside0.mk ((DK.refl W g).set 0 (.int .i64 0))
  have HN := Aside0.mk hn
  have hor : Go.bits .or .u8 (hi * 16) v = X := by rw [hX.out]; exact or_hi _ _ hh.out.1 hh.out.2.1 hh.out.2.2.1 hh.out.2.2.2
  have hw1 : IntKind.u8.wrap (hi * 16) = hi * 16 := by have := hh.out; simp [IntKind.wrap, IntKind.bits, IntKind.signed]; omega
  have hm1 : (hi * 16) % 256 = hi * 16 := by have := hh.out; omega
  clear h hn
  go_enter Try.func33, Try.ntmps33
  go_wp2_with (first
    | (go_at_call 40; (with_reducible refine (quoted_value.calls 3 b v true _ hv.out).mono ?_); rintro e W3 ⟨rfl, hd⟩; have H := Aside0.mk (dq_below HS.out hd.below); have HK2 := Aside0.mk (HK.out.trans (DK.below hd.below)); clear hd HS HK; have hc1 := dq_c1 H)
    | (go_at_call 37; (with_reducible refine (dq_say X H HN.out).mono ?_); rintro e W4 ⟨rfl, hc, hk⟩; have H2 := Aside0.mk hc; have HK3 := Aside0.mk (HK2.out.trans hk); clear hc hk H HK2))
  go_end0
  exact ⟨rfl, H2.out, HK3.out⟩
set_option maxHeartbeats 8000000 in
set_option maxRecDepth 100000 in
theorem dq_sec_no (b : Int) (h : Aside0 (DQ W g st hi en wh q p k)) (hv : Aside0 (quoted_value.f 3 b = some (0, false))) :
    Calls Try.prog 33 #[.pointer (some ⟨g, 0, none⟩), .int .u8 b] W fun e W' => e = .returned (.tuple #[]) ∧ DQ W' g 0 hi en 22 q p k ∧ DK W W' g := by
  have hc0 := dq_c0 h
  have hf0 := dq_f h 0
  have HS := dq_s0 h 0
  have HK := Aside0.mk ((DK.refl W g).set 0 (.int .i64 0))
  clear h
  go_enter Try.func33, Try.ntmps33
  go_wp2_with (go_at_call 40; (with_reducible refine (quoted_value.calls 3 b 0 false _ hv.out).mono ?_); rintro e W3 ⟨rfl, hd⟩; have H := Aside0.mk (dq_below HS.out hd.below); have HK2 := Aside0.mk (HK.out.trans (DK.below hd.below)); clear hd HS HK; have hc3 := dq_c3 H; have hf3 := dq_f H 3)
  (try simp only [Exit.inBlock, Exit.then])
  refine bodyPost_ret (results_none rfl _ _ _) rfl ?_
  exact ⟨rfl, (dq_s3 H 22).out, HK2.out.set 3 (.int .i64 22)⟩
end
end Go.Proofs.Ytemdlahghbbkoaa.PAll
