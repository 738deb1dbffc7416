/- The document's Code. -/
import Derived.Test.YteamaaiicjjidaaQNew
namespace Go.Proofs.Yteamaaiicjjidaa.PAll
open Go.RowKit Go.Proofs.Yteamaaiicjjidaa.Huf Go.Proofs.YteamaaiicjjidaaW.PrintWords Go.Proofs.YteamaaiicjjidaaW.PrintLast Go.Proofs.YteamaaiicjjidaaW.PrintMore
attribute [local go_sem] max2_int min2_int max_two min_two max_three min_three max_four min_four   -- for this text's walks alone
set_option linter.unusedVariables false
set_option linter.unusedSimpArgs false
theorem code_le {l : List Int} (hO : Ok l) {s : Nat} (hs : s < l.length) : (code l s).length ≤ 15 := by
  by_cases h0 : 0 < l[s]
  · rw [code_len hs h0, ln_of hs]; have := ok_at hO hs; omega
  · rw [code_no (by simpa [List.getD, hs] using h0)]; simp
theorem code_empty {l : List Int} (hO : Ok l) {s : Nat} (hs : s < l.length) : (code l s).length = 0 ↔ l[s] = 0 := by
  have := ok_at hO hs
  by_cases h0 : 0 < l[s]
  · rw [code_len hs h0, ln_of hs]; omega
  · rw [code_no (by simpa [List.getD, hs] using h0)]; simp; omega
theorem bn_take_succ {L : List Bool} {i : Nat} (h : i < L.length) : bn (L.take (i + 1)) = 2 * bn (L.take i) + (L[i]).toNat := by
  rw [List.take_succ_eq_append_getElem h, bn_snoc]
theorem bn_take_lt (L : List Bool) (i : Nat) (h : L.length ≤ 15) : bn (L.take i) < 32768 := by
  have h1 := bn_lt (L.take i)
  have h2 : (L.take i).length ≤ 15 := by rw [List.length_take]; omega
  have h3 : 2 ^ (L.take i).length ≤ 2 ^ 15 := Nat.pow_le_pow_right (by omega) h2
  have e15 : (2 : Nat) ^ 15 = 32768 := by decide
  omega
section
variable {W : World} {g cb : Nat} {l : List Int}
theorem qcode_out (s : Int) (h : Aside0 (QT W g cb l)) (hs : s < 0 ∨ (l.length : Int) ≤ s) : Calls Try.prog 15 #[.pointer (some ⟨g, 0, none⟩), .int .i64 s] W fun e W' => e = .returned (.tuple #[.int .u32 0, .int .i64 0, .bool false]) ∧ Drawn0 W W' := by
  have hc := qt_c h.out
  by_cases h1 : s < 0
  · have hb : decide (s < 0) = true := decide_eq_true h1
    clear hs h1
    go_enter Try.func15, Try.ntmps15
    go_wp2
    go_ret3
    exact ⟨rfl, by repeat (first | exact Drawn0.refl _ | apply Drawn0.step)⟩
  · have hb : decide (s < 0) = false := decide_eq_false h1
    have hb2 : decide ((l.length : Int) ≤ s) = true := decide_eq_true (by omega)
    clear hs h1
    go_enter Try.func15, Try.ntmps15
    go_wp2
    go_ret3
    exact ⟨rfl, by repeat (first | exact Drawn0.refl _ | apply Drawn0.step)⟩
theorem qcode_zero (s : Nat) (h : Aside0 (QT W g cb l)) (hO : Ok l) (hs : s < l.length) (h0 : l[s] = 0) : Calls Try.prog 15 #[.pointer (some ⟨g, 0, none⟩), .int .i64 (s : Int)] W fun e W' => e = .returned (.tuple #[.int .u32 0, .int .i64 0, .bool false]) ∧ Drawn0 W W' := by
  have hc := qt_c h.out
  obtain ⟨A, hcs, _⟩ := qs_c h.out.rows hs
  rw [(code_empty hO hs).2 h0] at hcs
  have hb : decide ((s : Int) < 0) = false := decide_eq_false (by omega)
  have hb2 : decide ((l.length : Int) ≤ (s : Int)) = false := decide_eq_false (by omega)
  have hb3 : decide (l.length ≤ s) = false := decide_eq_false (by omega)
  have hs0 : (0 : Int) ≤ (s : Int) := by omega
  have hs1 : (s : Int) < (l.length : Int) := by omega
  clear h0
  go_enter Try.func15, Try.ntmps15
  go_wp2
  go_ret3
  exact ⟨rfl, by repeat (first | exact Drawn0.refl _ | apply Drawn0.step)⟩
set_option maxHeartbeats 8000000 in
set_option maxRecDepth 100000 in
theorem qcode_at (s : Nat) (h : Aside0 (QT W g cb l)) (hO : Ok l) (hK : kr l ≤ 32768) (hs : s < l.length) (h0 : 0 < l[s]) : Calls Try.prog 15 #[.pointer (some ⟨g, 0, none⟩), .int .i64 (s : Int)] W fun e W' => e = .returned (.tuple #[.int .u32 (cd l s : Int), .int .i64 l[s], .bool true]) ∧ Drawn0 W W' := by
  have hc := qt_c h.out
  obtain ⟨A, hcs, hCC⟩ := qs_c h.out.rows hs
  have hle := code_le hO hs
  have HCC := Aside0.mk (hCC (by omega))
  have hln : ((code l s).length : Int) = l[s] := by rw [code_len hs h0, ln_of hs]; omega
  have HLN := Aside0.mk hln
  have HBN := Aside0.mk (code_bn hO hK hs h0)
  have hz : (((code l s).length : Int) == 0) = false := beq_eq_false_iff_ne.2 (by omega)
  have hz2 : ((code l s).length == 0) = false := beq_eq_false_iff_ne.2 (by omega)
  have hb : decide ((s : Int) < 0) = false := decide_eq_false (by omega)
  have hb2 : decide ((l.length : Int) ≤ (s : Int)) = false := decide_eq_false (by omega)
  have hb3 : decide (l.length ≤ s) = false := decide_eq_false (by omega)
  have hs0 : (0 : Int) ≤ (s : Int) := by omega
  have hs1 : (s : Int) < (l.length : Int) := by omega
  clear h0 hln hCC
  generalize l[s] = n at *
  generalize code l s = L at *
  have hL0 : ¬ L = [] := by intro e; rw [e] at hz2; simp at hz2
  go_enter Try.func15, Try.ntmps15
  go_wp2
  go_loopg [7, 9] (L.length + 1) (fun kq v7 v9 w' => ∃ i : Nat, v7 = .int .u32 (bn (L.take i) : Int) ∧ v9 = .int .i64 (i : Int) ∧ i + kq = L.length + 1 ∧ i ≤ L.length ∧ Aside0 (Drawn0 W w'))
  case atStart => exact ⟨0, by simp [bn], rfl, by omega, by omega, ⟨by repeat (first | exact Drawn0.refl _ | apply Drawn0.step)⟩⟩
  case round =>
    obtain ⟨i, rfl, rfl, hiq, hil, HD⟩ := hrel
    cases gk with
    | zero => exact absurd hiq (by omega)
    | succ k1 =>
    by_cases hi : i < L.length
    · have hib : decide ((i : Int) < (L.length : Int)) = true := decide_eq_true (by omega)
      obtain ⟨ad, rfl, hcell⟩ := Kd.at_bool (Kd.C_below HCC.out HD.out.below) (i : Int) (by omega) (by omega)
      have e1 : rdOf false L (i : Int) = L[i] := by simp [rdOf, List.getD, hi]
      rw [e1, Int.toNat_natCast] at hcell
      have hi0 : (0 : Int) ≤ (i : Int) := by omega
      have hi1 : (i : Int) < (L.length : Int) := by omega
      have hbs := bn_take_succ hi
      have hbl := bn_take_lt L i hle
      have HBS := Aside0.mk hbs
      have hw1 : IntKind.u32.wrap (2 * (bn (L.take i) : Int)) = ((2 * bn (L.take i) : Nat) : Int) := by simp [IntKind.wrap, IntKind.bits, IntKind.signed]; omega
      have hw2 : 2 * (bn (L.take i) : Int) % 4294967296 = ((2 * bn (L.take i) : Nat) : Int) := by omega
      cases hLi : L[i] with
      | true =>
        rw [hLi] at hcell HBS
        have hw3 : IntKind.u32.wrap (((2 * bn (L.take i) : Nat) : Int) + 1) = ((2 * bn (L.take i) + 1 : Nat) : Int) := by simp [IntKind.wrap, IntKind.bits, IntKind.signed]; omega
        have HW3 : Aside0 ((((2 * bn (L.take i) : Nat) : Int) + 1) % 4294967296 = ((2 * bn (L.take i) + 1 : Nat) : Int)) := ⟨by omega⟩
        clear hbs hbl e1 hLi
        go_wp2
        go_roundg k1
        case measure => omega
        case rel => exact ⟨i + 1, by rw [HBS.out]; first | rfl | simp [Bool.toNat] | (rw [HW3.out]; rfl), by go_num, by omega, by omega, HD⟩
      | false =>
        rw [hLi] at hcell HBS
        clear hbs hbl e1 hLi
        go_wp2
        go_roundg k1
        case measure => omega
        case rel => exact ⟨i + 1, by rw [HBS.out]; first | rfl | simp [Bool.toNat], by go_num, by omega, by omega, HD⟩
    · have hib : decide ((i : Int) < (L.length : Int)) = false := decide_eq_false (by omega)
      obtain rfl : i = L.length := by omega
      rw [List.take_length] at *
      go_wp2
      go_ret3
      exact ⟨by rw [HLN.out, HBN.out]; rfl, HD.out⟩
end
end Go.Proofs.Yteamaaiicjjidaa.PAll
