/- The document's escape: what stands behind an =. -/
import Derived.Test.YtemdlahghbbkoaaSay
import Derived.Test.YtemdlahghbbkoaaPAllx1
namespace Go.Proofs.Ytemdlahghbbkoaa.PAll
open Go.RowKit Go.Proofs.YtemdlahghbbkoaaW.PrintWords Go.Proofs.YtemdlahghbbkoaaW.PrintLast Go.Proofs.YtemdlahghbbkoaaW.PrintMore
attribute [local go_sem] max2_int min2_int max_two min_two max_three min_three max_four min_four   -- for this text's walks alone
set_option linter.unusedVariables false
set_option linter.unusedSimpArgs false
def brk : List Int → Int
  | 10 :: _ => 1
  | 13 :: 10 :: _ => 2
  | _ => 0
theorem bw_succ (i : Nat) (h : i ≤ 1048576 * 1048576) : wrap64 ((i : Int) + 1) = ((i + 1 : Nat) : Int) := by unfold wrap64; omega
theorem brd_drop {l : List Int} {i : Nat} {b : Int} {r : List Int} (h : l.drop i = b :: r) : i < l.length ∧ rd l (i : Int) = b ∧ l.drop (i + 1) = r := by
  have h1 : i < l.length := by
    rcases Nat.lt_or_ge i l.length with h1 | h1
    · exact h1
    · rw [List.drop_of_length_le h1] at h; cases h
  rw [List.drop_eq_getElem_cons h1] at h
  injection h with h2 h3
  refine ⟨h1, ?_, h3⟩
  simp [rd, h1, h2]
theorem breaks_f (l : List Int) (hm : l.length ≤ 1048576 * 1024) (i k : Nat) (hi : i ≤ 1048576 * 1048576) : winkleref11_breaks.f (k + 1) l (i : Int) = some (brk (l.drop i)) := by
  unfold winkleref11_breaks.f
  match hd : l.drop i with
  | [] =>
    have : l.length ≤ i := List.drop_eq_nil_iff.1 hd
    rw [if_neg (by omega)]
    simp only [winkleref11_breaks.j0]
    rw [if_neg (by simp), bw_succ i hi, if_neg (by omega)]
    rfl
  | b :: r =>
    obtain ⟨hlt, hb, hr⟩ := brd_drop hd
    rw [if_pos (by omega), if_pos (by omega), hb]
    simp only [winkleref11_breaks.j0]
    by_cases h10 : b = 10
    · subst h10
      simp [brk]
    · rw [if_neg (by simp [h10]), bw_succ i hi]
      match r, hr with
      | [], hr =>
        have : l.length ≤ i + 1 := List.drop_eq_nil_iff.1 hr
        rw [if_neg (by omega)]
        simp [brk, h10]
      | c :: r2, hr =>
        obtain ⟨hlt2, hc, hr2⟩ := brd_drop hr
        rw [if_pos (by omega), if_pos (by omega), if_pos (by omega), hb, hc]
        by_cases h13 : b = 13
        · subst h13
          rw [if_pos rfl, if_pos (by omega)]
          by_cases hc10 : c = 10
          · subst hc10; simp [brk]
          · rw [if_neg hc10]; simp [brk, hc10]
        · rw [if_neg h13]
          simp [brk, h10, h13]
/-- the text is of a length that the document's run can take. -/
def LenOk (L : Nat) : Prop := L ≤ 1048576 * 1024
theorem brk_calls {w W : World} {A : Option Addr} {c L i : Nat} {l : List Int} {nb : Int} (hB : Aside0 (Below w.heap.size w W)) (hR : Aside0 (ReadsOf (Value.int .u8) (0 : Int) w A L l)) (hL : Aside0 (l.length = L)) (hc : Aside0 (L ≤ c)) (h : Aside0 (brk (l.drop i) = nb)) (hok : LenOk L) (hi : i ≤ L) :
    Calls Try.prog 24 #[.slice A L c, .int .i64 (i : Int)] W fun e W' => e = .returned (.int .i64 nb) ∧ Drawn0 W W' := by
  have h1 := hL.out
  subst h1
  unfold LenOk at hok
  exact winkleref11_breaks.calls 1 A c l (i : Int) nb W (Kd.C_of_reads (d := (0 : Int)) (h1 := fun _ => rfl) (hR.out.below hB.out)) hc.out (by rw [breaks_f l hok i 0 (by omega), h.out])
def JF (i j1 j2 L : Nat) : Prop := (i : Int) + 1 = (j1 : Int) ∧ (i : Int) + 2 = (j2 : Int) ∧ wrap64 (j1 : Int) = (j1 : Int) ∧ wrap64 (j2 : Int) = (j2 : Int) ∧ LenOk L ∧ j1 ≤ L
theorem rn_base {w W : World} {g : Nat} {out times : List Int} {why at_ : Int} (h : RN w W g out times why at_) : Below w.heap.size w W := by obtain ⟨v0, v1, h⟩ := h; exact h.2.2.2.2
theorem es_w1 {x : Int} (h : 0 ≤ x ∧ x ≤ 15) : wrap64 (16 * x) = 16 * x := by unfold wrap64; omega
theorem es_w2 {x y : Int} (h : 0 ≤ x ∧ x ≤ 15) (h' : 0 ≤ y ∧ y ≤ 15) : wrap64 (16 * x + y) = 16 * x + y := by unfold wrap64; omega
theorem es_w3 {x y : Int} (h : 0 ≤ x ∧ x ≤ 15) (h' : 0 ≤ y ∧ y ≤ 15) : IntKind.u8.wrap (16 * x + y) = 16 * x + y := by rw [IntKind.wrap_u8]; omega
theorem es_w4 {x y : Int} (h : 0 ≤ x ∧ x ≤ 15) (h' : 0 ≤ y ∧ y ≤ 15) : (16 * x + y) % 256 = 16 * x + y := by omega
set_option maxHeartbeats 8000000 in
set_option maxRecDepth 100000 in
theorem es_brk1 {w W : World} {g : Nat} {A : Option Addr} {c L i j1 j2 : Nat} {l out times : List Int} {why at_ : Int} (hRN : Aside0 (RN w W g out times why at_)) (HR : Aside0 (ReadsOf (Value.int .u8) (0 : Int) w A L l)) (HL : Aside0 (l.length = L)) (HC : Aside0 (L ≤ c)) (HJ : Aside0 (JF i j1 j2 L)) (HBK : Aside0 (brk (l.drop j1) = 1)) :
    Calls Try.prog 26 #[.pointer (some ⟨g, 0, none⟩), .slice A L c, .int .i64 (i : Int)] W fun e W' => e = .returned (.int .i64 2) ∧ RN w W' g out times why at_ := by
  have HRN := hRN
  have HB := Aside0.mk (rn_base hRN.out)
  have hj1 : (i : Int) + 1 = (j1 : Int) := HJ.out.1
  have hj2 : (i : Int) + 2 = (j2 : Int) := HJ.out.2.1
  have hw1 : wrap64 (j1 : Int) = (j1 : Int) := HJ.out.2.2.1
  have hw2 : wrap64 (j2 : Int) = (j2 : Int) := HJ.out.2.2.2.1
  have HOK := Aside0.mk (show LenOk L ∧ j1 ≤ L from HJ.out.2.2.2.2)
  clear hRN
  go_enter Try.func26, Try.ntmps26
  go_wp2_with (first
    | (go_at_call 24; (with_reducible refine (brk_calls HB HR HL HC HBK HOK.out.1 HOK.out.2).mono ?_); rintro e w3 ⟨rfl, hd⟩; have HRN2 := Aside0.mk (rn_belowE HRN.out hd.below); have HB2 := Aside0.mk (below_step HB.out hd.below); clear hd HRN HB; have HRN := HRN2; have HB := HB2; clear HRN2 HB2))
  go_ret
  exact ⟨rfl, HRN.out⟩

set_option maxHeartbeats 8000000 in
set_option maxRecDepth 100000 in
theorem es_brk2 {w W : World} {g : Nat} {A : Option Addr} {c L i j1 j2 : Nat} {l out times : List Int} {why at_ : Int} (hRN : Aside0 (RN w W g out times why at_)) (HR : Aside0 (ReadsOf (Value.int .u8) (0 : Int) w A L l)) (HL : Aside0 (l.length = L)) (HC : Aside0 (L ≤ c)) (HJ : Aside0 (JF i j1 j2 L)) (HBK : Aside0 (brk (l.drop j1) = 2)) :
    Calls Try.prog 26 #[.pointer (some ⟨g, 0, none⟩), .slice A L c, .int .i64 (i : Int)] W fun e W' => e = .returned (.int .i64 3) ∧ RN w W' g out times why at_ := by
  have HRN := hRN
  have HB := Aside0.mk (rn_base hRN.out)
  have hj1 : (i : Int) + 1 = (j1 : Int) := HJ.out.1
  have hj2 : (i : Int) + 2 = (j2 : Int) := HJ.out.2.1
  have hw1 : wrap64 (j1 : Int) = (j1 : Int) := HJ.out.2.2.1
  have hw2 : wrap64 (j2 : Int) = (j2 : Int) := HJ.out.2.2.2.1
  have HOK := Aside0.mk (show LenOk L ∧ j1 ≤ L from HJ.out.2.2.2.2)
  clear hRN
  go_enter Try.func26, Try.ntmps26
  go_wp2_with (first
    | (go_at_call 24; (with_reducible refine (brk_calls HB HR HL HC HBK HOK.out.1 HOK.out.2).mono ?_); rintro e w3 ⟨rfl, hd⟩; have HRN2 := Aside0.mk (rn_belowE HRN.out hd.below); have HB2 := Aside0.mk (below_step HB.out hd.below); clear hd HRN HB; have HRN := HRN2; have HB := HB2; clear HRN2 HB2))
  go_ret
  exact ⟨rfl, HRN.out⟩

set_option maxHeartbeats 8000000 in
set_option maxRecDepth 100000 in
theorem es_end {w W : World} {g : Nat} {A : Option Addr} {c L i j1 j2 : Nat} {l out times : List Int} {why at_ : Int} (hRN : Aside0 (RN w W g out times why at_)) (HR : Aside0 (ReadsOf (Value.int .u8) (0 : Int) w A L l)) (HL : Aside0 (l.length = L)) (HC : Aside0 (L ≤ c)) (HJ : Aside0 (JF i j1 j2 L)) (HBK : Aside0 (brk (l.drop j1) = 0)) (HE : Aside0 (j1 = L)) :
    Calls Try.prog 26 #[.pointer (some ⟨g, 0, none⟩), .slice A L c, .int .i64 (i : Int)] W fun e W' => e = .returned (.int .i64 1) ∧ RN w W' g out times why at_ := by
  have HRN := hRN
  have HB := Aside0.mk (rn_base hRN.out)
  have hj1 : (i : Int) + 1 = (j1 : Int) := HJ.out.1
  have hj2 : (i : Int) + 2 = (j2 : Int) := HJ.out.2.1
  have hw1 : wrap64 (j1 : Int) = (j1 : Int) := HJ.out.2.2.1
  have hw2 : wrap64 (j2 : Int) = (j2 : Int) := HJ.out.2.2.2.1
  have HOK := Aside0.mk (show LenOk L ∧ j1 ≤ L from HJ.out.2.2.2.2)
  have heq : ((j1 : Int) == (L : Int)) = true := beq_iff_eq.2 (by have := HE.out; omega)
  have heq2 : (j1 == L) = true := beq_iff_eq.2 HE.out
  clear hRN
  go_enter Try.func26, Try.ntmps26
  go_wp2_with (first
    | (go_at_call 24; (with_reducible refine (brk_calls HB HR HL HC HBK HOK.out.1 HOK.out.2).mono ?_); rintro e w3 ⟨rfl, hd⟩; have HRN2 := Aside0.mk (rn_belowE HRN.out hd.below); have HB2 := Aside0.mk (below_step HB.out hd.below); clear hd HRN HB; have HRN := HRN2; have HB := HB2; clear HRN2 HB2))
  go_ret
  exact ⟨rfl, HRN.out⟩

set_option maxHeartbeats 8000000 in
set_option maxRecDepth 100000 in
theorem es_cr {w W : World} {g : Nat} {A : Option Addr} {c L i j1 j2 : Nat} {l out times : List Int} {why at_ : Int} {b1 : Int} (hRN : Aside0 (RN w W g out times why at_)) (HR : Aside0 (ReadsOf (Value.int .u8) (0 : Int) w A L l)) (HL : Aside0 (l.length = L)) (HC : Aside0 (L ≤ c)) (HJ : Aside0 (JF i j1 j2 L)) (HBK : Aside0 (brk (l.drop j1) = 0)) (HJ1 : Aside0 (j1 < L)) (HB1 : Aside0 (l.getD j1 0 = b1)) (HE : Aside0 (b1 = 13 ∧ j2 < L)) :
    Calls Try.prog 26 #[.pointer (some ⟨g, 0, none⟩), .slice A L c, .int .i64 (i : Int)] W fun e W' => e = .returned (.int .i64 2) ∧ RN w W' g out times 22 (j2 : Int) := by
  have HRN := hRN
  have HB := Aside0.mk (rn_base hRN.out)
  have hj1 : (i : Int) + 1 = (j1 : Int) := HJ.out.1
  have hj2 : (i : Int) + 2 = (j2 : Int) := HJ.out.2.1
  have hw1 : wrap64 (j1 : Int) = (j1 : Int) := HJ.out.2.2.1
  have hw2 : wrap64 (j2 : Int) = (j2 : Int) := HJ.out.2.2.2.1
  have HOK := Aside0.mk (show LenOk L ∧ j1 ≤ L from HJ.out.2.2.2.2)
  obtain ⟨ad, hAe, hx1⟩ := ReadsOf.at_ HR.out (j1 : Int) (by omega) (by have := HJ1.out; omega)
  have HAE := Aside0.mk hAe
  clear hAe
  rw [Int.toNat_natCast] at hx1
  have hrd1 : rdOf (0 : Int) l (j1 : Int) = b1 := by have := HB1.out; simp only [rdOf, Int.toNat_natCast]; exact this
  rw [hrd1] at hx1
  have HX1 := Aside0.mk hx1
  have hi0 : (0 : Int) ≤ (j1 : Int) := by omega
  have hi1 : (j1 : Int) < (L : Int) := by have := HJ1.out; omega
  have hne : ((j1 : Int) == (L : Int)) = false := beq_eq_false_iff_ne.2 (by omega)
  have hne2 : (j1 == L) = false := beq_eq_false_iff_ne.2 (by omega)
  replace hx1 := pw_cell_below HB.out HX1.out
  clear hrd1
  obtain rfl := HAE.out
  clear HAE
  have h13 : (b1 == 13) = true := beq_iff_eq.2 HE.out.1
  have hlt : decide ((j2 : Int) < (L : Int)) = true := decide_eq_true (by have := HE.out.2; omega)
  have hlt2 : decide (j2 < L) = true := decide_eq_true HE.out.2
  clear hRN
  go_enter Try.func26, Try.ntmps26
  go_wp2_with (first
    | (go_at_call 24; (with_reducible refine (brk_calls HB HR HL HC HBK HOK.out.1 HOK.out.2).mono ?_); rintro e w3 ⟨rfl, hd⟩; have HRN2 := Aside0.mk (rn_belowE HRN.out hd.below); have HB2 := Aside0.mk (below_step HB.out hd.below); clear hd HRN HB hx1; have HRN := HRN2; have HB := HB2; have hx1 := pw_cell_below HB.out HX1.out; clear HRN2 HB2)
    | (go_at_call 38; (with_reducible refine (rn_stop 22 (j2 : Int) HRN).mono ?_); rintro e w5 ⟨rfl, hs⟩; have HS := Aside0.mk hs; clear hs HRN HB))
  go_ret
  exact ⟨rfl, HS.out⟩

set_option maxHeartbeats 8000000 in
set_option maxRecDepth 100000 in
theorem es_cre {w W : World} {g : Nat} {A : Option Addr} {c L i j1 j2 : Nat} {l out times : List Int} {why at_ : Int} {b1 : Int} (hRN : Aside0 (RN w W g out times why at_)) (HR : Aside0 (ReadsOf (Value.int .u8) (0 : Int) w A L l)) (HL : Aside0 (l.length = L)) (HC : Aside0 (L ≤ c)) (HJ : Aside0 (JF i j1 j2 L)) (HBK : Aside0 (brk (l.drop j1) = 0)) (HJ1 : Aside0 (j1 < L)) (HB1 : Aside0 (l.getD j1 0 = b1)) (HE : Aside0 (b1 = 13 ∧ ¬ j2 < L)) :
    Calls Try.prog 26 #[.pointer (some ⟨g, 0, none⟩), .slice A L c, .int .i64 (i : Int)] W fun e W' => e = .returned (.int .i64 2) ∧ RN w W' g out times why at_ := by
  have HRN := hRN
  have HB := Aside0.mk (rn_base hRN.out)
  have hj1 : (i : Int) + 1 = (j1 : Int) := HJ.out.1
  have hj2 : (i : Int) + 2 = (j2 : Int) := HJ.out.2.1
  have hw1 : wrap64 (j1 : Int) = (j1 : Int) := HJ.out.2.2.1
  have hw2 : wrap64 (j2 : Int) = (j2 : Int) := HJ.out.2.2.2.1
  have HOK := Aside0.mk (show LenOk L ∧ j1 ≤ L from HJ.out.2.2.2.2)
  obtain ⟨ad, hAe, hx1⟩ := ReadsOf.at_ HR.out (j1 : Int) (by omega) (by have := HJ1.out; omega)
  have HAE := Aside0.mk hAe
  clear hAe
  rw [Int.toNat_natCast] at hx1
  have hrd1 : rdOf (0 : Int) l (j1 : Int) = b1 := by have := HB1.out; simp only [rdOf, Int.toNat_natCast]; exact this
  rw [hrd1] at hx1
  have HX1 := Aside0.mk hx1
  have hi0 : (0 : Int) ≤ (j1 : Int) := by omega
  have hi1 : (j1 : Int) < (L : Int) := by have := HJ1.out; omega
  have hne : ((j1 : Int) == (L : Int)) = false := beq_eq_false_iff_ne.2 (by omega)
  have hne2 : (j1 == L) = false := beq_eq_false_iff_ne.2 (by omega)
  replace hx1 := pw_cell_below HB.out HX1.out
  clear hrd1
  obtain rfl := HAE.out
  clear HAE
  have h13 : (b1 == 13) = true := beq_iff_eq.2 HE.out.1
  have hlt : decide ((j2 : Int) < (L : Int)) = false := decide_eq_false (by have := HE.out.2; omega)
  have hlt2 : decide (j2 < L) = false := decide_eq_false HE.out.2
  clear hRN
  go_enter Try.func26, Try.ntmps26
  go_wp2_with (first
    | (go_at_call 24; (with_reducible refine (brk_calls HB HR HL HC HBK HOK.out.1 HOK.out.2).mono ?_); rintro e w3 ⟨rfl, hd⟩; have HRN2 := Aside0.mk (rn_belowE HRN.out hd.below); have HB2 := Aside0.mk (below_step HB.out hd.below); clear hd HRN HB hx1; have HRN := HRN2; have HB := HB2; have hx1 := pw_cell_below HB.out HX1.out; clear HRN2 HB2))
  go_ret
  exact ⟨rfl, HRN.out⟩

set_option maxHeartbeats 8000000 in
set_option maxRecDepth 100000 in
theorem es_bad1 {w W : World} {g : Nat} {A : Option Addr} {c L i j1 j2 : Nat} {l out times : List Int} {why at_ : Int} {b1 : Int} (hRN : Aside0 (RN w W g out times why at_)) (HR : Aside0 (ReadsOf (Value.int .u8) (0 : Int) w A L l)) (HL : Aside0 (l.length = L)) (HC : Aside0 (L ≤ c)) (HJ : Aside0 (JF i j1 j2 L)) (HBK : Aside0 (brk (l.drop j1) = 0)) (HJ1 : Aside0 (j1 < L)) (HB1 : Aside0 (l.getD j1 0 = b1)) (HE : Aside0 (b1 ≠ 13)) (HD1 : Aside0 (winkleref11_Digit.f 3 b1 = some (-1))) :
    Calls Try.prog 26 #[.pointer (some ⟨g, 0, none⟩), .slice A L c, .int .i64 (i : Int)] W fun e W' => e = .returned (.int .i64 0) ∧ RN w W' g out times 22 (j1 : Int) := by
  have HRN := hRN
  have HB := Aside0.mk (rn_base hRN.out)
  have hj1 : (i : Int) + 1 = (j1 : Int) := HJ.out.1
  have hj2 : (i : Int) + 2 = (j2 : Int) := HJ.out.2.1
  have hw1 : wrap64 (j1 : Int) = (j1 : Int) := HJ.out.2.2.1
  have hw2 : wrap64 (j2 : Int) = (j2 : Int) := HJ.out.2.2.2.1
  have HOK := Aside0.mk (show LenOk L ∧ j1 ≤ L from HJ.out.2.2.2.2)
  obtain ⟨ad, hAe, hx1⟩ := ReadsOf.at_ HR.out (j1 : Int) (by omega) (by have := HJ1.out; omega)
  have HAE := Aside0.mk hAe
  clear hAe
  rw [Int.toNat_natCast] at hx1
  have hrd1 : rdOf (0 : Int) l (j1 : Int) = b1 := by have := HB1.out; simp only [rdOf, Int.toNat_natCast]; exact this
  rw [hrd1] at hx1
  have HX1 := Aside0.mk hx1
  have hi0 : (0 : Int) ≤ (j1 : Int) := by omega
  have hi1 : (j1 : Int) < (L : Int) := by have := HJ1.out; omega
  have hne : ((j1 : Int) == (L : Int)) = false := beq_eq_false_iff_ne.2 (by omega)
  have hne2 : (j1 == L) = false := beq_eq_false_iff_ne.2 (by omega)
  replace hx1 := pw_cell_below HB.out HX1.out
  clear hrd1
  obtain rfl := HAE.out
  clear HAE
  have h13 : (b1 == 13) = false := beq_eq_false_iff_ne.2 HE.out
  clear hRN
  go_enter Try.func26, Try.ntmps26
  go_wp2_with (first
    | (go_at_call 24; (with_reducible refine (brk_calls HB HR HL HC HBK HOK.out.1 HOK.out.2).mono ?_); rintro e w3 ⟨rfl, hd⟩; have HRN2 := Aside0.mk (rn_belowE HRN.out hd.below); have HB2 := Aside0.mk (below_step HB.out hd.below); clear hd HRN HB hx1; have HRN := HRN2; have HB := HB2; have hx1 := pw_cell_below HB.out HX1.out; clear HRN2 HB2)
    | (go_at_call 39; (with_reducible refine (winkleref11_Digit.calls 3 b1 (-1) _ HD1.out).mono ?_); rintro e w4 ⟨rfl, hd⟩; have HRN2 := Aside0.mk (rn_belowE HRN.out hd.below); have HB2 := Aside0.mk (below_step HB.out hd.below); clear hd HRN HB; have HRN := HRN2; have HB := HB2; clear HRN2 HB2)
    | (go_at_call 38; (with_reducible refine (rn_stop 22 (j1 : Int) HRN).mono ?_); rintro e w5 ⟨rfl, hs⟩; have HS := Aside0.mk hs; clear hs HRN HB))
  go_ret
  exact ⟨rfl, HS.out⟩

set_option maxHeartbeats 8000000 in
set_option maxRecDepth 100000 in
theorem es_cut {w W : World} {g : Nat} {A : Option Addr} {c L i j1 j2 : Nat} {l out times : List Int} {why at_ : Int} {b1 x : Int} (hRN : Aside0 (RN w W g out times why at_)) (HR : Aside0 (ReadsOf (Value.int .u8) (0 : Int) w A L l)) (HL : Aside0 (l.length = L)) (HC : Aside0 (L ≤ c)) (HJ : Aside0 (JF i j1 j2 L)) (HBK : Aside0 (brk (l.drop j1) = 0)) (HJ1 : Aside0 (j1 < L)) (HB1 : Aside0 (l.getD j1 0 = b1)) (HE : Aside0 (b1 ≠ 13)) (HD1 : Aside0 (winkleref11_Digit.f 3 b1 = some x)) (HXR : Aside0 (0 ≤ x ∧ x ≤ 15)) (HE2 : Aside0 (j2 = L)) :
    Calls Try.prog 26 #[.pointer (some ⟨g, 0, none⟩), .slice A L c, .int .i64 (i : Int)] W fun e W' => e = .returned (.int .i64 0) ∧ RN w W' g out times 1 (L : Int) := by
  have HRN := hRN
  have HB := Aside0.mk (rn_base hRN.out)
  have hj1 : (i : Int) + 1 = (j1 : Int) := HJ.out.1
  have hj2 : (i : Int) + 2 = (j2 : Int) := HJ.out.2.1
  have hw1 : wrap64 (j1 : Int) = (j1 : Int) := HJ.out.2.2.1
  have hw2 : wrap64 (j2 : Int) = (j2 : Int) := HJ.out.2.2.2.1
  have HOK := Aside0.mk (show LenOk L ∧ j1 ≤ L from HJ.out.2.2.2.2)
  obtain ⟨ad, hAe, hx1⟩ := ReadsOf.at_ HR.out (j1 : Int) (by omega) (by have := HJ1.out; omega)
  have HAE := Aside0.mk hAe
  clear hAe
  rw [Int.toNat_natCast] at hx1
  have hrd1 : rdOf (0 : Int) l (j1 : Int) = b1 := by have := HB1.out; simp only [rdOf, Int.toNat_natCast]; exact this
  rw [hrd1] at hx1
  have HX1 := Aside0.mk hx1
  have hi0 : (0 : Int) ≤ (j1 : Int) := by omega
  have hi1 : (j1 : Int) < (L : Int) := by have := HJ1.out; omega
  have hne : ((j1 : Int) == (L : Int)) = false := beq_eq_false_iff_ne.2 (by omega)
  have hne2 : (j1 == L) = false := beq_eq_false_iff_ne.2 (by omega)
  replace hx1 := pw_cell_below HB.out HX1.out
  clear hrd1
  obtain rfl := HAE.out
  clear HAE
  have h13 : (b1 == 13) = false := beq_eq_false_iff_ne.2 HE.out
  have hx0 : decide (x < 0) = false := decide_eq_false (by have := HXR.out; omega)
  have heq : ((j2 : Int) == (L : Int)) = true := beq_iff_eq.2 (by have := HE2.out; omega)
  have heq2 : (j2 == L) = true := beq_iff_eq.2 HE2.out
  clear hRN
  go_enter Try.func26, Try.ntmps26
  go_wp2_with (first
    | (go_at_call 24; (with_reducible refine (brk_calls HB HR HL HC HBK HOK.out.1 HOK.out.2).mono ?_); rintro e w3 ⟨rfl, hd⟩; have HRN2 := Aside0.mk (rn_belowE HRN.out hd.below); have HB2 := Aside0.mk (below_step HB.out hd.below); clear hd HRN HB hx1; have HRN := HRN2; have HB := HB2; have hx1 := pw_cell_below HB.out HX1.out; clear HRN2 HB2)
    | (go_at_call 39; (with_reducible refine (winkleref11_Digit.calls 3 b1 x _ HD1.out).mono ?_); rintro e w4 ⟨rfl, hd⟩; have HRN2 := Aside0.mk (rn_belowE HRN.out hd.below); have HB2 := Aside0.mk (below_step HB.out hd.below); clear hd HRN HB; have HRN := HRN2; have HB := HB2; clear HRN2 HB2)
    | (go_at_call 38; (with_reducible refine (rn_stop 1 (L : Int) HRN).mono ?_); rintro e w5 ⟨rfl, hs⟩; have HS := Aside0.mk hs; clear hs HRN HB))
  go_ret
  exact ⟨rfl, HS.out⟩

set_option maxHeartbeats 8000000 in
set_option maxRecDepth 100000 in
theorem es_bad2 {w W : World} {g : Nat} {A : Option Addr} {c L i j1 j2 : Nat} {l out times : List Int} {why at_ : Int} {b1 x b2 : Int} (hRN : Aside0 (RN w W g out times why at_)) (HR : Aside0 (ReadsOf (Value.int .u8) (0 : Int) w A L l)) (HL : Aside0 (l.length = L)) (HC : Aside0 (L ≤ c)) (HJ : Aside0 (JF i j1 j2 L)) (HBK : Aside0 (brk (l.drop j1) = 0)) (HJ1 : Aside0 (j1 < L)) (HB1 : Aside0 (l.getD j1 0 = b1)) (HE : Aside0 (b1 ≠ 13)) (HD1 : Aside0 (winkleref11_Digit.f 3 b1 = some x)) (HXR : Aside0 (0 ≤ x ∧ x ≤ 15)) (HE2 : Aside0 (j2 < L)) (HB2_ : Aside0 (l.getD j2 0 = b2)) (HD2 : Aside0 (winkleref11_Digit.f 3 b2 = some (-1))) :
    Calls Try.prog 26 #[.pointer (some ⟨g, 0, none⟩), .slice A L c, .int .i64 (i : Int)] W fun e W' => e = .returned (.int .i64 0) ∧ RN w W' g out times 22 (j2 : Int) := by
  have HRN := hRN
  have HB := Aside0.mk (rn_base hRN.out)
  have hj1 : (i : Int) + 1 = (j1 : Int) := HJ.out.1
  have hj2 : (i : Int) + 2 = (j2 : Int) := HJ.out.2.1
  have hw1 : wrap64 (j1 : Int) = (j1 : Int) := HJ.out.2.2.1
  have hw2 : wrap64 (j2 : Int) = (j2 : Int) := HJ.out.2.2.2.1
  have HOK := Aside0.mk (show LenOk L ∧ j1 ≤ L from HJ.out.2.2.2.2)
  obtain ⟨ad, hAe, hx1⟩ := ReadsOf.at_ HR.out (j1 : Int) (by omega) (by have := HJ1.out; omega)
  have HAE := Aside0.mk hAe
  clear hAe
  rw [Int.toNat_natCast] at hx1
  have hrd1 : rdOf (0 : Int) l (j1 : Int) = b1 := by have := HB1.out; simp only [rdOf, Int.toNat_natCast]; exact this
  rw [hrd1] at hx1
  have HX1 := Aside0.mk hx1
  have hi0 : (0 : Int) ≤ (j1 : Int) := by omega
  have hi1 : (j1 : Int) < (L : Int) := by have := HJ1.out; omega
  have hne : ((j1 : Int) == (L : Int)) = false := beq_eq_false_iff_ne.2 (by omega)
  have hne2 : (j1 == L) = false := beq_eq_false_iff_ne.2 (by omega)
  replace hx1 := pw_cell_below HB.out HX1.out
  clear hrd1
  obtain rfl := HAE.out
  clear HAE
  have h13 : (b1 == 13) = false := beq_eq_false_iff_ne.2 HE.out
  have hx0 : decide (x < 0) = false := decide_eq_false (by have := HXR.out; omega)
  have HJ2 := Aside0.mk (show j2 < L from HE2.out)
  obtain ⟨ad2, hAe2, hx2⟩ := ReadsOf.at_ HR.out (j2 : Int) (by omega) (by have := HJ2.out; omega)
  cases hAe2
  rw [Int.toNat_natCast] at hx2
  have hrd2 : rdOf (0 : Int) l (j2 : Int) = b2 := by have := HB2_.out; simp only [rdOf, Int.toNat_natCast]; exact this
  rw [hrd2] at hx2
  have HX2 := Aside0.mk hx2
  have hk0 : (0 : Int) ≤ (j2 : Int) := by omega
  have hk1 : (j2 : Int) < (L : Int) := by have := HJ2.out; omega
  have heq : ((j2 : Int) == (L : Int)) = false := beq_eq_false_iff_ne.2 (by have := HJ2.out; omega)
  have heq2 : (j2 == L) = false := beq_eq_false_iff_ne.2 (by have := HJ2.out; omega)
  replace hx2 := pw_cell_below HB.out HX2.out
  clear hrd2
  clear hRN
  go_enter Try.func26, Try.ntmps26
  go_wp2_with (first
    | (go_at_call 24; (with_reducible refine (brk_calls HB HR HL HC HBK HOK.out.1 HOK.out.2).mono ?_); rintro e w3 ⟨rfl, hd⟩; have HRN2 := Aside0.mk (rn_belowE HRN.out hd.below); have HB2 := Aside0.mk (below_step HB.out hd.below); clear hd HRN HB hx1 hx2; have HRN := HRN2; have HB := HB2; have hx1 := pw_cell_below HB.out HX1.out; clear HRN2 HB2)
    | (go_at_call 39; (with_reducible refine (winkleref11_Digit.calls 3 b1 x _ HD1.out).mono ?_); rintro e w4 ⟨rfl, hd⟩; have HRN2 := Aside0.mk (rn_belowE HRN.out hd.below); have HB2 := Aside0.mk (below_step HB.out hd.below); clear hd HRN HB hx1 HD1; have HRN := HRN2; have HB := HB2; have hx2 := pw_cell_below HB.out HX2.out; clear HRN2 HB2)
    | (go_at_call 39; (with_reducible refine (winkleref11_Digit.calls 3 b2 (-1) _ HD2.out).mono ?_); rintro e w4 ⟨rfl, hd⟩; have HRN2 := Aside0.mk (rn_belowE HRN.out hd.below); have HB2 := Aside0.mk (below_step HB.out hd.below); clear hd HRN HB; have HRN := HRN2; have HB := HB2; clear HRN2 HB2)
    | (go_at_call 38; (with_reducible refine (rn_stop 22 (j2 : Int) HRN).mono ?_); rintro e w5 ⟨rfl, hs⟩; have HS := Aside0.mk hs; clear hs HRN HB))
  go_ret
  exact ⟨rfl, HS.out⟩

set_option maxHeartbeats 8000000 in
set_option maxRecDepth 100000 in
theorem es_say {w W : World} {g : Nat} {A : Option Addr} {c L i j1 j2 : Nat} {l out times : List Int} {why at_ : Int} {b1 x b2 y : Int} (hRN : Aside0 (RN w W g out times why at_)) (HR : Aside0 (ReadsOf (Value.int .u8) (0 : Int) w A L l)) (HL : Aside0 (l.length = L)) (HC : Aside0 (L ≤ c)) (HJ : Aside0 (JF i j1 j2 L)) (HBK : Aside0 (brk (l.drop j1) = 0)) (HJ1 : Aside0 (j1 < L)) (HB1 : Aside0 (l.getD j1 0 = b1)) (HE : Aside0 (b1 ≠ 13)) (HD1 : Aside0 (winkleref11_Digit.f 3 b1 = some x)) (HXR : Aside0 (0 ≤ x ∧ x ≤ 15)) (HE2 : Aside0 (j2 < L)) (HB2_ : Aside0 (l.getD j2 0 = b2)) (HD2 : Aside0 (winkleref11_Digit.f 3 b2 = some y)) (HYR : Aside0 (0 ≤ y ∧ y ≤ 15)) (HLN : Aside0 (out.length + 1 ≤ 1048576 * 1048576 ∧ times.length + 1 ≤ 1048576 * 1048576)) :
    Calls Try.prog 26 #[.pointer (some ⟨g, 0, none⟩), .slice A L c, .int .i64 (i : Int)] W fun e W' => e = .returned (.int .i64 3) ∧ RN w W' g (out ++ [16 * x + y]) (times ++ [(j2 : Int)]) why at_ := by
  have HRN := hRN
  have HB := Aside0.mk (rn_base hRN.out)
  have hj1 : (i : Int) + 1 = (j1 : Int) := HJ.out.1
  have hj2 : (i : Int) + 2 = (j2 : Int) := HJ.out.2.1
  have hw1 : wrap64 (j1 : Int) = (j1 : Int) := HJ.out.2.2.1
  have hw2 : wrap64 (j2 : Int) = (j2 : Int) := HJ.out.2.2.2.1
  have HOK := Aside0.mk (show LenOk L ∧ j1 ≤ L from HJ.out.2.2.2.2)
  obtain ⟨ad, hAe, hx1⟩ := ReadsOf.at_ HR.out (j1 : Int) (by omega) (by have := HJ1.out; omega)
  have HAE := Aside0.mk hAe
  clear hAe
  rw [Int.toNat_natCast] at hx1
  have hrd1 : rdOf (0 : Int) l (j1 : Int) = b1 := by have := HB1.out; simp only [rdOf, Int.toNat_natCast]; exact this
  rw [hrd1] at hx1
  have HX1 := Aside0.mk hx1
  have hi0 : (0 : Int) ≤ (j1 : Int) := by omega
  have hi1 : (j1 : Int) < (L : Int) := by have := HJ1.out; omega
  have hne : ((j1 : Int) == (L : Int)) = false := beq_eq_false_iff_ne.2 (by omega)
  have hne2 : (j1 == L) = false := beq_eq_false_iff_ne.2 (by omega)
  replace hx1 := pw_cell_below HB.out HX1.out
  clear hrd1
  obtain rfl := HAE.out
  clear HAE
  have h13 : (b1 == 13) = false := beq_eq_false_iff_ne.2 HE.out
  have hx0 : decide (x < 0) = false := decide_eq_false (by have := HXR.out; omega)
  have HJ2 := Aside0.mk (show j2 < L from HE2.out)
  obtain ⟨ad2, hAe2, hx2⟩ := ReadsOf.at_ HR.out (j2 : Int) (by omega) (by have := HJ2.out; omega)
  cases hAe2
  rw [Int.toNat_natCast] at hx2
  have hrd2 : rdOf (0 : Int) l (j2 : Int) = b2 := by have := HB2_.out; simp only [rdOf, Int.toNat_natCast]; exact this
  rw [hrd2] at hx2
  have HX2 := Aside0.mk hx2
  have hk0 : (0 : Int) ≤ (j2 : Int) := by omega
  have hk1 : (j2 : Int) < (L : Int) := by have := HJ2.out; omega
  have heq : ((j2 : Int) == (L : Int)) = false := beq_eq_false_iff_ne.2 (by have := HJ2.out; omega)
  have heq2 : (j2 == L) = false := beq_eq_false_iff_ne.2 (by have := HJ2.out; omega)
  replace hx2 := pw_cell_below HB.out HX2.out
  clear hrd2
  have hy0 : decide (y < 0) = false := decide_eq_false (by have := HYR.out; omega)
  have hm1 : wrap64 (16 * x) = 16 * x := es_w1 HXR.out
  have hm2 : wrap64 (16 * x + y) = 16 * x + y := es_w2 HXR.out HYR.out
  have hm3 : IntKind.u8.wrap (16 * x + y) = 16 * x + y := es_w3 HXR.out HYR.out
  have hm4 : (16 * x + y) % 256 = 16 * x + y := es_w4 HXR.out HYR.out
  clear hRN
  go_enter Try.func26, Try.ntmps26
  go_wp2_with (first
    | (go_at_call 24; (with_reducible refine (brk_calls HB HR HL HC HBK HOK.out.1 HOK.out.2).mono ?_); rintro e w3 ⟨rfl, hd⟩; have HRN2 := Aside0.mk (rn_belowE HRN.out hd.below); have HB2 := Aside0.mk (below_step HB.out hd.below); clear hd HRN HB hx1 hx2; have HRN := HRN2; have HB := HB2; have hx1 := pw_cell_below HB.out HX1.out; clear HRN2 HB2)
    | (go_at_call 39; (with_reducible refine (winkleref11_Digit.calls 3 b1 x _ HD1.out).mono ?_); rintro e w4 ⟨rfl, hd⟩; have HRN2 := Aside0.mk (rn_belowE HRN.out hd.below); have HB2 := Aside0.mk (below_step HB.out hd.below); clear hd HRN HB hx1 HD1; have HRN := HRN2; have HB := HB2; have hx2 := pw_cell_below HB.out HX2.out; clear HRN2 HB2)
    | (go_at_call 39; (with_reducible refine (winkleref11_Digit.calls 3 b2 y _ HD2.out).mono ?_); rintro e w4 ⟨rfl, hd⟩; have HRN2 := Aside0.mk (rn_belowE HRN.out hd.below); have HB2 := Aside0.mk (below_step HB.out hd.below); clear hd HRN HB; have HRN := HRN2; have HB := HB2; clear HRN2 HB2)
    | (go_at_call 25; (with_reducible refine (rn_say (16 * x + y) (j2 : Int) HRN HLN).mono ?_); rintro e w5 ⟨rfl, hs⟩; have HS := Aside0.mk hs; clear hs HRN HB))
  go_ret
  exact ⟨rfl, HS.out⟩
end Go.Proofs.Ytemdlahghbbkoaa.PAll
