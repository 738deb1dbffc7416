/- QuotedSteps' walk: bytes that are put in one at a time tell each byte with the one that the document says. -/
import Derived.Test.YtemdlahghbbkoaaStepsM
import Derived.Test.YtemdlahghbbkoaaQlib
namespace Go.Proofs.Ytemdlahghbbkoaa.PAll
open Go.RowKit Go.Proofs.Ytemdlahghbbkoaa.Pure Go.Proofs.Ytemdlahghbbkoaa.Qth Go.Proofs.YtemdlahghbbkoaaW.PrintWords Go.Proofs.YtemdlahghbbkoaaW.PrintLast Go.Proofs.YtemdlahghbbkoaaW.PrintMore
attribute [local go_sem] max2_int min2_int max_two min_two max_three min_three max_four min_four   -- for this text's walks alone
set_option linter.unusedVariables false
set_option linter.unusedSimpArgs false
theorem sf_move {w W W' : World} {g gr : Nat} {y a : Int} {O T : List Int} {v0 v1 : Value} (h : Aside0 (SF w W g gr v0 v1 O T y a)) (hb : Below W.heap.size W W') : SF w W' g gr v0 v1 O T y a := by
  obtain ⟨st, hi, en, q, k, hT, hen⟩ := h.out
  exact ⟨st, hi, en, q, k, tb_step ⟨hT⟩ (dq_below hT.1.1 hb) (DK.below hb), hen⟩
theorem sf_awake {w W : World} {g gr : Nat} {y a : Int} {O T : List Int} {v0 v1 : Value} (h : Aside0 (SF w W g gr v0 v1 O T y a)) (hA : Aside0 (winklelaw11_awake.f = some true)) : Calls Try.prog 13 #[] W fun e W' => e = .returned (.bool true) ∧ SF w W' g gr v0 v1 O T y a :=
  (winklelaw11_awake.calls true W hA.out).mono fun e W' ⟨he, hb⟩ => ⟨he, sf_move h hb⟩
theorem sf_drew {w W : World} {g gr : Nat} {y a : Int} {O T : List Int} {v0 v1 : Value} (h : Aside0 (SF w W g gr v0 v1 O T y a)) : Aside0 (SF w W.drew g gr v0 v1 O T y a) := ⟨sf_move h (below_drew (Below.refl _ _))⟩
theorem sf_cells {w W : World} {g gr : Nat} {y a : Int} {O T : List Int} {v0 v1 : Value} (h : Aside0 (SF w W g gr v0 v1 O T y a)) : W.cell? ⟨gr, 0, none⟩ = some v0 ∧ W.cell? ⟨gr, 2, none⟩ = some (.int .i64 y) := ⟨(blk_cell (sf_box h) 0).trans rfl, (blk_cell (sf_box h) 2).trans rfl⟩
theorem box_cells {W : World} {gr : Nat} {v0 v1 v2 v3 : Value} (h : W.heap[gr]? = some (.cells #[v0, v1, v2, v3] 28 (0, 0))) : W.cell? ⟨gr, 0, none⟩ = some v0 ∧ W.cell? ⟨gr, 1, none⟩ = some v1 ∧ W.cell? ⟨gr, 2, none⟩ = some v2 ∧ W.cell? ⟨gr, 3, none⟩ = some v3 :=
  ⟨(blk_cell h 0).trans rfl, (blk_cell h 1).trans rfl, (blk_cell h 2).trans rfl, (blk_cell h 3).trans rfl⟩
set_option maxHeartbeats 8000000 in
set_option maxRecDepth 100000 in
theorem steps_walk (A : Option Addr) (c : Nat) (l : List Int) (A1 : Option Addr) (c1 : Nat) (m : List Int) (w : World) (hR : Aside0 (Kd.C (Kd.int .u8) w A l.length l)) (hc : Aside0 (l.length ≤ c)) (hl : Aside0 (l.length ≤ 1048576)) (hb : Aside0 (Byt l))
    (hR1 : Aside0 (Kd.C (Kd.int .u8) w A1 m.length m)) (hm : Aside0 (m.length ≤ 1048576)) (hb1 : Aside0 (Byt m)) :
    Calls Try.prog 8 #[.slice A l.length c, .slice A1 m.length c1] w fun e w' => e = .returned (.bool true) ∧ Below w.heap.size w w' := by
  have HAW := Aside0.mk awake_f
  have HBB := Aside0.mk (Below.refl w.heap.size w)
  obtain ⟨O, T, y, a, hof⟩ : ∃ O T y a, ofA l = (O, T, y, a) := ⟨_, _, _, _, rfl⟩
  have HO := Aside0.mk hof
  have HOL := Aside0.mk (show O.length ≤ 1048576 by have := ofA_len l; rw [hof] at this; have := hl.out; simp only at *; omega)
  have HL := hl
  have HM := hm
  clear hof hl hm
  have hln : l.length ≤ 9223372036854775806 := by have := HL.out; omega
  have hlm : m.length ≤ 9223372036854775806 := by have := HM.out; omega
  go_enter Try.func8, Try.ntmps8
  go_wp2_with (go_at_call 16; (with_reducible refine (da_new HBB).mono ?_); rintro e w1 ⟨rfl, hs⟩; have HD := Aside0.mk hs; clear hs)
  go_loopg [6] (m.length + 1) (fun kq v6 w' => ∃ i : Nat, v6 = .int .i64 (i : Int) ∧ i ≤ m.length ∧ i + kq = m.length + 1 ∧ Aside0 (DA w w' w.heap.size))
  case atStart => exact ⟨0, rfl, by omega, by omega, HD⟩
  case round =>
    clear HD
    obtain ⟨i, rfl, hil, hik, HD⟩ := hrel
    cases gk with
    | zero => exact absurd hik (by omega)
    | succ k1 =>
    by_cases hlt : i < m.length
    · have hib : decide ((i : Int) < (m.length : Int)) = true := decide_eq_true (by omega)
      have hib2 : decide (i < m.length) = true := decide_eq_true hlt
      obtain ⟨ad, rfl, hx⟩ := Kd.at_int (Kd.C_below hR1.out HD.out.2.1) (i : Int) (by omega) (by omega)
      rw [Int.toNat_natCast, rd_get] at hx
      have hbb : 0 ≤ m.getD i 0 ∧ m.getD i 0 ≤ 255 := hb1.out _ (by simp [List.getD_eq_getElem?_getD, List.getElem?_eq_getElem hlt])
      obtain ⟨b, hbe⟩ : ∃ b, m.getD i 0 = b := ⟨_, rfl⟩
      rw [hbe] at hx hbb
      have HBY := Aside0.mk hbb
      have hi0 : (0 : Int) ≤ (i : Int) := by omega
      have hi1 : (i : Int) < (m.length : Int) := by omega
      clear hbe hbb
      go_wp2_with (go_at_call 17; (with_reducible refine (da_put b HBY.out HD).mono ?_); rintro e w2 ⟨xx, rfl, hs⟩; have HD2 := Aside0.mk hs; clear hs HD hx)
      go_roundg k1
      case measure => omega
      case rel => exact ⟨i + 1, by go_num, by omega, by omega, HD2⟩
    · obtain rfl : i = m.length := by omega
      have hib : decide ((m.length : Int) < (m.length : Int)) = false := decide_eq_false (by omega)
      have hib2 : decide (m.length < m.length) = false := decide_eq_false (by omega)
      clear hlt hik hil
      go_wp2_with (first
        | (go_at_call 18; (with_reducible refine (da_reset HD).mono ?_); rintro e w2 ⟨rfl, hs⟩; have HZ := Aside0.mk hs; clear hs HD)
        | (go_at_call 11; (with_reducible refine (tz_of HZ hR hc HL HO).mono ?_); rintro e w3 ⟨AO, cO, AT, cT, rfl, hs⟩; have HTZ := Aside0.mk hs; clear hs HZ))
      have HSQ : Aside0 (SQ l w _ _ _ _ _ O T y a 0 0) := ⟨sq_start ⟨tz_box HTZ y a⟩⟩
      clear HTZ
      generalize w3.alloc _ = W4 at *
      generalize w3.heap.size = gr at *
      go_loopg [8, 9, 10, 11] (l.length + 1) (fun kq v8 v9 v10 v11 w' => ∃ (i told : Nat), v10 = .int .i64 (i : Int) ∧ v8 = .int .i64 (told : Int) ∧ v9 = .bool true ∧ i ≤ l.length ∧ i + kq = l.length + 1 ∧ Aside0 (SQ l w w' w.heap.size gr (.slice AO O.length cO) (.slice AT T.length cT) O T y a i told))
      case atStart => exact ⟨0, 0, rfl, rfl, rfl, by omega, by omega, HSQ⟩
      case round =>
        clear HSQ
        obtain ⟨i, told, rfl, rfl, rfl, hil, hik, HSQ⟩ := hrel
        cases gk with
        | zero => exact absurd hik (by omega)
        | succ k1 =>
        by_cases hlt : i < l.length
        · have hib : decide ((i : Int) < (l.length : Int)) = true := decide_eq_true (by omega)
          have hib2 : decide (i < l.length) = true := decide_eq_true hlt
          obtain ⟨ad, rfl, hx⟩ := Kd.at_int (Kd.C_below hR.out (sq_below HSQ.out)) (i : Int) (by omega) (by omega)
          rw [Int.toNat_natCast, rd_get] at hx
          have hbb : 0 ≤ l.getD i 0 ∧ l.getD i 0 ≤ 255 := hb.out _ (by simp [List.getD_eq_getElem?_getD, List.getElem?_eq_getElem hlt])
          obtain ⟨b, hbe⟩ : ∃ b, l.getD i 0 = b := ⟨_, rfl⟩
          rw [hbe] at hx hbb
          have HBY : Aside0 ((0 ≤ b ∧ b ≤ 255) ∧ l.getD i 0 = b) := ⟨hbb, hbe⟩
          have HIL := Aside0.mk hlt
          have hi0 : (0 : Int) ≤ (i : Int) := by omega
          have hi1 : (i : Int) < (l.length : Int) := by omega
          clear hbe hbb
          by_cases hyy : y = 22
          · rcases Int.lt_trichotomy a (i : Int) with haa | haa | haa
            · have hy1 : (y == 22) = true := beq_iff_eq.2 hyy; have ha1 : decide (a < (i : Int)) = true := decide_eq_true haa; have ha2 : decide (a ≤ (i : Int)) = true := decide_eq_true (by omega)
              have HS1 : Aside0 (true = decide (y = 22 ∧ a < (i : Int))) := ⟨by rw [eq_comm]; first | exact decide_eq_true (by omega) | exact decide_eq_false (by omega)⟩
              have HS2 : Aside0 (true = decide (y = 22 ∧ a ≤ (i : Int))) := ⟨by rw [eq_comm]; first | exact decide_eq_true (by omega) | exact decide_eq_false (by omega)⟩
              clear hyy haa
              obtain ⟨hx0, hx1, hx2, hx3⟩ := box_cells (sq_box HSQ)
              go_wp2_with (first
                | (go_at_call 17; (with_reducible refine (sq_put HO HIL b HBY true HS1 HSQ).mono ?_); rintro e w2 ⟨rfl, hs⟩; have HSM := Aside0.mk hs; clear hs HSQ hx hx0 hx1 hx2 hx3; obtain ⟨hx0, hx1, hx2, hx3⟩ := box_cells (sm_box HSM))
                | (go_at_call 19; (with_reducible refine (sq_tells HO HL HSM).mono ?_); rintro r w3 ⟨n2, rfl, hs⟩; have HSQ2 := Aside0.mk hs; clear hs HSM hx0 hx1 hx2 hx3; obtain ⟨hx0, hx1, hx2, hx3⟩ := box_cells (sq_box HSQ2))
                | (go_at_call 20; (with_reducible refine (sq_reason HO true HS2 HSQ2).mono ?_); rintro r w4 ⟨x, rfl, hxx, hs⟩; have HSQ3 := Aside0.mk hs; clear hs HSQ2 hx0 hx1 hx2 hx3))
              go_roundg k1
              case measure => omega
              case rel => exact ⟨i + 1, n2, by go_num, rfl, rfl, by omega, by omega, HSQ3⟩
            · have hy1 : (y == 22) = true := beq_iff_eq.2 hyy; have ha1 : decide (a < (i : Int)) = false := decide_eq_false (by omega); have ha2 : decide (a ≤ (i : Int)) = true := decide_eq_true (by omega); have haa' := haa; clear haa'
              have HS1 : Aside0 (false = decide (y = 22 ∧ a < (i : Int))) := ⟨by rw [eq_comm]; first | exact decide_eq_true (by omega) | exact decide_eq_false (by omega)⟩
              have HS2 : Aside0 (true = decide (y = 22 ∧ a ≤ (i : Int))) := ⟨by rw [eq_comm]; first | exact decide_eq_true (by omega) | exact decide_eq_false (by omega)⟩
              clear hyy haa
              obtain ⟨hx0, hx1, hx2, hx3⟩ := box_cells (sq_box HSQ)
              go_wp2_with (first
                | (go_at_call 17; (with_reducible refine (sq_put HO HIL b HBY false HS1 HSQ).mono ?_); rintro e w2 ⟨rfl, hs⟩; have HSM := Aside0.mk hs; clear hs HSQ hx hx0 hx1 hx2 hx3; obtain ⟨hx0, hx1, hx2, hx3⟩ := box_cells (sm_box HSM))
                | (go_at_call 19; (with_reducible refine (sq_tells HO HL HSM).mono ?_); rintro r w3 ⟨n2, rfl, hs⟩; have HSQ2 := Aside0.mk hs; clear hs HSM hx0 hx1 hx2 hx3; obtain ⟨hx0, hx1, hx2, hx3⟩ := box_cells (sq_box HSQ2))
                | (go_at_call 20; (with_reducible refine (sq_reason HO true HS2 HSQ2).mono ?_); rintro r w4 ⟨x, rfl, hxx, hs⟩; have HSQ3 := Aside0.mk hs; clear hs HSQ2 hx0 hx1 hx2 hx3))
              go_roundg k1
              case measure => omega
              case rel => exact ⟨i + 1, n2, by go_num, rfl, rfl, by omega, by omega, HSQ3⟩
            · have hy1 : (y == 22) = true := beq_iff_eq.2 hyy; have ha1 : decide (a < (i : Int)) = false := decide_eq_false (by omega); have ha2 : decide (a ≤ (i : Int)) = false := decide_eq_false (by omega); have haa' := haa; clear haa'
              have HS1 : Aside0 (false = decide (y = 22 ∧ a < (i : Int))) := ⟨by rw [eq_comm]; first | exact decide_eq_true (by omega) | exact decide_eq_false (by omega)⟩
              have HS2 : Aside0 (false = decide (y = 22 ∧ a ≤ (i : Int))) := ⟨by rw [eq_comm]; first | exact decide_eq_true (by omega) | exact decide_eq_false (by omega)⟩
              clear hyy haa
              obtain ⟨hx0, hx1, hx2, hx3⟩ := box_cells (sq_box HSQ)
              go_wp2_with (first
                | (go_at_call 17; (with_reducible refine (sq_put HO HIL b HBY false HS1 HSQ).mono ?_); rintro e w2 ⟨rfl, hs⟩; have HSM := Aside0.mk hs; clear hs HSQ hx hx0 hx1 hx2 hx3; obtain ⟨hx0, hx1, hx2, hx3⟩ := box_cells (sm_box HSM))
                | (go_at_call 19; (with_reducible refine (sq_tells HO HL HSM).mono ?_); rintro r w3 ⟨n2, rfl, hs⟩; have HSQ2 := Aside0.mk hs; clear hs HSM hx0 hx1 hx2 hx3; obtain ⟨hx0, hx1, hx2, hx3⟩ := box_cells (sq_box HSQ2))
                | (go_at_call 20; (with_reducible refine (sq_reason HO false HS2 HSQ2).mono ?_); rintro r w4 ⟨x, rfl, hxx, hs⟩; have HSQ3 := Aside0.mk hs; clear hs HSQ2 hx0 hx1 hx2 hx3))
              go_roundg k1
              case measure => omega
              case rel => exact ⟨i + 1, n2, by go_num, rfl, rfl, by omega, by omega, HSQ3⟩
          · have hy1 : (y == 22) = false := beq_eq_false_iff_ne.2 hyy
            have HS1 : Aside0 (false = decide (y = 22 ∧ a < (i : Int))) := ⟨by rw [eq_comm]; first | exact decide_eq_true (by omega) | exact decide_eq_false (by omega)⟩
            have HS2 : Aside0 (false = decide (y = 22 ∧ a ≤ (i : Int))) := ⟨by rw [eq_comm]; first | exact decide_eq_true (by omega) | exact decide_eq_false (by omega)⟩
            clear hyy 
            obtain ⟨hx0, hx1, hx2, hx3⟩ := box_cells (sq_box HSQ)
            go_wp2_with (first
              | (go_at_call 17; (with_reducible refine (sq_put HO HIL b HBY false HS1 HSQ).mono ?_); rintro e w2 ⟨rfl, hs⟩; have HSM := Aside0.mk hs; clear hs HSQ hx hx0 hx1 hx2 hx3; obtain ⟨hx0, hx1, hx2, hx3⟩ := box_cells (sm_box HSM))
              | (go_at_call 19; (with_reducible refine (sq_tells HO HL HSM).mono ?_); rintro r w3 ⟨n2, rfl, hs⟩; have HSQ2 := Aside0.mk hs; clear hs HSM hx0 hx1 hx2 hx3; obtain ⟨hx0, hx1, hx2, hx3⟩ := box_cells (sq_box HSQ2))
              | (go_at_call 20; (with_reducible refine (sq_reason HO false HS2 HSQ2).mono ?_); rintro r w4 ⟨x, rfl, hxx, hs⟩; have HSQ3 := Aside0.mk hs; clear hs HSQ2 hx0 hx1 hx2 hx3))
            go_roundg k1
            case measure => omega
            case rel => exact ⟨i + 1, n2, by go_num, rfl, rfl, by omega, by omega, HSQ3⟩

        · obtain rfl : i = l.length := by omega
          have hib : decide ((l.length : Int) < (l.length : Int)) = false := decide_eq_false (by omega)
          have hib2 : decide (l.length < l.length) = false := decide_eq_false (by omega)
          have hol : O.length ≤ 9223372036854775806 := by have := HOL.out; omega
          clear hlt hik hil
          go_wp2_with (first
            | (go_at_call 21; (with_reducible refine (sq_end HO HSQ).mono ?_); rintro e w2 ⟨rfl, hs⟩; have HSE := Aside0.mk hs; clear hs HSQ; obtain ⟨hx0, hx1, hx2, hx3⟩ := box_cells (se_box HSE))
            | (go_at_call 19; (with_reducible refine (se_tells HOL HSE).mono ?_); rintro r w3 ⟨rfl, hs⟩; have HSF := Aside0.mk hs; clear hs HSE hx0 hx1 hx2 hx3; obtain ⟨hx0, hx1, hx2, hx3⟩ := box_cells (sf_box HSF)))
          clear hx0 hx1 hx2 hx3
          go_region_held3 (fun W' => W'.cell? ⟨gr, 0, none⟩ = some (.slice AO O.length cO) ∧ W'.cell? ⟨gr, 2, none⟩ = some (.int .i64 y)) (first | exact sf_cells HSF | exact sf_cells (sf_drew HSF))
            (first
              | (go_at_call 20; (with_reducible refine (sf_reason (sf_drew HSF)).mono ?_); rintro r w4 ⟨rfl, hs⟩; have ht_ := Aside0.mk hs; clear hs HSF; have HSF := ht_; clear ht_)
              | (go_at_call 17; (with_reducible refine (sf_put 97 HSF).mono ?_); rintro r w5 ⟨rfl, hs⟩; have ht_ := Aside0.mk hs; clear hs HSF; have HSF := ht_; clear ht_)
              | (go_at_call 13; (with_reducible refine (sf_awake HSF HAW).mono ?_); rintro r w6 ⟨rfl, hs⟩; have ht_ := Aside0.mk hs; clear hs HSF; have HSF := ht_; clear ht_))
          go_wp2
          go_ret
          exact ⟨rfl, sf_below HSF.out⟩
theorem steps_row (a0 : Option Addr) (len0 cap0 : Nat) (z0 : List Int) (a1 : Option Addr) (len1 cap1 : Nat) (z1 : List Int) (w : World)
    (w0 : (a0 = none ∧ len0 = 0 ∧ cap0 = 0 ∧ z0 = []) ∨ ∃ x, a0 = some x ∧ len0 ≤ cap0 ∧ cap0 ≤ maxLen ∧ z0.length = cap0 ∧ (∀ i, i < z0.length → w.cell? (x.add i) = some (.int .u8 (z0.getD i 0))) ∧ ∀ n ∈ z0, (Lit.int .u8 n).wf = true) (y0 : len0 ≤ 1048576)
    (w1 : (a1 = none ∧ len1 = 0 ∧ cap1 = 0 ∧ z1 = []) ∨ ∃ x, a1 = some x ∧ len1 ≤ cap1 ∧ cap1 ≤ maxLen ∧ z1.length = cap1 ∧ (∀ i, i < z1.length → w.cell? (x.add i) = some (.int .u8 (z1.getD i 0))) ∧ ∀ n ∈ z1, (Lit.int .u8 n).wf = true) (y1 : len1 ≤ 1048576) :
    Calls Try.prog 8 #[.slice a0 len0 cap0, .slice a1 len1 cap1] w fun e w' => e = .returned (.bool true) ∧ Below w.heap.size w w' := by
  obtain ⟨l0, rfl, hr0, hm0, hw0, hc0⟩ := ReadsInt.ofRowC w0
  obtain ⟨l1, rfl, hr1, hm1, hw1, hc1⟩ := ReadsInt.ofRowC w1
  exact steps_walk a0 cap0 l0 a1 cap1 l1 w ⟨Kd.C_of_reads (d := (0 : Int)) (h1 := fun _ => rfl) hr0⟩ ⟨hc0⟩ ⟨y0⟩ ⟨byt_of hw0⟩ ⟨Kd.C_of_reads (d := (0 : Int)) (h1 := fun _ => rfl) hr1⟩ ⟨y1⟩ ⟨byt_of hw1⟩
end Go.Proofs.Ytemdlahghbbkoaa.PAll
