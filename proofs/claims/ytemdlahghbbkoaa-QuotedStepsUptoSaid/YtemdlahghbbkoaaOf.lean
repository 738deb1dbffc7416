/- The document's Of: what a text says. -/
import Derived.Test.YtemdlahghbbkoaaOfM
namespace Go.Proofs.Ytemdlahghbbkoaa.PAll
open Go.RowKit Go.Proofs.YtemdlahghbbkoaaW.PrintWords Go.Proofs.YtemdlahghbbkoaaW.PrintLast Go.Proofs.YtemdlahghbbkoaaW.PrintMore
attribute [local go_sem] max2_int min2_int max_two min_two max_three min_three max_four min_four   -- for this text's walks alone
set_option linter.unusedVariables false
set_option linter.unusedSimpArgs false
theorem rn_new (w : World) (a : Int) : RN w (w.alloc (.cells #[.slice none 0 0, .slice none 0 0, .int .i64 0, .int .i64 a] 28)) w.heap.size [] [] 0 a := by
  refine ⟨_, _, heap_alloc_new w _, Nat.le_refl _, own_nil _ _ _ _, own_nil _ _ _ _, below_alloc (Below.refl _ w) _⟩
theorem of_post1 {w W : World} {cs : Array Value} {v0 v1 : Value} {n0 n1 : Nat} {c0 c1 : List Value} (hB : W.heap[w.heap.size]? = some (.cells cs 28 (0, 0))) (h0 : W.ownsRow w.heap.size 5 1 v0 n0 c0) (h1 : W.ownsRow w.heap.size 3 1 v1 n1 c1) (hb : Below w.heap.size w W) (i : Nat) (x : Value) :
    (W.setCell ⟨w.heap.size, i, none⟩ x).ownsRow w.heap.size 5 1 v0 n0 c0 ∧ (W.setCell ⟨w.heap.size, i, none⟩ x).ownsRow w.heap.size 3 1 v1 n1 c1 ∧ Below w.heap.size w (W.setCell ⟨w.heap.size, i, none⟩ x) :=
  ⟨own_setCell h0 (own_ne h0 hB (by decide)) _, own_setCell h1 (own_ne h1 hB (by decide)) _, hb.setCell (Nat.le_refl _) _⟩
theorem of_post {w w1 W : World} {g : Nat} {y0 y1 y2 y3 v0 v1 : Value} {o t : List Int} {wy a : Int} (HB1 : Below w.heap.size w w1) (hs : w1.heap.size = w.heap.size + 1) (hv : RNv w1 W g v0 v1 o t wy a) (hB : W.heap[w.heap.size]? = some (.cells #[y0, y1, y2, y3] 28 (0, 0))) (x0 x1 x2 x3 : Value) (W' : World) (hW : W' = (((W.setCell ⟨w.heap.size, 0, none⟩ x0).setCell ⟨w.heap.size, 1, none⟩ x1).setCell ⟨w.heap.size, 2, none⟩ x2).setCell ⟨w.heap.size, 3, none⟩ x3) :
    W'.ownsRow w.heap.size 5 1 v0 o.length (encs (Value.int .u8) o) ∧ W'.ownsRow w.heap.size 3 1 v1 t.length (encs (Value.int .i64) t) ∧ Below w.heap.size w W' ∧ W'.heap[w.heap.size]? = some (.cells #[x0, x1, x2, x3] 28 (0, 0)) := by
  subst hW
  have hle : w.heap.size ≤ w1.heap.size := by omega
  have a0 := own_weaken hv.2.2.1 hle
  have a1 := own_weaken hv.2.2.2.1 hle
  have ab : Below w.heap.size w W := below_step HB1 hv.2.2.2.2
  obtain ⟨b0, b1, bb⟩ := of_post1 hB a0 a1 ab 0 x0
  have hB1 := blk_put hB 0 x0 rfl
  obtain ⟨d0, d1, db⟩ := of_post1 hB1 b0 b1 bb 1 x1
  have hB2 := blk_put hB1 1 x1 rfl
  obtain ⟨e0, e1, eb⟩ := of_post1 hB2 d0 d1 db 2 x2
  have hB3 := blk_put hB2 2 x2 rfl
  obtain ⟨f0, f1, fb⟩ := of_post1 hB3 e0 e1 eb 3 x3
  exact ⟨f0, f1, fb, blk_put hB3 3 x3 rfl⟩
theorem info28' : (Try.prog.info? 28).map (·.size) = some 4 := by kernel_rfl
/-- a run of blanks. -/
def blS (l : List Int) (L i : Nat) (o t : List Int) (wy a : Int) : Int × List Int × List Int × Int × Int :=
  (((nB (l.drop i) : Nat) : Int), o ++ blkO l (i + nB (l.drop i)) (blDrop l L (i + nB (l.drop i))) i (nB (l.drop i)), t ++ blkT l (i + nB (l.drop i)) (blDrop l L (i + nB (l.drop i))) ((blKnown l L (i + nB (l.drop i)) : Nat) : Int) i (nB (l.drop i)), wy, a)
/-- one round of the model. -/
theorem ofR_step {l : List Int} {L k i : Nat} {o t o2 t2 : List Int} {wy a n2 wy2 a2 : Int} {n : Nat} (h : i < L ∧ wy = 0) (hs : ofS l L i o t wy a = (n2, o2, t2, wy2, a2)) (hn : n2 = (n : Int)) : ofR l L (k + 1) i o t wy a = ofR l L k (i + n) o2 t2 wy2 a2 := by
  rw [ofR, if_pos h, hs, hn, Int.toNat_natCast]
theorem ofR_stop {l : List Int} {L k i : Nat} {o t : List Int} {wy a : Int} (h : ¬ (i < L ∧ wy = 0)) : ofR l L (k + 1) i o t wy a = (o, t, wy, a) := by
  rw [ofR, if_neg h]
/-- what holds from round to round. -/
def OfI (l : List Int) (L k i : Nat) (o t : List Int) (wy a : Int) (R : List Int × List Int × Int × Int) : Prop := ofR l L k i o t wy a = R ∧ i ≤ L ∧ o.length ≤ i ∧ t.length ≤ i ∧ 1 ≤ k ∧ (wy = 0 → L + 2 ≤ i + k)
theorem ofI_step {l : List Int} {L k i : Nat} {o t o2 t2 : List Int} {a n2 wy2 a2 : Int} {n : Nat} {R : List Int × List Int × Int × Int} (hl : l.length = L) (hI : OfI l L (k + 1) i o t 0 a R) (hi : i < L) (hs : ofS l L i o t 0 a = (n2, o2, t2, wy2, a2)) (hn : n2 = (n : Int)) : OfI l L k (i + n) o2 t2 wy2 a2 R := by
  obtain ⟨h1, h2, h3, h4, h5, h6⟩ := hI
  obtain ⟨m, hm, hm1, hm2, hm3, hm4⟩ := ofS_len l L i hl hi o t a
  rw [hs] at hm hm2 hm3 hm4
  simp only at hm hm2 hm3 hm4
  have hmn : m = n := by omega
  subst hmn
  refine ⟨by rw [← h1, ofR_step ⟨hi, rfl⟩ hs hn], hm1, by omega, by omega, by have := h6 rfl; omega, fun hw => by have := h6 rfl; have := hm4 hw; omega⟩
theorem rn_esc2 {w W : World} {g : Nat} {A : Option Addr} {c L i : Nat} {l out times : List Int} {why at_ : Int} {n2 wy2 a2 : Int} {o2 t2 : List Int} (HES : Aside0 (escS l L i out times why at_ = (n2, o2, t2, wy2, a2))) (hRN : Aside0 (RN w W g out times why at_)) (HR : Aside0 (ReadsOf (Value.int .u8) (0 : Int) w A L l)) (HL : Aside0 (l.length = L)) (HC : Aside0 (L ≤ c)) (hi : Aside0 (i < L)) (hL : Aside0 (LenOk L)) (HLN : Aside0 (out.length + 1 ≤ 1048576 * 1048576 ∧ times.length + 1 ≤ 1048576 * 1048576)) :
    Calls Try.prog 26 #[.pointer (some ⟨g, 0, none⟩), .slice A L c, .int .i64 (i : Int)] W fun e W' => e = .returned (.int .i64 n2) ∧ RN w W' g o2 t2 wy2 a2 := by
  have h := rn_escape hRN HR HL HC hi.out hL.out HLN
  rw [HES.out] at h
  exact h
theorem rn_bl2 {w W : World} {g : Nat} {A : Option Addr} {c L i : Nat} {l out times : List Int} {why at_ : Int} {n2 wy2 a2 : Int} {o2 t2 : List Int} (HES : Aside0 (blS l L i out times why at_ = (n2, o2, t2, wy2, a2))) (hRN : Aside0 (RN w W g out times why at_)) (HR : Aside0 (ReadsOf (Value.int .u8) (0 : Int) w A L l)) (HL : Aside0 (l.length = L)) (HC : Aside0 (L ≤ c)) (hi : Aside0 (i < L)) (hL : Aside0 (LenOk L)) (HLB : Aside0 (out.length ≤ i ∧ times.length ≤ i)) :
    Calls Try.prog 28 #[.pointer (some ⟨g, 0, none⟩), .slice A L c, .int .i64 (i : Int)] W fun e W' => e = .returned (.int .i64 n2) ∧ RN w W' g o2 t2 wy2 a2 := by
  have hn := nB_le (l.drop i)
  rw [List.length_drop, HL.out] at hn
  have h3 : L ≤ 1048576 * 1024 := hL.out
  have h4 := hi.out
  have h5 := HLB.out
  have h := rn_blanks hRN HR HL HC ⟨bl_f l L i HL.out (by omega) hL.out⟩ ⟨by omega⟩
  have h2 := HES.out
  clear HES
  unfold blS at h2
  cases h2
  exact h
set_option maxHeartbeats 8000000 in
set_option maxRecDepth 100000 in
theorem of_calls0 {w : World} {A : Option Addr} {c L : Nat} {l : List Int} (HR0 : Aside0 (ReadsOf (Value.int .u8) (0 : Int) w A L l)) (HL : Aside0 (l.length = L)) (HC : Aside0 (L ≤ c)) (hok : LenOk L) (R : List Int × List Int × Int × Int) (hR : ofA l = R) :
    Calls Try.prog 11 #[.slice A L c] w fun e W' => ∃ (v0 v1 : Value), e = .returned (.agg #[v0, v1, .int .i64 R.2.2.1, .int .i64 R.2.2.2]) ∧ W'.ownsRow w.heap.size 5 1 v0 R.1.length (encs (Value.int .u8) R.1) ∧ W'.ownsRow w.heap.size 3 1 v1 R.2.1.length (encs (Value.int .i64) R.2.1) ∧ Below w.heap.size w W' := by
  have HOK := Aside0.mk hok
  have HF : Aside0 (ofR l L (L + 2) 0 [] [] 0 (L : Int) = R) := ⟨by have := HL.out; subst this; exact hR⟩
  clear hok hR
  go_enter Try.func11, Try.ntmps11
  go_wp2
  have HR : Aside0 (ReadsOf (Value.int .u8) (0 : Int) (w.alloc (.cells #[.slice none 0 0, .slice none 0 0, .int .i64 0, .int .i64 0] 28)) A L l) := ⟨HR0.out.below (below_alloc (Below.refl _ w) _)⟩
  have HB0 := Aside0.mk (heap_alloc_new w (.cells #[.slice none 0 0, .slice none 0 0, .int .i64 0, .int .i64 0] 28))
  have HB1 := Aside0.mk (below_alloc (Below.refl w.heap.size w) (.cells #[.slice none 0 0, .slice none 0 0, .int .i64 0, .int .i64 0] 28))
  have hRN := rn_new (w.alloc (.cells #[.slice none 0 0, .slice none 0 0, .int .i64 0, .int .i64 0] 28)) (L : Int)
  have hsz : (w.alloc (.cells #[.slice none 0 0, .slice none 0 0, .int .i64 0, .int .i64 0] 28)).heap.size = w.heap.size + 1 := by simp
  rw [hsz] at hRN
  have HSZ := Aside0.mk hsz
  clear hsz
  generalize (w.alloc (.cells #[.slice none 0 0, .slice none 0 0, .int .i64 0, .int .i64 0] 28)) = w1 at *
  generalize hg : w.heap.size + 1 = g at *
  have HRN := Aside0.mk hRN
  have HG := Aside0.mk hg
  clear hRN hg
  go_loopg [4] (L + 2) (fun kq v4 w' => ∃ (i : Nat) (o t : List Int) (wy a : Int), v4 = .int .i64 (i : Int) ∧ Aside0 (OfI l L kq i o t wy a R) ∧ Aside0 (RN w1 w' g o t wy a))
  case atStart => exact ⟨0, [], [], 0, (L : Int), rfl, ⟨⟨HF.out, by omega, by simp, by simp, by omega, fun _ => by omega⟩⟩, HRN⟩
  case round =>
    clear HRN
    obtain ⟨i, o, t, wy, a, rfl, HI, HRN⟩ := hrel
    cases gk with
    | zero => exact absurd HI.out.2.2.2.2.1 (by omega)
    | succ k1 =>
    by_cases hgo : i < L ∧ wy = 0
    · obtain ⟨hiL, rfl⟩ := hgo
      have HI1 := Aside0.mk hiL
      clear hiL
      have HLN := Aside0.mk (show o.length + 1 ≤ 1048576 * 1048576 ∧ t.length + 1 ≤ 1048576 * 1048576 by have h1 := HI.out.2.2.1; have h2 := HI.out.2.2.2.1; have h3 : L ≤ 1048576 * 1024 := HOK.out; have h4 := HI1.out; omega)
      have HLS := Aside0.mk (show o.length + 2 ≤ 1048576 * 1048576 ∧ t.length + 2 ≤ 1048576 * 1048576 by have h1 := HI.out.2.2.1; have h2 := HI.out.2.2.2.1; have h3 : L ≤ 1048576 * 1024 := HOK.out; have h4 := HI1.out; omega)
      obtain ⟨b, hb⟩ : ∃ b, l.getD i 0 = b := ⟨_, rfl⟩
      obtain ⟨ad, hAe, hx⟩ := ReadsOf.at_ HR.out (i : Int) (by omega) (by have := HI1.out; omega)
      have HAE := Aside0.mk hAe
      clear hAe
      rw [Int.toNat_natCast] at hx
      have hrd : rdOf (0 : Int) l (i : Int) = b := by simp only [rdOf, Int.toNat_natCast]; exact hb
      rw [hrd] at hx
      have HX := Aside0.mk hx
      have HBI := Aside0.mk hb
      clear hrd hx hb
      obtain ⟨j1, j2, HJ⟩ : ∃ j1 j2, Aside0 (JF i j1 j2 L) := ⟨i + 1, i + 2, ⟨jf_mk i L HI1.out HOK.out⟩⟩
      have hi0 : (0 : Int) ≤ (i : Int) := by omega
      have hi1 : (i : Int) < (L : Int) := by have := HI1.out; omega
      have hq := HAE.out
      clear HAE
      cases hq
      have hlt : decide ((i : Int) < (L : Int)) = true := decide_eq_true (by have := HI1.out; omega)
      have hlt2 : decide (i < L) = true := decide_eq_true HI1.out
      rcases brk_012 (l.drop i) with hbk | hbk | hbk
      · have HBK := Aside0.mk hbk
        have HST : Aside0 (ofS l L i o t 0 a = ((1 : Int), o ++ [10], t ++ [(i : Int)], 0, a)) := ⟨by unfold ofS; rw [if_pos HBK.out]⟩
        clear hbk
        have hc2 := rnc2 HRN
        have hx := pw_cell_below (rn_base HRN.out) HX.out
        have hw1 := HJ.out.2.2.1
        have hw2 := HJ.out.2.2.2.1
        have hj1 := HJ.out.1
        have hj2 := HJ.out.2.1
        go_wp2_with (first
          | (go_at_call 24; (with_reducible refine (brk_calls (Aside0.mk (rn_base HRN.out)) HR HL HC HBK HOK.out (Nat.le_of_lt HI1.out)).mono ?_); rintro e3 w3 ⟨rfl, hd⟩; have HRN2 := Aside0.mk (rn_belowE HRN.out hd.below); clear hd HRN hc2 hx; have HRN := HRN2; clear HRN2; have hx := pw_cell_below (rn_base HRN.out) HX.out)
          | (go_at_call 25; (with_reducible refine (rn_say 10 (i : Int) HRN HLN).mono ?_); rintro e4 w4 ⟨rfl, hs⟩; have HS := Aside0.mk hs; clear hs HRN hx))
        clear hw1 hw2 hj1 hj2
        go_roundg k1
        case measure => omega
        case rel => exact ⟨i + 1, _, _, _, _, by have := HJ.out.1; have := HJ.out.2.1; have := HJ.out.2.2.1; have := HJ.out.2.2.2.1; first | rfl | (congr 1; omega), ⟨ofI_step HL.out HI.out HI1.out HST.out rfl⟩, HS⟩
      · have HBK := Aside0.mk hbk
        have HST : Aside0 (ofS l L i o t 0 a = ((2 : Int), o ++ [13] ++ [10], t ++ [(j1 : Int)] ++ [(j1 : Int)], 0, a)) := ⟨by unfold ofS; rw [if_neg (by have := HBK.out; omega), if_pos HBK.out, show ((i + 1 : Nat) : Int) = (j1 : Int) by have := HJ.out.1; omega]⟩
        clear hbk
        have HLN2 := Aside0.mk (show (o ++ [13]).length + 1 ≤ 1048576 * 1048576 ∧ (t ++ [(j1 : Int)]).length + 1 ≤ 1048576 * 1048576 by have := HLS.out; simp; omega)
        have hc2 := rnc2 HRN
        have hx := pw_cell_below (rn_base HRN.out) HX.out
        have hw1 := HJ.out.2.2.1
        have hw2 := HJ.out.2.2.2.1
        have hj1 := HJ.out.1
        have hj2 := HJ.out.2.1
        go_wp2_with (first
          | (go_at_call 24; (with_reducible refine (brk_calls (Aside0.mk (rn_base HRN.out)) HR HL HC HBK HOK.out (Nat.le_of_lt HI1.out)).mono ?_); rintro e3 w3 ⟨rfl, hd⟩; have HRN2 := Aside0.mk (rn_belowE HRN.out hd.below); clear hd HRN hc2 hx; have HRN := HRN2; clear HRN2; have hx := pw_cell_below (rn_base HRN.out) HX.out)
          | (go_at_call 25; (with_reducible refine (rn_say 13 (j1 : Int) HRN HLN).mono ?_); rintro e4 w4 ⟨rfl, hs⟩; have HS0 := Aside0.mk hs; clear hs HRN hx)
          | (go_at_call 25; (with_reducible refine (rn_say 10 (j1 : Int) HS0 HLN2).mono ?_); rintro e4 w4 ⟨rfl, hs⟩; have HS := Aside0.mk hs; clear hs HS0))
        clear hw1 hw2 hj1 hj2
        go_roundg k1
        case measure => omega
        case rel => exact ⟨i + 2, _, _, _, _, by have := HJ.out.1; have := HJ.out.2.1; have := HJ.out.2.2.1; have := HJ.out.2.2.2.1; first | rfl | (congr 1; omega), ⟨ofI_step HL.out HI.out HI1.out HST.out rfl⟩, HS⟩
      · have HBK := Aside0.mk hbk
        clear hbk
        by_cases h61 : b = 61
        · have H61 := Aside0.mk h61
          obtain ⟨e1, o2, t2, wy2, a2, hst⟩ : ∃ e1 o2 t2 wy2 a2, ofS l L i o t 0 a = (e1, o2, t2, wy2, a2) := ⟨_, _, _, _, _, rfl⟩
          obtain ⟨n, hn, hn1, _⟩ := ofS_len l L i HL.out HI1.out o t a
          rw [hst] at hn
          simp only at hn
          subst hn
          have HST := Aside0.mk hst
          have HES : Aside0 (escS l L i o t 0 a = ((n : Int), o2, t2, wy2, a2)) := ⟨by have h := HST.out; unfold ofS at h; rw [if_neg (by have := HBK.out; omega), if_neg (by have := HBK.out; omega), HBI.out, if_pos H61.out] at h; exact h⟩
          obtain ⟨iN, hiN, hiNN, HWN⟩ := bl_sum i n L hn1 HOK.out
          have HNN := Aside0.mk hiNN
          clear hst hn1 hiNN h61
          have hb61 : (b == 61) = true := beq_iff_eq.2 H61.out
          have hc2 := rnc2 HRN
          have hx := pw_cell_below (rn_base HRN.out) HX.out
          have hwN := HWN.out
          go_wp2_with (first
            | (go_at_call 24; (with_reducible refine (brk_calls (Aside0.mk (rn_base HRN.out)) HR HL HC HBK HOK.out (Nat.le_of_lt HI1.out)).mono ?_); rintro e3 w3 ⟨rfl, hd⟩; have HRN2 := Aside0.mk (rn_belowE HRN.out hd.below); clear hd HRN hc2 hx; have HRN := HRN2; clear HRN2; have hx := pw_cell_below (rn_base HRN.out) HX.out)
            | (go_at_call 26; (with_reducible refine (rn_esc2 HES HRN HR HL HC HI1 HOK HLN).mono ?_); rintro e4 w4 ⟨rfl, hs⟩; have HS := Aside0.mk hs; clear hs HRN hx))
          clear hwN hiN
          go_roundg k1
          case measure => omega
          case rel => exact ⟨i + n, _, _, _, _, by have := HNN.out; have := HWN.out; first | rfl | (congr 1; omega), ⟨ofI_step HL.out HI.out HI1.out HST.out rfl⟩, HS⟩
        · by_cases h9 : b = 9 ∨ b = 32
          · have H61 := Aside0.mk h61
            have H9 := Aside0.mk h9
            have HBL : Aside0 (winkleref11_Blank.f b = some true) := ⟨by rw [blank_f, decide_eq_true h9]⟩
            have HLB := Aside0.mk (show o.length ≤ i ∧ t.length ≤ i from ⟨HI.out.2.2.1, HI.out.2.2.2.1⟩)
            obtain ⟨e1, o2, t2, wy2, a2, hst⟩ : ∃ e1 o2 t2 wy2 a2, ofS l L i o t 0 a = (e1, o2, t2, wy2, a2) := ⟨_, _, _, _, _, rfl⟩
            obtain ⟨n, hn, hn1, _⟩ := ofS_len l L i HL.out HI1.out o t a
            rw [hst] at hn
            simp only at hn
            subst hn
            have HST := Aside0.mk hst
            have HES : Aside0 (blS l L i o t 0 a = ((n : Int), o2, t2, wy2, a2)) := ⟨by have h := HST.out; unfold ofS at h; rw [if_neg (by have := HBK.out; omega), if_neg (by have := HBK.out; omega), HBI.out, if_neg H61.out, if_pos H9.out] at h; exact h⟩
            obtain ⟨iN, hiN, hiNN, HWN⟩ := bl_sum i n L hn1 HOK.out
            have HNN := Aside0.mk hiNN
            clear hst hn1 hiNN h61 h9
            have hb61 : (b == 61) = false := beq_eq_false_iff_ne.2 H61.out
            have hc2 := rnc2 HRN
            have hx := pw_cell_below (rn_base HRN.out) HX.out
            have hwN := HWN.out
            go_wp2_with (first
              | (go_at_call 24; (with_reducible refine (brk_calls (Aside0.mk (rn_base HRN.out)) HR HL HC HBK HOK.out (Nat.le_of_lt HI1.out)).mono ?_); rintro e3 w3 ⟨rfl, hd⟩; have HRN2 := Aside0.mk (rn_belowE HRN.out hd.below); clear hd HRN hc2 hx; have HRN := HRN2; clear HRN2; have hx := pw_cell_below (rn_base HRN.out) HX.out)
              | (go_at_call 27; (with_reducible refine (winkleref11_Blank.calls b true _ HBL.out).mono ?_); rintro e3 w3 ⟨rfl, hd⟩; have HRN2 := Aside0.mk (rn_belowE HRN.out hd.below); clear hd HRN hx; have HRN := HRN2; clear HRN2; have hx := pw_cell_below (rn_base HRN.out) HX.out)
              | (go_at_call 28; (with_reducible refine (rn_bl2 HES HRN HR HL HC HI1 HOK HLB).mono ?_); rintro e4 w4 ⟨rfl, hs⟩; have HS := Aside0.mk hs; clear hs HRN hx))
            clear hwN hiN
            go_roundg k1
            case measure => omega
            case rel => exact ⟨i + n, _, _, _, _, by have := HNN.out; have := HWN.out; first | rfl | (congr 1; omega), ⟨ofI_step HL.out HI.out HI1.out HST.out rfl⟩, HS⟩
          · have HBL : Aside0 (winkleref11_Blank.f b = some false) := ⟨by rw [blank_f, decide_eq_false h9]⟩
            have HN1 := Aside0.mk h61
            have HN2 := Aside0.mk h9
            have hb61 : (b == 61) = false := beq_eq_false_iff_ne.2 h61
            clear h61 h9
            by_cases h13 : b = 13
            · have H13 := Aside0.mk h13
              have HST : Aside0 (ofS l L i o t 0 a = ((1 : Int), o ++ [13], t ++ [(j1 : Int)], 0, a)) := ⟨by unfold ofS; rw [if_neg (by have := HBK.out; omega), if_neg (by have := HBK.out; omega), HBI.out, if_neg HN1.out, if_neg HN2.out, if_pos H13.out, show ((i + 1 : Nat) : Int) = (j1 : Int) by have := HJ.out.1; omega]⟩
              clear h13
              have hb13 : (b == 13) = true := beq_iff_eq.2 H13.out
              have hc2 := rnc2 HRN
              have hx := pw_cell_below (rn_base HRN.out) HX.out
              have hw1 := HJ.out.2.2.1
              have hw2 := HJ.out.2.2.2.1
              have hj1 := HJ.out.1
              have hj2 := HJ.out.2.1
              go_wp2_with (first
                | (go_at_call 24; (with_reducible refine (brk_calls (Aside0.mk (rn_base HRN.out)) HR HL HC HBK HOK.out (Nat.le_of_lt HI1.out)).mono ?_); rintro e3 w3 ⟨rfl, hd⟩; have HRN2 := Aside0.mk (rn_belowE HRN.out hd.below); clear hd HRN hc2 hx; have HRN := HRN2; clear HRN2; have hx := pw_cell_below (rn_base HRN.out) HX.out)
                | (go_at_call 27; (with_reducible refine (winkleref11_Blank.calls b false _ HBL.out).mono ?_); rintro e3 w3 ⟨rfl, hd⟩; have HRN2 := Aside0.mk (rn_belowE HRN.out hd.below); clear hd HRN hx; have HRN := HRN2; clear HRN2; have hx := pw_cell_below (rn_base HRN.out) HX.out)
                | (go_at_call 25; (with_reducible refine (rn_say 13 (j1 : Int) HRN HLN).mono ?_); rintro e4 w4 ⟨rfl, hs⟩; have HS := Aside0.mk hs; clear hs HRN hx))
              clear hw1 hw2 hj1 hj2
              go_roundg k1
              case measure => omega
              case rel => exact ⟨i + 1, _, _, _, _, by have := HJ.out.1; have := HJ.out.2.1; have := HJ.out.2.2.1; have := HJ.out.2.2.2.1; first | rfl | (congr 1; omega), ⟨ofI_step HL.out HI.out HI1.out HST.out rfl⟩, HS⟩
            · have H13 := Aside0.mk h13
              have HST : Aside0 (ofS l L i o t 0 a = ((1 : Int), o ++ [b], t ++ [(i : Int)], 0, a)) := ⟨by unfold ofS; rw [if_neg (by have := HBK.out; omega), if_neg (by have := HBK.out; omega), HBI.out, if_neg HN1.out, if_neg HN2.out, if_neg H13.out]⟩
              clear h13
              have hb13 : (b == 13) = false := beq_eq_false_iff_ne.2 H13.out
              have hc2 := rnc2 HRN
              have hx := pw_cell_below (rn_base HRN.out) HX.out
              have hw1 := HJ.out.2.2.1
              have hw2 := HJ.out.2.2.2.1
              have hj1 := HJ.out.1
              have hj2 := HJ.out.2.1
              go_wp2_with (first
                | (go_at_call 24; (with_reducible refine (brk_calls (Aside0.mk (rn_base HRN.out)) HR HL HC HBK HOK.out (Nat.le_of_lt HI1.out)).mono ?_); rintro e3 w3 ⟨rfl, hd⟩; have HRN2 := Aside0.mk (rn_belowE HRN.out hd.below); clear hd HRN hc2 hx; have HRN := HRN2; clear HRN2; have hx := pw_cell_below (rn_base HRN.out) HX.out)
                | (go_at_call 27; (with_reducible refine (winkleref11_Blank.calls b false _ HBL.out).mono ?_); rintro e3 w3 ⟨rfl, hd⟩; have HRN2 := Aside0.mk (rn_belowE HRN.out hd.below); clear hd HRN hx; have HRN := HRN2; clear HRN2; have hx := pw_cell_below (rn_base HRN.out) HX.out)
                | (go_at_call 25; (with_reducible refine (rn_say b (i : Int) HRN HLN).mono ?_); rintro e4 w4 ⟨rfl, hs⟩; have HS := Aside0.mk hs; clear hs HRN hx))
              clear hw1 hw2 hj1 hj2
              go_roundg k1
              case measure => omega
              case rel => exact ⟨i + 1, _, _, _, _, by have := HJ.out.1; have := HJ.out.2.1; have := HJ.out.2.2.1; have := HJ.out.2.2.2.1; first | rfl | (congr 1; omega), ⟨ofI_step HL.out HI.out HI1.out HST.out rfl⟩, HS⟩
    · have hE := ofR_stop (l := l) (L := L) (k := k1) (i := i) (o := o) (t := t) (wy := wy) (a := a) hgo
      have HE : Aside0 ((o, t, wy, a) = R) := ⟨by rw [← hE]; exact HI.out.1⟩
      clear hE
      obtain ⟨v0, v1, hv⟩ := HRN.out
      obtain ⟨A5, c5, hv0⟩ := own_slice hv.2.2.1
      obtain ⟨A6, c6, hv1⟩ := own_slice hv.2.2.2.1
      subst hv0
      subst hv1
      have HV := Aside0.mk hv
      have hB := Own.below_blk HB0.out hv.2.2.2.2
      have hc0 := rn_c0 HV
      have hc1 := rn_c1 HV
      have hc2 := rn_c2 HV
      have hc3 := rn_c3 HV
      have hf0 := blk_frozen hB 0
      have hf1 := blk_frozen hB 1
      have hf2 := blk_frozen hB 2
      have hf3 := blk_frozen hB 3
      have hd0 : wr.cell? ⟨w.heap.size, 0, none⟩ = some (.slice none 0 0) := (blk_cell hB 0).trans rfl
      have hd1 : wr.cell? ⟨w.heap.size, 1, none⟩ = some (.slice none 0 0) := (blk_cell hB 1).trans rfl
      have hd2 : wr.cell? ⟨w.heap.size, 2, none⟩ = some (.int .i64 0) := (blk_cell hB 2).trans rfl
      have hd3 : wr.cell? ⟨w.heap.size, 3, none⟩ = some (.int .i64 0) := (blk_cell hB 3).trans rfl
      have HBL := Aside0.mk hB
      clear hv hB HRN
      rcases Nat.lt_or_ge i L with hiL | hiL
      · have hwy : (wy == 0) = false := beq_eq_false_iff_ne.2 (fun h => hgo ⟨hiL, h⟩)
        have hlt : decide ((i : Int) < (L : Int)) = true := decide_eq_true (by omega)
        have hlt2 : decide (i < L) = true := decide_eq_true hiL
        clear hiL hgo
        go_wp2
        obtain ⟨p0, p1, pb, pc⟩ := of_post HB1.out (HSZ.out.trans HG.out.symm) HV.out HBL.out (.slice A5 o.length c5) (.slice A6 t.length c6) (.int .i64 wy) (.int .i64 a) _ rfl
        refine bodyPost_ret (results_single rfl (.cell _ _ _ _ _ rfl pc Try.underlying28 rfl info28' .nil)) rfl ?_
        rw [← HE.out]
        exact ⟨_, _, rfl, p0, p1, pb⟩
      · have hlt : decide ((i : Int) < (L : Int)) = false := decide_eq_false (by omega)
        have hlt2 : decide (i < L) = false := decide_eq_false (by omega)
        clear hiL hgo
        go_wp2
        obtain ⟨p0, p1, pb, pc⟩ := of_post HB1.out (HSZ.out.trans HG.out.symm) HV.out HBL.out (.slice A5 o.length c5) (.slice A6 t.length c6) (.int .i64 wy) (.int .i64 a) _ rfl
        refine bodyPost_ret (results_single rfl (.cell _ _ _ _ _ rfl pc Try.underlying28 rfl info28' .nil)) rfl ?_
        rw [← HE.out]
        exact ⟨_, _, rfl, p0, p1, pb⟩
def winkleref11_Of.f (l0 : List Int) : Option (List Int × List Int × Int × Int) := if l0.length ≤ 1048576 * 1024 then some (ofA l0) else none
theorem winkleref11_Of.calls (A0 : Option Addr) (c0 : Nat) (l0 : List Int) (r1 : List Int) (r2 : List Int) (r3 : Int) (r4 : Int) (w : World) (hr0 : Kd.C (Kd.int .u8) w A0 l0.length l0) (hc0 : l0.length ≤ c0) (h : winkleref11_Of.f l0 = some (r1, r2, r3, r4)) :
    Calls Try.prog 11 #[.slice A0 l0.length c0] w fun e w' => ∃ v0_ v1_ : Value, e = .returned (.agg #[v0_, v1_, .int .i64 r3, .int .i64 r4]) ∧ Kd.R (Kd.int .u8) 5 w' w.heap.size (fun _ => True) v0_ r1 ∧ Kd.R (Kd.int .i64) 3 w' w.heap.size (fun _ => True) v1_ r2 ∧ Below w.heap.size w w' := by
  unfold winkleref11_Of.f at h
  split at h
  · rename_i hc
    refine (of_calls0 ⟨Kd.reads_of_C (enc := Value.int .u8) (d := (0 : Int)) (h1 := fun _ => rfl) hr0⟩ ⟨rfl⟩ ⟨hc0⟩ hc _ (Option.some.inj h)).mono ?_
    rintro e w' ⟨v0, v1, he, h0, h1, hb⟩
    exact ⟨v0, v1, he, Kd.R_of_own (enc := Value.int .u8) (h1 := fun _ => rfl) h0 (fun _ _ => trivial), Kd.R_of_own (enc := Value.int .i64) (h1 := fun _ => rfl) h1 (fun _ _ => trivial), hb⟩
  · cases h
end Go.Proofs.Ytemdlahghbbkoaa.PAll
