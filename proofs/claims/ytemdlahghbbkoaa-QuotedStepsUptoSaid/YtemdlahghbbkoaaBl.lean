/- The document's blanks: a run of blanks. -/
import Derived.Test.YtemdlahghbbkoaaEsc
namespace Go.Proofs.Ytemdlahghbbkoaa.PAll
open Go.RowKit Go.Proofs.YtemdlahghbbkoaaW.PrintWords Go.Proofs.YtemdlahghbbkoaaW.PrintLast Go.Proofs.YtemdlahghbbkoaaW.PrintMore
attribute [local go_sem] max2_int min2_int max_two min_two max_three min_three max_four min_four   -- for this text's walks alone
set_option linter.unusedVariables false
set_option linter.unusedSimpArgs false
/-- what is said of a run that ends at e, from place k on, m of them: the bytes, and when. -/
def blkO (l : List Int) (e : Nat) (drop : Bool) : Nat → Nat → List Int
  | _, 0 => []
  | k, m + 1 => if k + 64 < e then l.getD k 0 :: blkO l e drop (k + 1) m else if drop then blkO l e drop (k + 1) m else l.getD k 0 :: blkO l e drop (k + 1) m
def blkT (l : List Int) (e : Nat) (drop : Bool) (kn : Int) : Nat → Nat → List Int
  | _, 0 => []
  | k, m + 1 => if k + 64 < e then ((k + 64 : Nat) : Int) :: blkT l e drop kn (k + 1) m else if drop then blkT l e drop kn (k + 1) m else kn :: blkT l e drop kn (k + 1) m
theorem blk_len (l : List Int) (e : Nat) (drop : Bool) (kn : Int) (m : Nat) : ∀ k, (blkO l e drop k m).length ≤ m ∧ (blkT l e drop kn k m).length = (blkO l e drop k m).length := by
  induction m with
  | zero => intro k; simp [blkO, blkT]
  | succ m ih =>
    intro k
    have h := ih (k + 1)
    simp only [blkO, blkT]
    split
    · simp; omega
    · split
      · omega
      · simp; omega
/-- where the run stands: it begins at i, has n bytes, ends at e. -/
def BlF (l : List Int) (i n e L : Nat) (drop : Bool) (known : Nat) : Prop :=
  (∀ j, j < n → i + j < L ∧ winkleref11_Blank.f (l.getD (i + j) 0) = some true) ∧ e = i + n ∧ e ≤ L ∧ (e < L → winkleref11_Blank.f (l.getD e 0) = some false) ∧ (drop = (decide (e = L) || decide (brk (l.drop e) > 0))) ∧ (known = if e < L ∧ l.getD e 0 = 13 then e + 1 else e) ∧ LenOk L
theorem bl_sum (a b L : Nat) (h : a + b ≤ L) (hL : LenOk L) : ∃ t : Nat, (a : Int) + (b : Int) = (t : Int) ∧ t = a + b ∧ Aside0 (wrap64 (t : Int) = (t : Int)) := by
  unfold LenOk at hL
  refine ⟨a + b, by omega, rfl, ⟨?_⟩⟩
  generalize a + b = t at *
  unfold wrap64; omega
theorem bl_one (a L : Nat) (h : a ≤ L) (hL : LenOk L) : Aside0 (wrap64 ((a : Int) + 1) = (a : Int) + 1) := by
  unfold LenOk at hL
  refine ⟨?_⟩
  unfold wrap64; omega
theorem bl_64 (a L : Nat) (h : a ≤ L) (hL : LenOk L) : ∃ t : Nat, (a : Int) + 64 = (t : Int) ∧ t = a + 64 ∧ Aside0 (wrap64 (t : Int) = (t : Int)) := by
  unfold LenOk at hL
  refine ⟨a + 64, by omega, rfl, ⟨?_⟩⟩
  generalize hg : a + 64 = t
  have : t ≤ L + 64 := by omega
  unfold wrap64; omega
set_option maxHeartbeats 8000000 in
set_option maxRecDepth 100000 in
theorem rn_blanks {w W : World} {g : Nat} {A : Option Addr} {c L i n e known : Nat} {l out times : List Int} {why at_ : Int} {drop : Bool} (hRN : Aside0 (RN w W g out times why at_)) (HR : Aside0 (ReadsOf (Value.int .u8) (0 : Int) w A L l)) (HL : Aside0 (l.length = L)) (HC : Aside0 (L ≤ c)) (HF : Aside0 (BlF l i n e L drop known)) (HLN : Aside0 (out.length + n ≤ 1048576 * 1048575 ∧ times.length + n ≤ 1048576 * 1048575)) :
    Calls Try.prog 28 #[.pointer (some ⟨g, 0, none⟩), .slice A L c, .int .i64 (i : Int)] W fun e_ W' => e_ = .returned (.int .i64 (n : Int)) ∧ RN w W' g (out ++ blkO l e drop i n) (times ++ blkT l e drop (known : Int) i n) why at_ := by
  have hie : i ≤ e ∧ i ≤ L ∧ e ≤ L ∧ n ≤ L := by obtain ⟨_, h1, h2, _⟩ := HF.out; omega
  have HIE := Aside0.mk hie
  have HOK := Aside0.mk HF.out.2.2.2.2.2.2
  clear hie
  go_enter Try.func28, Try.ntmps28
  go_wp2
  go_loopg [7] (n + 1) (fun kq v7 w' => ∃ (m : Nat), v7 = .int .i64 (m : Int) ∧ m + kq = n + 1 ∧ m ≤ n ∧ Aside0 (RN w w' g out times why at_))
  case atStart => exact ⟨0, rfl, by omega, by omega, hRN⟩
  case round =>
    clear hRN
    obtain ⟨m, rfl, hmk, hmn, HRN⟩ := hrel
    cases gk with
    | zero => exact absurd hmk (by omega)
    | succ k1 =>
    have HMN := Aside0.mk hmn
    obtain ⟨t, ht, htt, HWT⟩ := bl_sum i m L (by have := HF.out.2.1; have := HIE.out; have := HMN.out; omega) HOK.out
    by_cases hlt : m < n
    · obtain ⟨h1, h2⟩ := HF.out.1 m hlt
      rw [← htt] at h1 h2
      obtain ⟨b, hb⟩ : ∃ b, l.getD t 0 = b := ⟨_, rfl⟩
      rw [hb] at h2
      have HBL := Aside0.mk h2
      obtain ⟨ad, hAe, hx⟩ := ReadsOf.at_ HR.out (t : Int) (by omega) (by omega)
      have HAE := Aside0.mk hAe
      clear hAe
      rw [Int.toNat_natCast] at hx
      have hrd : rdOf (0 : Int) l (t : Int) = b := by simp only [rdOf, Int.toNat_natCast]; exact hb
      rw [hrd] at hx
      have HX := Aside0.mk hx
      replace hx := pw_cell_below (rn_base HRN.out) HX.out
      have ht0 : (0 : Int) ≤ (t : Int) := by omega
      have ht1 : (t : Int) < (L : Int) := by omega
      have htb : decide ((t : Int) < (L : Int)) = true := decide_eq_true ht1
      have htb2 : decide (t < L) = true := decide_eq_true h1
      have HW1 := bl_one m L (by have := HIE.out; omega) HOK.out
      have HK := Aside0.mk hmk
      obtain rfl := HAE.out
      clear hrd hb h1 h2 htt HAE hmk hmn
      have hwt := HWT.out
      have hw1 := HW1.out
      go_wp2_with (go_at_call 27; (with_reducible refine (winkleref11_Blank.calls b true _ HBL.out).mono ?_); rintro e3 w3 ⟨rfl, hd⟩; have HRN2 := Aside0.mk (rn_belowE HRN.out hd.below); clear hd HRN hx; have HRN := HRN2; clear HRN2)
      clear hwt hw1
      go_roundg k1
      case measure => omega
      case rel => exact ⟨m + 1, by have := HW1.out; first | rfl | (congr 1; omega) | (congr 1), by have := HK.out; omega, by have := HK.out; omega, HRN⟩
    · obtain rfl : m = n := by omega
      obtain rfl : t = e := by have := HF.out.2.1; omega
      have HTT := Aside0.mk htt
      clear htt hmn hmk HMN hlt
      rcases (Nat.lt_or_ge t L).symm with hE | hE
      · have HE := Aside0.mk (show t = L by have := HIE.out; omega)
        obtain rfl := HE.out
        have hge : decide ((t : Int) < (t : Int)) = false := decide_eq_false (by omega)
        have heq : ((t : Int) == (t : Int)) = true := beq_self_eq_true _
        have hdt : drop = true := by rw [HF.out.2.2.2.2.1]; simp
        have hkn : known = t := by rw [HF.out.2.2.2.2.2.1]; simp
        have HDT := Aside0.mk hdt
        have HKN := Aside0.mk hkn
        clear hE hdt hkn
        have hwt := HWT.out
        go_wp2
        clear hwt
        go_loopg [10] (m + 1) (fun kq v10 w' => ∃ (K r : Nat) (o2 t2 : List Int), v10 = .int .i64 (K : Int) ∧ kq = r + 1 ∧ Aside0 (K + r = t ∧ r ≤ m ∧ o2 ++ blkO l t drop K r = out ++ blkO l t drop i m ∧ t2 ++ blkT l t drop (known : Int) K r = times ++ blkT l t drop (known : Int) i m ∧ o2.length + r ≤ out.length + m ∧ t2.length + r ≤ times.length + m) ∧ Aside0 (RN w w' g o2 t2 why at_))
        case atStart => exact ⟨i, m, out, times, rfl, rfl, ⟨by have := HTT.out; omega, Nat.le_refl _, rfl, rfl, Nat.le_refl _, Nat.le_refl _⟩, HRN⟩
        case round =>
          clear HRN
          obtain ⟨K, r, o2, t2, rfl, hkq, HI, HRN⟩ := hrel
          subst hkq
          cases r with
          | zero =>
            have hKt : K = t := by have := HI.out.1; omega
            subst hKt
            have hltK : decide ((K : Int) < (K : Int)) = false := decide_eq_false (by omega)
            go_wp2
            go_ret
            refine ⟨rfl, ?_⟩
            have h1 := HI.out.2.2.1
            have h2 := HI.out.2.2.2.1
            simp only [blkO, blkT, List.append_nil] at h1 h2
            rw [← h1, ← h2]
            exact HRN.out
          | succ r =>
            have HKT := Aside0.mk (show K < t by have := HI.out.1; omega)
            have HLQ := Aside0.mk (show o2.length + 1 ≤ 1048576 * 1048576 ∧ t2.length + 1 ≤ 1048576 * 1048576 by have := HI.out.2.2.2.2; have := HLN.out; omega)
            have hltK : decide ((K : Int) < (t : Int)) = true := decide_eq_true (by have := HKT.out; omega)
            have hltK2 : decide (K < t) = true := decide_eq_true HKT.out
            have hK0 : (0 : Int) ≤ (K : Int) := by omega
            have hK1 : (K : Int) < (t : Int) := by have := HKT.out; have := HIE.out; omega
            obtain ⟨sK, hsK, hss, HWS⟩ := bl_64 K t (by have := HKT.out; have := HIE.out; omega) HOK.out
            have HSS := Aside0.mk hss
            have HW1 := bl_one K t (by have := HKT.out; have := HIE.out; omega) HOK.out
            clear hss
            obtain ⟨bk, hbk⟩ : ∃ b, l.getD K 0 = b := ⟨_, rfl⟩
            obtain ⟨adbk, hAe, hxbk⟩ := ReadsOf.at_ HR.out (K : Int) (by omega) (by have := HKT.out; have := HIE.out; omega)
            have HAEbk := Aside0.mk hAe
            clear hAe
            rw [Int.toNat_natCast] at hxbk
            have hrd : rdOf (0 : Int) l (K : Int) = bk := by simp only [rdOf, Int.toNat_natCast]; exact hbk
            rw [hrd] at hxbk
            have HXbk := Aside0.mk hxbk
            have HBbk := Aside0.mk hbk
            clear hrd hxbk hbk
            have hq := HAEbk.out
            clear HAEbk
            cases hq
            have hxbk := pw_cell_below (rn_base HRN.out) HXbk.out
            have hxb := hxbk
            by_cases hF : sK < t
            · have hfar : decide ((sK : Int) < (t : Int)) = true := decide_eq_true (by omega)
              have hfar2 : decide (sK < t) = true := decide_eq_true hF
              have HFAR := Aside0.mk (show K + 64 < t by have := HSS.out; omega)
              clear hF
              have hwsK := HWS.out
              have hw1 := HW1.out
              go_wp2_with (go_at_call 25; (with_reducible refine (rn_say bk (sK : Int) HRN HLQ).mono ?_); rintro e3 w3 ⟨rfl, hs⟩; have HS := Aside0.mk hs; clear hs HRN hxbk hxb)
              clear hwsK hw1
              go_roundg (r + 1)
              case measure => omega
              case rel =>
                have hI1 := HI.out.2.2.1
                have hI2 := HI.out.2.2.2.1
                simp only [blkO, if_pos HFAR.out] at hI1
                simp only [blkT, if_pos HFAR.out] at hI2
                rw [HBbk.out] at hI1
                exact ⟨K + 1, r, o2 ++ [bk], t2 ++ [(sK : Int)], by have := HW1.out; first | rfl | (congr 1; omega) | (congr 1), rfl, ⟨by have := HI.out.1; omega, by have := HI.out.2.1; omega, by rw [List.append_assoc]; exact hI1, by rw [List.append_assoc]; have := HSS.out; subst this; exact hI2, by have := HI.out.2.2.2.2.1; simp; omega, by have := HI.out.2.2.2.2.2; simp; omega⟩, HS⟩
            · have hfar : decide ((sK : Int) < (t : Int)) = false := decide_eq_false (by omega)
              have hfar2 : decide (sK < t) = false := decide_eq_false hF
              have HFAR := Aside0.mk (show ¬ K + 64 < t by have := HSS.out; omega)
              clear hF
              have HD := HDT
              have hwsK := HWS.out
              have hw1 := HW1.out
              go_wp2
              clear hwsK hw1
              go_roundg (r + 1)
              case measure => omega
              case rel =>
                have hI1 := HI.out.2.2.1
                have hI2 := HI.out.2.2.2.1
                simp only [blkO, if_neg HFAR.out, if_pos HD.out] at hI1
                simp only [blkT, if_neg HFAR.out, if_pos HD.out] at hI2
                exact ⟨K + 1, r, o2, t2, by have := HW1.out; first | rfl | (congr 1; omega) | (congr 1), rfl, ⟨by have := HI.out.1; omega, by have := HI.out.2.1; omega, hI1, hI2, by have := HI.out.2.2.2.2.1; omega, by have := HI.out.2.2.2.2.2; omega⟩, HRN⟩
      · have HE := Aside0.mk (show t < L from hE)
        have htne : ((t : Int) == (L : Int)) = false := beq_eq_false_iff_ne.2 (by have := HE.out; omega)
        have htne2 : (t == L) = false := beq_eq_false_iff_ne.2 (by have := HE.out; omega)
        have htb : decide ((t : Int) < (L : Int)) = true := decide_eq_true (by have := HE.out; omega)
        have htb2 : decide (t < L) = true := decide_eq_true HE.out
        have ht0 : (0 : Int) ≤ (t : Int) := by omega
        have ht1 : (t : Int) < (L : Int) := by have := HE.out; omega
        obtain ⟨nb, hnb⟩ : ∃ nb, brk (l.drop t) = nb := ⟨_, rfl⟩
        have HBK := Aside0.mk hnb
        have hdt : drop = decide (nb > 0) := by rw [HF.out.2.2.2.2.1, hnb, decide_eq_false (show ¬ t = L by have := HE.out; omega)]; rfl
        have HDT := Aside0.mk hdt
        have hbl := HF.out.2.2.2.1 HE.out
        clear hE hnb hdt
        obtain ⟨b, hb⟩ : ∃ b, l.getD t 0 = b := ⟨_, rfl⟩
        obtain ⟨adb, hAe, hxb⟩ := ReadsOf.at_ HR.out (t : Int) (by omega) (by have := HE.out; omega)
        have HAEb := Aside0.mk hAe
        clear hAe
        rw [Int.toNat_natCast] at hxb
        have hrd : rdOf (0 : Int) l (t : Int) = b := by simp only [rdOf, Int.toNat_natCast]; exact hb
        rw [hrd] at hxb
        have HXb := Aside0.mk hxb
        have HBb := Aside0.mk hb
        clear hrd hxb hb
        rw [HBb.out] at hbl
        have HBL := Aside0.mk hbl
        clear hbl
        have hxb := pw_cell_below (rn_base HRN.out) HXb.out
        obtain rfl := HAEb.out
        clear HAEb
        have hwt := HWT.out
        go_wp2_with (first | (go_at_call 27; (with_reducible refine (winkleref11_Blank.calls b false _ HBL.out).mono ?_); rintro e3 w3 ⟨rfl, hd⟩; have HRN2 := Aside0.mk (rn_belowE HRN.out hd.below); clear hd HRN hxb; have HRN := HRN2; clear HRN2) | (go_at_call 24; (with_reducible refine (brk_calls (Aside0.mk (rn_base HRN.out)) HR HL HC HBK HOK.out HIE.out.2.2.1).mono ?_); rintro e3 w3 ⟨rfl, hd⟩; have HRN2 := Aside0.mk (rn_belowE HRN.out hd.below); clear hd HRN ; have HRN := HRN2; clear HRN2))
        clear hwt
        generalize hdv : decide (0 < nb) = dv
        have HDV := Aside0.mk (show drop = dv by rw [HDT.out]; exact hdv)
        clear HDT hdv
        by_cases h13 : b = 13
        · have hb13 : (b == 13) = true := beq_iff_eq.2 h13
          have hkn : known = t + 1 := by rw [HF.out.2.2.2.2.2.1, HBb.out]; simp [h13, HE.out]
          have hkn1 : (t : Int) + 1 = (known : Int) := by omega
          have hkw : wrap64 (known : Int) = (known : Int) := by have h := (bl_one t L HIE.out.2.2.1 HOK.out).out; rw [hkn1] at h; exact h
          clear hkn h13
          go_loopg [10] (m + 1) (fun kq v10 w' => ∃ (K r : Nat) (o2 t2 : List Int), v10 = .int .i64 (K : Int) ∧ kq = r + 1 ∧ Aside0 (K + r = t ∧ r ≤ m ∧ o2 ++ blkO l t drop K r = out ++ blkO l t drop i m ∧ t2 ++ blkT l t drop (known : Int) K r = times ++ blkT l t drop (known : Int) i m ∧ o2.length + r ≤ out.length + m ∧ t2.length + r ≤ times.length + m) ∧ Aside0 (RN w w' g o2 t2 why at_))
          case atStart => exact ⟨i, m, out, times, rfl, rfl, ⟨by have := HTT.out; omega, Nat.le_refl _, rfl, rfl, Nat.le_refl _, Nat.le_refl _⟩, HRN⟩
          case round =>
            clear HRN
            obtain ⟨K, r, o2, t2, rfl, hkq, HI, HRN⟩ := hrel
            subst hkq
            cases r with
            | zero =>
              have hKt : K = t := by have := HI.out.1; omega
              subst hKt
              have hltK : decide ((K : Int) < (K : Int)) = false := decide_eq_false (by omega)
              go_wp2
              go_ret
              refine ⟨rfl, ?_⟩
              have h1 := HI.out.2.2.1
              have h2 := HI.out.2.2.2.1
              simp only [blkO, blkT, List.append_nil] at h1 h2
              rw [← h1, ← h2]
              exact HRN.out
            | succ r =>
              have HKT := Aside0.mk (show K < t by have := HI.out.1; omega)
              have HLQ := Aside0.mk (show o2.length + 1 ≤ 1048576 * 1048576 ∧ t2.length + 1 ≤ 1048576 * 1048576 by have := HI.out.2.2.2.2; have := HLN.out; omega)
              have hltK : decide ((K : Int) < (t : Int)) = true := decide_eq_true (by have := HKT.out; omega)
              have hltK2 : decide (K < t) = true := decide_eq_true HKT.out
              have hK0 : (0 : Int) ≤ (K : Int) := by omega
              have hK1 : (K : Int) < (L : Int) := by have := HKT.out; have := HIE.out; omega
              obtain ⟨sK, hsK, hss, HWS⟩ := bl_64 K L (by have := HKT.out; have := HIE.out; omega) HOK.out
              have HSS := Aside0.mk hss
              have HW1 := bl_one K L (by have := HKT.out; have := HIE.out; omega) HOK.out
              clear hss
              obtain ⟨bk, hbk⟩ : ∃ b, l.getD K 0 = b := ⟨_, rfl⟩
              obtain ⟨adbk, hAe, hxbk⟩ := ReadsOf.at_ HR.out (K : Int) (by omega) (by have := HKT.out; have := HIE.out; omega)
              have HAEbk := Aside0.mk hAe
              clear hAe
              rw [Int.toNat_natCast] at hxbk
              have hrd : rdOf (0 : Int) l (K : Int) = bk := by simp only [rdOf, Int.toNat_natCast]; exact hbk
              rw [hrd] at hxbk
              have HXbk := Aside0.mk hxbk
              have HBbk := Aside0.mk hbk
              clear hrd hxbk hbk
              have hq := HAEbk.out
              clear HAEbk
              cases hq
              have hxbk := pw_cell_below (rn_base HRN.out) HXbk.out
              have hxb := pw_cell_below (rn_base HRN.out) HXb.out
              by_cases hF : sK < t
              · have hfar : decide ((sK : Int) < (t : Int)) = true := decide_eq_true (by omega)
                have hfar2 : decide (sK < t) = true := decide_eq_true hF
                have HFAR := Aside0.mk (show K + 64 < t by have := HSS.out; omega)
                clear hF
                have hwsK := HWS.out
                have hw1 := HW1.out
                go_wp2_with (go_at_call 25; (with_reducible refine (rn_say bk (sK : Int) HRN HLQ).mono ?_); rintro e3 w3 ⟨rfl, hs⟩; have HS := Aside0.mk hs; clear hs HRN hxbk hxb)
                clear hwsK hw1
                go_roundg (r + 1)
                case measure => omega
                case rel =>
                  have hI1 := HI.out.2.2.1
                  have hI2 := HI.out.2.2.2.1
                  simp only [blkO, if_pos HFAR.out] at hI1
                  simp only [blkT, if_pos HFAR.out] at hI2
                  rw [HBbk.out] at hI1
                  exact ⟨K + 1, r, o2 ++ [bk], t2 ++ [(sK : Int)], by have := HW1.out; first | rfl | (congr 1; omega) | (congr 1), rfl, ⟨by have := HI.out.1; omega, by have := HI.out.2.1; omega, by rw [List.append_assoc]; exact hI1, by rw [List.append_assoc]; have := HSS.out; subst this; exact hI2, by have := HI.out.2.2.2.2.1; simp; omega, by have := HI.out.2.2.2.2.2; simp; omega⟩, HS⟩
              · cases dv
                · have hfar : decide ((sK : Int) < (t : Int)) = false := decide_eq_false (by omega)
                  have hfar2 : decide (sK < t) = false := decide_eq_false hF
                  have HFAR := Aside0.mk (show ¬ K + 64 < t by have := HSS.out; omega)
                  clear hF
                  have HD := Aside0.mk (show ¬ drop = true by rw [HDV.out]; decide)
                  have hwsK := HWS.out
                  have hw1 := HW1.out
                  go_wp2_with (go_at_call 25; (with_reducible refine (rn_say bk (known : Int) HRN HLQ).mono ?_); rintro e3 w3 ⟨rfl, hs⟩; have HS := Aside0.mk hs; clear hs HRN hxbk hxb)
                  clear hwsK hw1
                  go_roundg (r + 1)
                  case measure => omega
                  case rel =>
                    have hI1 := HI.out.2.2.1
                    have hI2 := HI.out.2.2.2.1
                    simp only [blkO, if_neg HFAR.out, if_neg HD.out] at hI1
                    simp only [blkT, if_neg HFAR.out, if_neg HD.out] at hI2
                    rw [HBbk.out] at hI1
                    exact ⟨K + 1, r, o2 ++ [bk], t2 ++ [(known : Int)], by have := HW1.out; first | rfl | (congr 1; omega) | (congr 1), rfl, ⟨by have := HI.out.1; omega, by have := HI.out.2.1; omega, by rw [List.append_assoc]; exact hI1, by rw [List.append_assoc]; exact hI2, by have := HI.out.2.2.2.2.1; simp; omega, by have := HI.out.2.2.2.2.2; simp; omega⟩, HS⟩
                · have hfar : decide ((sK : Int) < (t : Int)) = false := decide_eq_false (by omega)
                  have hfar2 : decide (sK < t) = false := decide_eq_false hF
                  have HFAR := Aside0.mk (show ¬ K + 64 < t by have := HSS.out; omega)
                  clear hF
                  have HD := Aside0.mk (show drop = true from HDV.out)
                  have hwsK := HWS.out
                  have hw1 := HW1.out
                  go_wp2
                  clear hwsK hw1
                  go_roundg (r + 1)
                  case measure => omega
                  case rel =>
                    have hI1 := HI.out.2.2.1
                    have hI2 := HI.out.2.2.2.1
                    simp only [blkO, if_neg HFAR.out, if_pos HD.out] at hI1
                    simp only [blkT, if_neg HFAR.out, if_pos HD.out] at hI2
                    exact ⟨K + 1, r, o2, t2, by have := HW1.out; first | rfl | (congr 1; omega) | (congr 1), rfl, ⟨by have := HI.out.1; omega, by have := HI.out.2.1; omega, hI1, hI2, by have := HI.out.2.2.2.2.1; omega, by have := HI.out.2.2.2.2.2; omega⟩, HRN⟩
        · have hb13 : (b == 13) = false := beq_eq_false_iff_ne.2 h13
          have hkn : t = known := by rw [HF.out.2.2.2.2.2.1, HBb.out]; simp [h13]
          subst hkn
          clear h13
          go_loopg [10] (m + 1) (fun kq v10 w' => ∃ (K r : Nat) (o2 t2 : List Int), v10 = .int .i64 (K : Int) ∧ kq = r + 1 ∧ Aside0 (K + r = t ∧ r ≤ m ∧ o2 ++ blkO l t drop K r = out ++ blkO l t drop i m ∧ t2 ++ blkT l t drop (t : Int) K r = times ++ blkT l t drop (t : Int) i m ∧ o2.length + r ≤ out.length + m ∧ t2.length + r ≤ times.length + m) ∧ Aside0 (RN w w' g o2 t2 why at_))
          case atStart => exact ⟨i, m, out, times, rfl, rfl, ⟨by have := HTT.out; omega, Nat.le_refl _, rfl, rfl, Nat.le_refl _, Nat.le_refl _⟩, HRN⟩
          case round =>
            clear HRN
            obtain ⟨K, r, o2, t2, rfl, hkq, HI, HRN⟩ := hrel
            subst hkq
            cases r with
            | zero =>
              have hKt : K = t := by have := HI.out.1; omega
              subst hKt
              have hltK : decide ((K : Int) < (K : Int)) = false := decide_eq_false (by omega)
              go_wp2
              go_ret
              refine ⟨rfl, ?_⟩
              have h1 := HI.out.2.2.1
              have h2 := HI.out.2.2.2.1
              simp only [blkO, blkT, List.append_nil] at h1 h2
              rw [← h1, ← h2]
              exact HRN.out
            | succ r =>
              have HKT := Aside0.mk (show K < t by have := HI.out.1; omega)
              have HLQ := Aside0.mk (show o2.length + 1 ≤ 1048576 * 1048576 ∧ t2.length + 1 ≤ 1048576 * 1048576 by have := HI.out.2.2.2.2; have := HLN.out; omega)
              have hltK : decide ((K : Int) < (t : Int)) = true := decide_eq_true (by have := HKT.out; omega)
              have hltK2 : decide (K < t) = true := decide_eq_true HKT.out
              have hK0 : (0 : Int) ≤ (K : Int) := by omega
              have hK1 : (K : Int) < (L : Int) := by have := HKT.out; have := HIE.out; omega
              obtain ⟨sK, hsK, hss, HWS⟩ := bl_64 K L (by have := HKT.out; have := HIE.out; omega) HOK.out
              have HSS := Aside0.mk hss
              have HW1 := bl_one K L (by have := HKT.out; have := HIE.out; omega) HOK.out
              clear hss
              obtain ⟨bk, hbk⟩ : ∃ b, l.getD K 0 = b := ⟨_, rfl⟩
              obtain ⟨adbk, hAe, hxbk⟩ := ReadsOf.at_ HR.out (K : Int) (by omega) (by have := HKT.out; have := HIE.out; omega)
              have HAEbk := Aside0.mk hAe
              clear hAe
              rw [Int.toNat_natCast] at hxbk
              have hrd : rdOf (0 : Int) l (K : Int) = bk := by simp only [rdOf, Int.toNat_natCast]; exact hbk
              rw [hrd] at hxbk
              have HXbk := Aside0.mk hxbk
              have HBbk := Aside0.mk hbk
              clear hrd hxbk hbk
              have hq := HAEbk.out
              clear HAEbk
              cases hq
              have hxbk := pw_cell_below (rn_base HRN.out) HXbk.out
              have hxb := pw_cell_below (rn_base HRN.out) HXb.out
              by_cases hF : sK < t
              · have hfar : decide ((sK : Int) < (t : Int)) = true := decide_eq_true (by omega)
                have hfar2 : decide (sK < t) = true := decide_eq_true hF
                have HFAR := Aside0.mk (show K + 64 < t by have := HSS.out; omega)
                clear hF
                have hwsK := HWS.out
                have hw1 := HW1.out
                go_wp2_with (go_at_call 25; (with_reducible refine (rn_say bk (sK : Int) HRN HLQ).mono ?_); rintro e3 w3 ⟨rfl, hs⟩; have HS := Aside0.mk hs; clear hs HRN hxbk hxb)
                clear hwsK hw1
                go_roundg (r + 1)
                case measure => omega
                case rel =>
                  have hI1 := HI.out.2.2.1
                  have hI2 := HI.out.2.2.2.1
                  simp only [blkO, if_pos HFAR.out] at hI1
                  simp only [blkT, if_pos HFAR.out] at hI2
                  rw [HBbk.out] at hI1
                  exact ⟨K + 1, r, o2 ++ [bk], t2 ++ [(sK : Int)], by have := HW1.out; first | rfl | (congr 1; omega) | (congr 1), rfl, ⟨by have := HI.out.1; omega, by have := HI.out.2.1; omega, by rw [List.append_assoc]; exact hI1, by rw [List.append_assoc]; have := HSS.out; subst this; exact hI2, by have := HI.out.2.2.2.2.1; simp; omega, by have := HI.out.2.2.2.2.2; simp; omega⟩, HS⟩
              · cases dv
                · have hfar : decide ((sK : Int) < (t : Int)) = false := decide_eq_false (by omega)
                  have hfar2 : decide (sK < t) = false := decide_eq_false hF
                  have HFAR := Aside0.mk (show ¬ K + 64 < t by have := HSS.out; omega)
                  clear hF
                  have HD := Aside0.mk (show ¬ drop = true by rw [HDV.out]; decide)
                  have hwsK := HWS.out
                  have hw1 := HW1.out
                  go_wp2_with (go_at_call 25; (with_reducible refine (rn_say bk (t : Int) HRN HLQ).mono ?_); rintro e3 w3 ⟨rfl, hs⟩; have HS := Aside0.mk hs; clear hs HRN hxbk hxb)
                  clear hwsK hw1
                  go_roundg (r + 1)
                  case measure => omega
                  case rel =>
                    have hI1 := HI.out.2.2.1
                    have hI2 := HI.out.2.2.2.1
                    simp only [blkO, if_neg HFAR.out, if_neg HD.out] at hI1
                    simp only [blkT, if_neg HFAR.out, if_neg HD.out] at hI2
                    rw [HBbk.out] at hI1
                    exact ⟨K + 1, r, o2 ++ [bk], t2 ++ [(t : Int)], by have := HW1.out; first | rfl | (congr 1; omega) | (congr 1), rfl, ⟨by have := HI.out.1; omega, by have := HI.out.2.1; omega, by rw [List.append_assoc]; exact hI1, by rw [List.append_assoc]; exact hI2, by have := HI.out.2.2.2.2.1; simp; omega, by have := HI.out.2.2.2.2.2; simp; omega⟩, HS⟩
                · have hfar : decide ((sK : Int) < (t : Int)) = false := decide_eq_false (by omega)
                  have hfar2 : decide (sK < t) = false := decide_eq_false hF
                  have HFAR := Aside0.mk (show ¬ K + 64 < t by have := HSS.out; omega)
                  clear hF
                  have HD := Aside0.mk (show drop = true from HDV.out)
                  have hwsK := HWS.out
                  have hw1 := HW1.out
                  go_wp2
                  clear hwsK hw1
                  go_roundg (r + 1)
                  case measure => omega
                  case rel =>
                    have hI1 := HI.out.2.2.1
                    have hI2 := HI.out.2.2.2.1
                    simp only [blkO, if_neg HFAR.out, if_pos HD.out] at hI1
                    simp only [blkT, if_neg HFAR.out, if_pos HD.out] at hI2
                    exact ⟨K + 1, r, o2, t2, by have := HW1.out; first | rfl | (congr 1; omega) | (congr 1), rfl, ⟨by have := HI.out.1; omega, by have := HI.out.2.1; omega, hI1, hI2, by have := HI.out.2.2.2.2.1; omega, by have := HI.out.2.2.2.2.2; omega⟩, HRN⟩
end Go.Proofs.Ytemdlahghbbkoaa.PAll
