/- The document's Look and Read. -/
import Derived.Test.YteamaaiicjjidaaQCode
import Derived.Test.YteamaaiicjjidaaLook
import Derived.Test.YteamaaiicjjidaaPAllx2
namespace Go.Proofs.Yteamaaiicjjidaa.PAll
open Go.RowKit Go.Proofs.Yteamaaiicjjidaa.Huf Go.Proofs.YteamaaiicjjidaaW.PrintWords Go.Proofs.YteamaaiicjjidaaW.PrintLast Go.Proofs.YteamaaiicjjidaaW.PrintMore
attribute [local go_sem] max2_int min2_int max_two min_two max_three min_three max_four min_four   -- for this text's walks alone
set_option linter.unusedVariables false
set_option linter.unusedSimpArgs false
theorem beg_run (all part : List Bool) (hl : part.length ≤ all.length) (hb : all.length ≤ 1000000) : ∀ (d i : Nat), i + d = part.length → winkleref08_begins.l0 (d + 1) all part (i : Int) = some ((part.drop i).isPrefixOf (all.drop i))
  | 0, i, h => by
    obtain rfl : i = part.length := by omega
    rw [winkleref08_begins.l0, if_neg (by omega), List.drop_length]; rfl
  | d + 1, i, h => by
    have hi : i < part.length := by omega
    have hi2 : i < all.length := by omega
    have e1 : rdOf false part (i : Int) = part[i] := by simp [rdOf, List.getD, hi]
    have e2 : rdOf false all (i : Int) = all[i] := by simp [rdOf, List.getD, hi2]
    rw [winkleref08_begins.l0, if_pos (by omega), if_pos (by omega), if_pos (by omega), e1, e2, List.drop_eq_getElem_cons hi, List.drop_eq_getElem_cons hi2]
    have ih := beg_run all part hl hb d (i + 1) (by omega)
    have hw : wrap64 ((i : Int) + 1) = ((i + 1 : Nat) : Int) := by unfold wrap64; omega
    rw [hw, ih]
    cases part[i] <;> cases all[i] <;> simp [List.isPrefixOf]
theorem beg_f (all part : List Bool) (hb : all.length ≤ 1000000) : ∃ k, winkleref08_begins.f k all part = some (part.isPrefixOf all) := by
  by_cases hl : part.length ≤ all.length
  · refine ⟨part.length + 1, ?_⟩
    unfold winkleref08_begins.f
    rw [if_neg (by omega)]
    have := beg_run all part hl hb part.length 0 (by omega)
    simpa using this
  · refine ⟨0, ?_⟩
    unfold winkleref08_begins.f
    rw [if_pos (by omega)]
    have : part.isPrefixOf all = false := by
      rw [← Bool.not_eq_true]
      intro h
      have := (List.isPrefixOf_iff_prefix.1 h).length_le
      omega
    rw [this]
theorem begins_all {w : World} {A0 A1 : Option Addr} {c0 c1 : Nat} {all part : List Bool} (h0 : Kd.C Kd.bool w A0 all.length all) (hc0 : all.length ≤ c0) (h1 : Kd.C Kd.bool w A1 part.length part) (hc1 : part.length ≤ c1) (hb : all.length ≤ 1000000) :
    Calls Try.prog 29 #[.slice A0 all.length c0, .slice A1 part.length c1] w fun e w' => e = .returned (.bool (part.isPrefixOf all)) ∧ Drawn0 w w' := by
  obtain ⟨k, hk⟩ := beg_f all part hb
  exact winkleref08_begins.calls k A0 c0 all A1 c1 part _ w h0 hc0 h1 hc1 hk
theorem drawn_then {a b c : World} (h : Drawn0 a b) (k : Drawn0 b c) : Drawn0 a c := by
  obtain ⟨n, rfl⟩ := k
  exact h.step n
/-- what Look knows of the first i symbols. -/
def LkI (l : List Int) (bs : List Bool) (i : Nat) (m : Bool) : Prop := (∀ s, s < i → ¬ Hit l bs s) ∧ (m = true ↔ ∃ s, s < i ∧ Mor l bs s)
theorem lk_zero (l : List Int) (bs : List Bool) : LkI l bs 0 false := ⟨fun s h => by omega, ⟨(fun h => by cases h), (fun ⟨s, h, _⟩ => by omega)⟩⟩
theorem lk_next {l : List Int} {bs : List Bool} {i : Nat} {m m' : Bool} (h : LkI l bs i m) (h1 : ¬ Hit l bs i) (h2 : m' = true ↔ (m = true ∨ Mor l bs i)) : LkI l bs (i + 1) m' := by
  refine ⟨fun s hs => ?_, ?_⟩
  · by_cases e : s = i
    · subst e; exact h1
    · exact h.1 s (by omega)
  · rw [h2, h.2]
    constructor
    · rintro (⟨s, hs, hm⟩ | hm)
      · exact ⟨s, by omega, hm⟩
      · exact ⟨i, by omega, hm⟩
    · rintro ⟨s, hs, hm⟩
      by_cases e : s = i
      · subst e; exact .inr hm
      · exact .inl ⟨s, by omega, hm⟩
theorem lk_end {l : List Int} {bs : List Bool} {m : Bool} (h : LkI l bs l.length m) : (∀ s, ¬ Hit l bs s) ∧ (m = true ↔ ∃ s, Mor l bs s) := by
  refine ⟨fun s hs => h.1 s hs.1 hs, ?_⟩
  rw [h.2]
  constructor
  · rintro ⟨s, _, hm⟩; exact ⟨s, hm⟩
  · rintro ⟨s, hm⟩; exact ⟨s, hm.1, hm⟩
section
variable {W : World} {g cb : Nat} {l : List Int} {bs : List Bool}
set_option maxHeartbeats 8000000 in
set_option maxRecDepth 100000 in
theorem look_calls (s how n : Nat) (A : Option Addr) (c : Nat) (h : Aside0 (QT W g cb l)) (hO : Ok l) (hK : kr l ≤ 32768) (hl320 : l.length ≤ 320) (hC : Kd.C Kd.bool W A bs.length bs) (hc : bs.length ≤ c) (hb : bs.length ≤ 1000000) (hL : LookAt l bs s how n) :
    Calls Try.prog 26 #[.pointer (some ⟨g, 0, none⟩), .slice A bs.length c] W fun e W' => e = .returned (.tuple #[.int .i64 (s : Int), .int .i64 (how : Int), .int .i64 (n : Int)]) ∧ Drawn0 W W' := by
  have HL := Aside0.mk hL
  have HOK := Aside0.mk (show Ok l ∧ kr l ≤ 32768 from ⟨hO, hK⟩)
  have HC := Aside0.mk hC
  have HCB := Aside0.mk (show bs.length ≤ c ∧ bs.length ≤ 1000000 from ⟨hc, hb⟩)
  clear hO hK hC hc hb hL
  go_enter Try.func26, Try.ntmps26
  go_wp2
  go_loopg [7, 8] (l.length + 1) (fun kq v7 v8 w' => ∃ (i : Nat) (m : Bool), v7 = .bool m ∧ v8 = .int .i64 (i : Int) ∧ i + kq = l.length + 1 ∧ i ≤ l.length ∧ Aside0 (LkI l bs i m) ∧ Aside0 (Drawn0 W w'))
  case atStart => exact ⟨0, false, rfl, rfl, by omega, by omega, ⟨lk_zero l bs⟩, ⟨Drawn0.refl W⟩⟩
  case round =>
    obtain ⟨i, m, rfl, rfl, hiq, hil, HLK, HD⟩ := hrel
    cases gk with
    | zero => exact absurd hiq (by omega)
    | succ k1 =>
    have HQ := Aside0.mk (qt_below h.out HD.out.below)
    have hcq := qt_c HQ.out
    by_cases hi : i < l.length
    · have hib : decide ((i : Int) < (l.length : Int)) = true := decide_eq_true (by omega)
      obtain ⟨A1, hc1, hC1⟩ := qs_c HQ.out.rows hi
      have hle := code_le HOK.out.1 hi
      have hi0 : (0 : Int) ≤ (i : Int) := by omega
      have hi1 : (i : Int) < (l.length : Int) := by omega
      by_cases h0 : l[i] = 0
      · have hz := (code_empty HOK.out.1 hi).2 h0
        rw [hz] at hc1
        have HN : Aside0 (LkI l bs (i + 1) m) := ⟨lk_next HLK.out (fun ⟨_, hp, _⟩ => by omega) ⟨fun hm => .inl hm, fun hm => hm.elim id (fun ⟨_, hp, _⟩ => by omega)⟩⟩
        clear hC1 hle h0 hz
        go_wp2
        go_roundg k1
        case measure => omega
        case rel => exact ⟨i + 1, m, rfl, by go_num, by omega, by omega, HN, HD⟩
      · have hp : 0 < l[i] := by have := ok_at HOK.out.1 hi; omega
        have hz : ¬ (code l i).length = 0 := fun e => h0 ((code_empty HOK.out.1 hi).1 e)
        have hz1 : (((code l i).length : Int) == 0) = false := beq_eq_false_iff_ne.2 (by omega)
        have hz2 : ¬ code l i = [] := fun e => hz (by rw [e]; rfl)
        have HC1 := Aside0.mk (hC1 (by omega))
        have HCW := Aside0.mk (Kd.C_below HC.out HD.out.below)
        have HLE := Aside0.mk hle
        have hhit : (code l i).isPrefixOf bs = true ↔ Hit l bs i := ⟨fun e => ⟨hi, hp, List.isPrefixOf_iff_prefix.1 e⟩, fun ⟨_, _, e⟩ => List.isPrefixOf_iff_prefix.2 e⟩
        have hmor : bs.isPrefixOf (code l i) = true ↔ Mor l bs i := ⟨fun e => ⟨hi, hp, List.isPrefixOf_iff_prefix.1 e⟩, fun ⟨_, _, e⟩ => List.isPrefixOf_iff_prefix.2 e⟩
        have HH := Aside0.mk hhit
        have HM := Aside0.mk hmor
        have HB1 := Aside0.mk (begins_all HCW.out HCB.out.1 HC1.out (Nat.le_refl _) HCB.out.2)
        have HB2 : Aside0 (∀ w', Drawn0 wr w' → Calls Try.prog 29 #[.slice A1 (code l i).length (code l i).length, .slice A bs.length c] w' fun e w'' => e = .returned (.bool (bs.isPrefixOf (code l i))) ∧ Drawn0 w' w'') := ⟨fun w' hd => begins_all (Kd.C_below HC1.out hd.below) (Nat.le_refl _) (Kd.C_below HCW.out hd.below) HCB.out.1 (by have := HLE.out; omega)⟩
        have hlc : (code l i).length = ln l i := code_len hi hp
        have HLC := Aside0.mk hlc
        clear hC1 hle hhit hmor hz h0 hp hlc
        cases h1 : (code l i).isPrefixOf bs with
        | true =>
          have hh := HH.out.1 h1
          obtain ⟨e1, e2, e3⟩ := look_hit HOK.out.1 HOK.out.2 HL.out hh
          have HE : Aside0 (s = i ∧ how = 0 ∧ n = ln l i) := ⟨e1, e2, e3⟩
          rw [h1] at HB1
          clear h1 hh e1 e2 e3 HH HM
          go_wp2_with (go_at_call 29; (with_reducible refine (HB1.out).mono ?_); rintro e w3 ⟨rfl, hd⟩; have HD3 := Aside0.mk (drawn_then HD.out hd); clear hd)
          go_ret3
          obtain ⟨rfl, rfl, rfl⟩ := HE.out
          exact ⟨by rw [HLC.out]; rfl, HD3.out⟩
        | false =>
          have hno : ¬ Hit l bs i := fun hh => by have := HH.out.2 hh; rw [h1] at this; cases this
          rw [h1] at HB1
          have HNO := Aside0.mk hno
          clear h1 hno HH
          cases m with
          | true =>
            have HN : Aside0 (LkI l bs (i + 1) true) := ⟨lk_next HLK.out HNO.out ⟨fun hm => .inl hm, fun _ => rfl⟩⟩
            clear HM HB2
            go_wp2_with (go_at_call 29; (with_reducible refine (HB1.out).mono ?_); rintro e w3 ⟨rfl, hd⟩; have HD3 := Aside0.mk (drawn_then HD.out hd); clear hd)
            go_roundg k1
            case measure => omega
            case rel => exact ⟨i + 1, true, rfl, by go_num, by omega, by omega, HN, HD3⟩
          | false =>
            have HN : Aside0 (LkI l bs (i + 1) (bs.isPrefixOf (code l i))) := ⟨lk_next HLK.out HNO.out (by rw [HM.out]; exact ⟨fun hm => .inr hm, fun hm => hm.elim (fun e => by cases e) id⟩)⟩
            generalize bs.isPrefixOf (code l i) = r2 at *
            cases r2 with
            | true =>
              go_wp2_with (go_at_call 29; (first
                | ((with_reducible refine (HB1.out).mono ?_); rintro e w3 ⟨rfl, hd⟩; have HD2 := Aside0.mk hd; have HD3 := Aside0.mk (drawn_then HD.out hd); have HB3 := Aside0.mk (HB2.out _ hd); clear hd HB1 HB2)
                | ((with_reducible refine (HB3.out).mono ?_); rintro e w4 ⟨rfl, hd⟩; have HD4 := Aside0.mk (drawn_then HD3.out hd); clear hd HB3)))
              go_roundg k1
              case measure => omega
              case rel => exact ⟨i + 1, true, rfl, by go_num, by omega, by omega, HN, HD4⟩
            | false =>
              go_wp2_with (go_at_call 29; (first
                | ((with_reducible refine (HB1.out).mono ?_); rintro e w3 ⟨rfl, hd⟩; have HD2 := Aside0.mk hd; have HD3 := Aside0.mk (drawn_then HD.out hd); have HB3 := Aside0.mk (HB2.out _ hd); clear hd HB1 HB2)
                | ((with_reducible refine (HB3.out).mono ?_); rintro e w4 ⟨rfl, hd⟩; have HD4 := Aside0.mk (drawn_then HD3.out hd); clear hd HB3)))
              go_roundg k1
              case measure => omega
              case rel => exact ⟨i + 1, false, rfl, by go_num, by omega, by omega, HN, HD4⟩
    · have hib : decide ((i : Int) < (l.length : Int)) = false := decide_eq_false (by omega)
      obtain rfl : i = l.length := by omega
      obtain ⟨hno, hmo⟩ := lk_end HLK.out
      obtain ⟨h1, h2, h3⟩ := look_no HL.out hno
      have HE : Aside0 (s = 0 ∧ n = 0) := ⟨h1, h2⟩
      clear h1 h2 hno hiq hil hi
      cases m with
      | true =>
        have hh : how = 1 := by
          rcases h3 with ⟨h, _⟩ | ⟨_, h⟩
          · exact h
          · obtain ⟨t, ht⟩ := hmo.1 rfl; exact absurd ht (h t)
        have HH := Aside0.mk hh
        clear hh h3 hmo
        go_wp2
        go_ret3
        obtain ⟨rfl, rfl⟩ := HE.out
        have e := HH.out
        subst e
        exact ⟨rfl, HD.out⟩
      | false =>
        have hh : how = 2 := by
          rcases h3 with ⟨_, t, ht⟩ | ⟨h, _⟩
          · have := hmo.2 ⟨t, ht⟩; cases this
          · exact h
        have HH := Aside0.mk hh
        clear hh h3 hmo
        go_wp2
        go_ret3
        obtain ⟨rfl, rfl⟩ := HE.out
        have e := HH.out
        subst e
        exact ⟨rfl, HD.out⟩
end
end Go.Proofs.Yteamaaiicjjidaa.PAll
