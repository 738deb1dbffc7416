-- Laid by a program of this session (a turned printer)
import Derived.Test.YtgapacibhagicaaPAllx0
import Derived.Test.YtgapacibhagicaaPAllx2
import Derived.Test.YtgapacibhagicaaPAllx3
import Derived.Test.YtgapacibhagicaaPAllx4
import Derived.Test.YtgapacibhagicaaPAllx5
import Derived.Test.YtgapacibhagicaaPAllx7
namespace Go.Proofs.Ytgapacibhagicaa.PAll
open Go.RowKit Go.Proofs.YtgapacibhagicaaW.PrintWords Go.Proofs.YtgapacibhagicaaW.PrintLast Go.Proofs.YtgapacibhagicaaW.PrintMore
attribute [local go_sem] max2_int min2_int max_two min_two max_three min_three max_four min_four   -- for this text's walks alone
set_option linter.unusedVariables false
set_option linter.unusedSimpArgs false

/-! ### winklelaw10_SixbitsSteps: function 8 -/
mutual
def winklelaw10_SixbitsSteps.l0 : Nat → List Int → List Int → Int → Int → Int → Int → Bool → Int → Option (Bool)
  | 0, _, _, _, _, _, _, _, _ => none
  | k + 1, x0, x1, x6, x323000, x323001, x323002, x323003, x323004 => if x6 < (x1.length : Int) then (if 0 ≤ x6 then ((sixbits_Decoder_Put.f k x323000 x323001 x323002 x323003 x323004 (rd x1 x6)).bind fun bt324 => (winklelaw10_SixbitsSteps.l0 k x0 x1 (wrap64 (x6 + 1)) bt324.2.2.2.1 bt324.2.2.2.2.1 bt324.2.2.2.2.2.1 bt324.2.2.2.2.2.2.1 bt324.2.2.2.2.2.2.2)) else (none)) else ((sixbits_Decoder_Reset.f x323000 x323001 x323002 x323003 x323004).bind fun bt332 => ((winkleref10_Of.f k x0).bind fun bt337 => (winklelaw10_SixbitsSteps.l1 k x0 0 0 bt332.1 bt332.2.1 bt332.2.2.1 bt332.2.2.2.1 bt332.2.2.2.2 bt337.1 bt337.2.1 bt337.2.2.1 bt337.2.2.2)))
def winklelaw10_SixbitsSteps.l1 : Nat → List Int → Int → Int → Int → Int → Int → Bool → Int → List Int → List Int → Int → Int → Option (Bool)
  | 0, _, _, _, _, _, _, _, _, _, _, _, _ => none
  | k + 1, x0, x8, x9, x323000, x323001, x323002, x323003, x323004, x346000, x346001, x346002, x346003 => if x9 < (x0.length : Int) then (if 0 ≤ x9 then ((sixbits_Decoder_Put.f k x323000 x323001 x323002 x323003 x323004 (rd x0 x9)).bind fun bt347 => (if x8 < (x346000.length : Int) then (if 0 ≤ x8 then (if x8 < (x346001.length : Int) then (winklelaw10_SixbitsSteps.j2 k x0 x8 x9 bt347.1 bt347.2.1 bt347.2.2.1 ((rd x346001 x8) == x9) bt347.2.2.2.1 bt347.2.2.2.2.1 bt347.2.2.2.2.2.1 bt347.2.2.2.2.2.2.1 bt347.2.2.2.2.2.2.2 x346000 x346001 x346002 x346003) else (none)) else (none)) else (winklelaw10_SixbitsSteps.j2 k x0 x8 x9 bt347.1 bt347.2.1 bt347.2.2.1 false bt347.2.2.2.1 bt347.2.2.2.2.1 bt347.2.2.2.2.2.1 bt347.2.2.2.2.2.2.1 bt347.2.2.2.2.2.2.2 x346000 x346001 x346002 x346003))) else (none)) else ((sixbits_Decoder_End.f x323000 x323001 x323002 x323003 x323004).bind fun bt357 => (if bt357.1 = x346002 then ((sixbits_Decoder_End.f bt357.2.1 bt357.2.2.1 bt357.2.2.2.1 bt357.2.2.2.2.1 bt357.2.2.2.2.2).bind fun bt363 => (winklelaw10_SixbitsSteps.j4 k x8 (bt363.1 != x346002) bt363.2.1 bt363.2.2.1 bt363.2.2.2.1 bt363.2.2.2.2.1 bt363.2.2.2.2.2 x346000 x346001 x346002 x346003)) else (winklelaw10_SixbitsSteps.j4 k x8 true bt357.2.1 bt357.2.2.1 bt357.2.2.2.1 bt357.2.2.2.2.1 bt357.2.2.2.2.2 x346000 x346001 x346002 x346003)))
def winklelaw10_SixbitsSteps.j2 : Nat → List Int → Int → Int → Int → Bool → Int → Bool → Int → Int → Int → Bool → Int → List Int → List Int → Int → Int → Option (Bool)
  | 0, _, _, _, _, _, _, _, _, _, _, _, _, _, _, _, _ => none
  | k + 1, x0, x8, x9, x10, x11, x12, x13, x323000, x323001, x323002, x323003, x323004, x346000, x346001, x346002, x346003 => if (x11 != x13) = true then (winklelaw10_SixbitsSteps.j3 k x0 x8 x9 x11 x12 true x323000 x323001 x323002 x323003 x323004 x346000 x346001 x346002 x346003) else (if x11 = true then (if 0 ≤ x8 then (if x8 < (x346000.length : Int) then (if x10 = (rd x346000 x8) then (winklelaw10_SixbitsSteps.j3 k x0 x8 x9 x11 x12 false x323000 x323001 x323002 x323003 x323004 x346000 x346001 x346002 x346003) else (winklelaw10_SixbitsSteps.j3 k x0 x8 x9 x11 x12 true x323000 x323001 x323002 x323003 x323004 x346000 x346001 x346002 x346003)) else (none)) else (none)) else (winklelaw10_SixbitsSteps.j3 k x0 x8 x9 x11 x12 (x10 != 0) x323000 x323001 x323002 x323003 x323004 x346000 x346001 x346002 x346003))
def winklelaw10_SixbitsSteps.j3 : Nat → List Int → Int → Int → Bool → Int → Bool → Int → Int → Int → Bool → Int → List Int → List Int → Int → Int → Option (Bool)
  | 0, _, _, _, _, _, _, _, _, _, _, _, _, _, _, _ => none
  | k + 1, x0, x8, x9, x11, x12, x89, x323000, x323001, x323002, x323003, x323004, x346000, x346001, x346002, x346003 => if x89 = true then (some false) else (if x11 = true then (if x346002 = 0 then (if (false != (x12 != 0)) = true then (some false) else (winklelaw10_SixbitsSteps.l1 k x0 (wrap64 (x8 + 1)) (wrap64 (x9 + 1)) x323000 x323001 x323002 x323003 x323004 x346000 x346001 x346002 x346003)) else (if ((decide (x346003 ≤ x9)) != (x12 != 0)) = true then (some false) else (if x346003 ≤ x9 then (if x12 = x346002 then (winklelaw10_SixbitsSteps.l1 k x0 (wrap64 (x8 + 1)) (wrap64 (x9 + 1)) x323000 x323001 x323002 x323003 x323004 x346000 x346001 x346002 x346003) else (some false)) else (winklelaw10_SixbitsSteps.l1 k x0 (wrap64 (x8 + 1)) (wrap64 (x9 + 1)) x323000 x323001 x323002 x323003 x323004 x346000 x346001 x346002 x346003)))) else (if x346002 = 0 then (if (false != (x12 != 0)) = true then (some false) else (winklelaw10_SixbitsSteps.l1 k x0 x8 (wrap64 (x9 + 1)) x323000 x323001 x323002 x323003 x323004 x346000 x346001 x346002 x346003)) else (if ((decide (x346003 ≤ x9)) != (x12 != 0)) = true then (some false) else (if x346003 ≤ x9 then (if x12 = x346002 then (winklelaw10_SixbitsSteps.l1 k x0 x8 (wrap64 (x9 + 1)) x323000 x323001 x323002 x323003 x323004 x346000 x346001 x346002 x346003) else (some false)) else (winklelaw10_SixbitsSteps.l1 k x0 x8 (wrap64 (x9 + 1)) x323000 x323001 x323002 x323003 x323004 x346000 x346001 x346002 x346003)))))
def winklelaw10_SixbitsSteps.j4 : Nat → Int → Bool → Int → Int → Int → Bool → Int → List Int → List Int → Int → Int → Option (Bool)
  | 0, _, _, _, _, _, _, _, _, _, _, _ => none
  | k + 1, x8, x126, x323000, x323001, x323002, x323003, x323004, x346000, x346001, x346002, x346003 => if x126 = true then (some false) else ((sixbits_Decoder_Put.f k x323000 x323001 x323002 x323003 x323004 61).bind fun bt369 => (if x8 = (x346000.length : Int) then (if bt369.2.1 = true then (some false) else (if bt369.2.2.1 = 0 then (some false) else ((winklelaw10_awake.f k).bind fun t377 => (some t377)))) else (some false)))
end
def winklelaw10_SixbitsSteps.f (k : Nat) (l0 : List Int) (l1 : List Int) : Option (Bool) := (sixbits_New.f).bind fun bt317 => (winklelaw10_SixbitsSteps.l0 k l0 l1 0 bt317.1 bt317.2.1 bt317.2.2.1 bt317.2.2.2.1 bt317.2.2.2.2)
theorem winklelaw10_SixbitsSteps.mono_l : ∀ k, (∀ y0 y1 y2 y3 y4 y5 y6 y7, LeO (winklelaw10_SixbitsSteps.l0 k y0 y1 y2 y3 y4 y5 y6 y7) (winklelaw10_SixbitsSteps.l0 (k + 1) y0 y1 y2 y3 y4 y5 y6 y7)) ∧ (∀ y0 y1 y2 y3 y4 y5 y6 y7 y8 y9 y10 y11, LeO (winklelaw10_SixbitsSteps.l1 k y0 y1 y2 y3 y4 y5 y6 y7 y8 y9 y10 y11) (winklelaw10_SixbitsSteps.l1 (k + 1) y0 y1 y2 y3 y4 y5 y6 y7 y8 y9 y10 y11)) ∧ (∀ y0 y1 y2 y3 y4 y5 y6 y7 y8 y9 y10 y11 y12 y13 y14 y15, LeO (winklelaw10_SixbitsSteps.j2 k y0 y1 y2 y3 y4 y5 y6 y7 y8 y9 y10 y11 y12 y13 y14 y15) (winklelaw10_SixbitsSteps.j2 (k + 1) y0 y1 y2 y3 y4 y5 y6 y7 y8 y9 y10 y11 y12 y13 y14 y15)) ∧ (∀ y0 y1 y2 y3 y4 y5 y6 y7 y8 y9 y10 y11 y12 y13 y14, LeO (winklelaw10_SixbitsSteps.j3 k y0 y1 y2 y3 y4 y5 y6 y7 y8 y9 y10 y11 y12 y13 y14) (winklelaw10_SixbitsSteps.j3 (k + 1) y0 y1 y2 y3 y4 y5 y6 y7 y8 y9 y10 y11 y12 y13 y14)) ∧ (∀ y0 y1 y2 y3 y4 y5 y6 y7 y8 y9 y10, LeO (winklelaw10_SixbitsSteps.j4 k y0 y1 y2 y3 y4 y5 y6 y7 y8 y9 y10) (winklelaw10_SixbitsSteps.j4 (k + 1) y0 y1 y2 y3 y4 y5 y6 y7 y8 y9 y10))
  | 0 => ⟨fun _ _ _ _ _ _ _ _ r h => by simp [winklelaw10_SixbitsSteps.l0] at h, fun _ _ _ _ _ _ _ _ _ _ _ _ r h => by simp [winklelaw10_SixbitsSteps.l1] at h, fun _ _ _ _ _ _ _ _ _ _ _ _ _ _ _ _ r h => by simp [winklelaw10_SixbitsSteps.j2] at h, fun _ _ _ _ _ _ _ _ _ _ _ _ _ _ _ r h => by simp [winklelaw10_SixbitsSteps.j3] at h, fun _ _ _ _ _ _ _ _ _ _ _ r h => by simp [winklelaw10_SixbitsSteps.j4] at h⟩
  | k + 1 => by
    obtain ⟨ih0, ih1, ih2, ih3, ih4⟩ := winklelaw10_SixbitsSteps.mono_l k
    refine ⟨?_, ?_, ?_, ?_, ?_⟩
    · intro y0 y1 y2 y3 y4 y5 y6 y7
      unfold winklelaw10_SixbitsSteps.l0
      repeat' first
      | (with_reducible exact ih0 _ _ _ _ _ _ _ _)
      | (with_reducible exact ih1 _ _ _ _ _ _ _ _ _ _ _ _)
      | (with_reducible exact ih2 _ _ _ _ _ _ _ _ _ _ _ _ _ _ _ _)
      | (with_reducible exact ih3 _ _ _ _ _ _ _ _ _ _ _ _ _ _ _)
      | (with_reducible exact ih4 _ _ _ _ _ _ _ _ _ _ _)
      | (with_reducible exact sixbits_Decoder_Put.mono _ _ _ _ _ _ _)
      | (with_reducible exact winklelaw10_awake.mono _)
      | (with_reducible exact winkleref10_Of.mono _ _)
      | (with_reducible exact LeO.refl _)
      | (with_reducible exact LeO.none _)
      | (with_reducible refine LeO.ite ?_ ?_)
      | (with_reducible refine LeO.bind ?_ (fun _ => ?_))
      | exact ih0 _ _ _ _ _ _ _ _
      | exact ih1 _ _ _ _ _ _ _ _ _ _ _ _
      | exact ih2 _ _ _ _ _ _ _ _ _ _ _ _ _ _ _ _
      | exact ih3 _ _ _ _ _ _ _ _ _ _ _ _ _ _ _
      | exact ih4 _ _ _ _ _ _ _ _ _ _ _
      | exact sixbits_Decoder_Put.mono _ _ _ _ _ _ _
      | exact winklelaw10_awake.mono _
      | exact winkleref10_Of.mono _ _
      | exact LeO.none _
      | refine LeO.ite ?_ ?_
      | refine LeO.bind ?_ (fun _ => ?_)
    · intro y0 y1 y2 y3 y4 y5 y6 y7 y8 y9 y10 y11
      unfold winklelaw10_SixbitsSteps.l1
      repeat' first
      | (with_reducible exact ih0 _ _ _ _ _ _ _ _)
      | (with_reducible exact ih1 _ _ _ _ _ _ _ _ _ _ _ _)
      | (with_reducible exact ih2 _ _ _ _ _ _ _ _ _ _ _ _ _ _ _ _)
      | (with_reducible exact ih3 _ _ _ _ _ _ _ _ _ _ _ _ _ _ _)
      | (with_reducible exact ih4 _ _ _ _ _ _ _ _ _ _ _)
      | (with_reducible exact sixbits_Decoder_Put.mono _ _ _ _ _ _ _)
      | (with_reducible exact winklelaw10_awake.mono _)
      | (with_reducible exact winkleref10_Of.mono _ _)
      | (with_reducible exact LeO.refl _)
      | (with_reducible exact LeO.none _)
      | (with_reducible refine LeO.ite ?_ ?_)
      | (with_reducible refine LeO.bind ?_ (fun _ => ?_))
      | exact ih0 _ _ _ _ _ _ _ _
      | exact ih1 _ _ _ _ _ _ _ _ _ _ _ _
      | exact ih2 _ _ _ _ _ _ _ _ _ _ _ _ _ _ _ _
      | exact ih3 _ _ _ _ _ _ _ _ _ _ _ _ _ _ _
      | exact ih4 _ _ _ _ _ _ _ _ _ _ _
      | exact sixbits_Decoder_Put.mono _ _ _ _ _ _ _
      | exact winklelaw10_awake.mono _
      | exact winkleref10_Of.mono _ _
      | exact LeO.none _
      | refine LeO.ite ?_ ?_
      | refine LeO.bind ?_ (fun _ => ?_)
    · intro y0 y1 y2 y3 y4 y5 y6 y7 y8 y9 y10 y11 y12 y13 y14 y15
      unfold winklelaw10_SixbitsSteps.j2
      repeat' first
      | (with_reducible exact ih0 _ _ _ _ _ _ _ _)
      | (with_reducible exact ih1 _ _ _ _ _ _ _ _ _ _ _ _)
      | (with_reducible exact ih2 _ _ _ _ _ _ _ _ _ _ _ _ _ _ _ _)
      | (with_reducible exact ih3 _ _ _ _ _ _ _ _ _ _ _ _ _ _ _)
      | (with_reducible exact ih4 _ _ _ _ _ _ _ _ _ _ _)
      | (with_reducible exact sixbits_Decoder_Put.mono _ _ _ _ _ _ _)
      | (with_reducible exact winklelaw10_awake.mono _)
      | (with_reducible exact winkleref10_Of.mono _ _)
      | (with_reducible exact LeO.refl _)
      | (with_reducible exact LeO.none _)
      | (with_reducible refine LeO.ite ?_ ?_)
      | (with_reducible refine LeO.bind ?_ (fun _ => ?_))
      | exact ih0 _ _ _ _ _ _ _ _
      | exact ih1 _ _ _ _ _ _ _ _ _ _ _ _
      | exact ih2 _ _ _ _ _ _ _ _ _ _ _ _ _ _ _ _
      | exact ih3 _ _ _ _ _ _ _ _ _ _ _ _ _ _ _
      | exact ih4 _ _ _ _ _ _ _ _ _ _ _
      | exact sixbits_Decoder_Put.mono _ _ _ _ _ _ _
      | exact winklelaw10_awake.mono _
      | exact winkleref10_Of.mono _ _
      | exact LeO.none _
      | refine LeO.ite ?_ ?_
      | refine LeO.bind ?_ (fun _ => ?_)
    · intro y0 y1 y2 y3 y4 y5 y6 y7 y8 y9 y10 y11 y12 y13 y14
      unfold winklelaw10_SixbitsSteps.j3
      repeat' first
      | (with_reducible exact ih0 _ _ _ _ _ _ _ _)
      | (with_reducible exact ih1 _ _ _ _ _ _ _ _ _ _ _ _)
      | (with_reducible exact ih2 _ _ _ _ _ _ _ _ _ _ _ _ _ _ _ _)
      | (with_reducible exact ih3 _ _ _ _ _ _ _ _ _ _ _ _ _ _ _)
      | (with_reducible exact ih4 _ _ _ _ _ _ _ _ _ _ _)
      | (with_reducible exact sixbits_Decoder_Put.mono _ _ _ _ _ _ _)
      | (with_reducible exact winklelaw10_awake.mono _)
      | (with_reducible exact winkleref10_Of.mono _ _)
      | (with_reducible exact LeO.refl _)
      | (with_reducible exact LeO.none _)
      | (with_reducible refine LeO.ite ?_ ?_)
      | (with_reducible refine LeO.bind ?_ (fun _ => ?_))
      | exact ih0 _ _ _ _ _ _ _ _
      | exact ih1 _ _ _ _ _ _ _ _ _ _ _ _
      | exact ih2 _ _ _ _ _ _ _ _ _ _ _ _ _ _ _ _
      | exact ih3 _ _ _ _ _ _ _ _ _ _ _ _ _ _ _
      | exact ih4 _ _ _ _ _ _ _ _ _ _ _
      | exact sixbits_Decoder_Put.mono _ _ _ _ _ _ _
      | exact winklelaw10_awake.mono _
      | exact winkleref10_Of.mono _ _
      | exact LeO.none _
      | refine LeO.ite ?_ ?_
      | refine LeO.bind ?_ (fun _ => ?_)
    · intro y0 y1 y2 y3 y4 y5 y6 y7 y8 y9 y10
      unfold winklelaw10_SixbitsSteps.j4
      repeat' first
      | (with_reducible exact ih0 _ _ _ _ _ _ _ _)
      | (with_reducible exact ih1 _ _ _ _ _ _ _ _ _ _ _ _)
      | (with_reducible exact ih2 _ _ _ _ _ _ _ _ _ _ _ _ _ _ _ _)
      | (with_reducible exact ih3 _ _ _ _ _ _ _ _ _ _ _ _ _ _ _)
      | (with_reducible exact ih4 _ _ _ _ _ _ _ _ _ _ _)
      | (with_reducible exact sixbits_Decoder_Put.mono _ _ _ _ _ _ _)
      | (with_reducible exact winklelaw10_awake.mono _)
      | (with_reducible exact winkleref10_Of.mono _ _)
      | (with_reducible exact LeO.refl _)
      | (with_reducible exact LeO.none _)
      | (with_reducible refine LeO.ite ?_ ?_)
      | (with_reducible refine LeO.bind ?_ (fun _ => ?_))
      | exact ih0 _ _ _ _ _ _ _ _
      | exact ih1 _ _ _ _ _ _ _ _ _ _ _ _
      | exact ih2 _ _ _ _ _ _ _ _ _ _ _ _ _ _ _ _
      | exact ih3 _ _ _ _ _ _ _ _ _ _ _ _ _ _ _
      | exact ih4 _ _ _ _ _ _ _ _ _ _ _
      | exact sixbits_Decoder_Put.mono _ _ _ _ _ _ _
      | exact winklelaw10_awake.mono _
      | exact winkleref10_Of.mono _ _
      | exact LeO.none _
      | refine LeO.ite ?_ ?_
      | refine LeO.bind ?_ (fun _ => ?_)
theorem winklelaw10_SixbitsSteps.mono : ∀ a0 a1 k, LeO (winklelaw10_SixbitsSteps.f k a0 a1) (winklelaw10_SixbitsSteps.f (k + 1) a0 a1) := by
  intro a0 a1 k
  obtain ⟨ih0, ih1, ih2, ih3, ih4⟩ := winklelaw10_SixbitsSteps.mono_l k
  unfold winklelaw10_SixbitsSteps.f
  repeat' first
      | (with_reducible exact ih0 _ _ _ _ _ _ _ _)
      | (with_reducible exact ih1 _ _ _ _ _ _ _ _ _ _ _ _)
      | (with_reducible exact ih2 _ _ _ _ _ _ _ _ _ _ _ _ _ _ _ _)
      | (with_reducible exact ih3 _ _ _ _ _ _ _ _ _ _ _ _ _ _ _)
      | (with_reducible exact ih4 _ _ _ _ _ _ _ _ _ _ _)
      | (with_reducible exact sixbits_Decoder_Put.mono _ _ _ _ _ _ _)
      | (with_reducible exact winklelaw10_awake.mono _)
      | (with_reducible exact winkleref10_Of.mono _ _)
      | (with_reducible exact LeO.refl _)
      | (with_reducible exact LeO.none _)
      | (with_reducible refine LeO.ite ?_ ?_)
      | (with_reducible refine LeO.bind ?_ (fun _ => ?_))
      | exact ih0 _ _ _ _ _ _ _ _
      | exact ih1 _ _ _ _ _ _ _ _ _ _ _ _
      | exact ih2 _ _ _ _ _ _ _ _ _ _ _ _ _ _ _ _
      | exact ih3 _ _ _ _ _ _ _ _ _ _ _ _ _ _ _
      | exact ih4 _ _ _ _ _ _ _ _ _ _ _
      | exact sixbits_Decoder_Put.mono _ _ _ _ _ _ _
      | exact winklelaw10_awake.mono _
      | exact winkleref10_Of.mono _ _
      | exact LeO.none _
      | refine LeO.ite ?_ ?_
      | refine LeO.bind ?_ (fun _ => ?_)
def winklelaw10_SixbitsSteps.T23 : Bool × List (List Nat × List Nat) := (true, [([], []), ([0], [0]), ([], []), ([2], [2]), ([1, 3], [1, 3]), ([4, 1], [4]), ([5], [5]), ([6, 5, 5], [5, 6]), ([5], [5]), ([8, 5], [5, 8]), ([7, 9, 5], [5, 7, 9]), ([5, 10], [5, 10])])
def winklelaw10_SixbitsSteps.B23 : List Nat := [0, 1, 0, 4, 15, 31, 63, 127, 63, 319, 1023, 2047]
theorem winklelaw10_SixbitsSteps.tab23 : rtab .any (opsOf Try.f8 23) = winklelaw10_SixbitsSteps.T23 := by kernel_rfl
theorem winklelaw10_SixbitsSteps.bits23 : waitsOk winklelaw10_SixbitsSteps.T23.2 winklelaw10_SixbitsSteps.B23 = true := by kernel_rfl
set_option maxHeartbeats 8000000 in
set_option maxRecDepth 100000 in
theorem winklelaw10_SixbitsSteps.calls (k : Nat) (A0 : Option Addr) (c0 : Nat) (l0 : List Int) (A1 : Option Addr) (c1 : Nat) (l1 : List Int) (r : Bool) (w : World) (hr0 : Kd.C (Kd.int .u8) w A0 l0.length l0) (hc0 : l0.length ≤ c0) (hr1 : Kd.C (Kd.int .u8) w A1 l1.length l1) (hc1 : l1.length ≤ c1) (h : winklelaw10_SixbitsSteps.f k l0 l1 = some r) :
    Calls Try.prog 8 #[.slice A0 l0.length c0, .slice A1 l1.length c1] w fun e w' => e = .returned (.bool r) ∧ Below w.heap.size w w' := by
  have hu28 := Try.underlying28
  have HR0 := Aside0.mk hr0
  have HC0 := Aside0.mk hc0
  clear hr0 hc0
  have HR1 := Aside0.mk hr1
  have HC1 := Aside0.mk hc1
  clear hr1 hc1
  have HB := Aside0.mk (Below.refl w.heap.size w)
  have H : ((sixbits_New.f).bind fun bt317 => (winklelaw10_SixbitsSteps.l0 k l0 l1 0 bt317.1 bt317.2.1 bt317.2.2.1 bt317.2.2.2.1 bt317.2.2.2.2)) = some r := h
  clear h
  replace H := Option.bind_eq_some_iff.mp H
  obtain ⟨⟨t317, t318, t319, t320, t321⟩, A30, H⟩ := H
  replace H : (winklelaw10_SixbitsSteps.l0 k l0 l1 0 t317 t318 t319 t320 t321) = some r := H
  have A3 := Aside0.mk A30
  clear A30
  have H' := Aside0.mk H
  clear H
  go_enter Try.func8, Try.ntmps8
  go_wp2_with (first | ((with_reducible refine gate_callee (f := 16) rfl ?_); refine goesL_ (some 18) rfl rfl Try.func16 (by kernel_rfl) rfl #[] rfl (by (try simp only [List.map_toArray, List.map_cons, List.map_nil]); first | done | rfl | (simp only [List.length_drop, List.length_take]; rfl)) ?_; (with_reducible refine (sixbits_New.calls  t317 t318 t319 t320 t321 w _ ?side1 A3.out).mono ?_); (case side1 => repeat (first | (with_reducible first | exact HB.out | apply below_alloc | apply pw_below_drewN | apply below_drew1) | exact HB.out)); rintro e w4 ⟨g322, rfl, hi, hb, hb2⟩; refine ⟨_, rfl, ?_⟩; have n0_ := Aside0.mk (hb); have n1_ := Aside0.mk (hi); clear HB; have HB := n0_; have HI322 := n1_; clear n0_ n1_; (try clear hb); (try clear hb2); (try clear hk); (try clear hi)))
  go_loopg [6] k (fun kq v6 w' => ∃ (x6_1 : Int) (x323000_1 : Int) (x323001_1 : Int) (x323002_1 : Int) (x323003_1 : Bool) (x323004_1 : Int), v6 = .int .i64 x6_1 ∧ Aside0 (winklelaw10_SixbitsSteps.l0 kq l0 l1 x6_1 x323000_1 x323001_1 x323002_1 x323003_1 x323004_1 = some r) ∧ Aside0 (kq ≤ k) ∧ Aside0 (IsS50 w w' g322 x323000_1 x323001_1 x323002_1 x323003_1 x323004_1) ∧ Aside0 (Below w.heap.size w w'))
  case atStart => exact ⟨(0), (t317), (t318), (t319), (t320), (t321), (by first | rfl | (simp; done) | (simp [*]; done)), H', ⟨Nat.le_refl _⟩, ⟨by repeat (first | (with_reducible first | exact HI322.out | apply IsS50.alloc | apply IsS50.drewN | apply IsS50.drew | apply IsS50.set_0 | apply IsS50.set_1 | apply IsS50.set_2 | apply IsS50.set_3 | apply IsS50.set_4) | exact HI322.out)⟩, ⟨by repeat (first | (with_reducible first | exact HB.out | apply below_alloc | apply pw_below_drewN | apply below_drew1 | refine below_set ?_ (IsS50.ge HI322.out)) | exact HB.out)⟩⟩
  case round =>
    clear H'
    try clear c1
    try clear p2
    obtain ⟨x6_1, x323000_1, x323001_1, x323002_1, x323003_1, x323004_1, rfl, HA, HK1, HI322, HB⟩ := hrel
    cases gk with
    | zero => exact absurd HA.out (by simp [winklelaw10_SixbitsSteps.l0])
    | succ k1 =>
      have H := HA.out
      clear HA
      simp only [winklelaw10_SixbitsSteps.l0] at H
      by_cases c5 : x6_1 < (l1.length : Int)
      · rw [if_pos c5] at H
        have c5b0 : decide (x6_1 < (l1.length : Int)) = true := decide_eq_true c5
        clear c5
        by_cases c6 : 0 ≤ x6_1
        · rw [if_pos c6] at H
          have c6b0 : decide (0 ≤ x6_1) = true := decide_eq_true c6
          clear c6
          replace H := Option.bind_eq_some_iff.mp H
          obtain ⟨⟨t324, t325, t326, t327, t328, t329, t330, t331⟩, A70, H⟩ := H
          replace H : (winklelaw10_SixbitsSteps.l0 k1 l0 l1 (wrap64 (x6_1 + 1)) t327 t328 t329 t330 t331) = some r := H
          have A7 := Aside0.mk A70
          clear A70
          have H' := Aside0.mk H
          clear H
          have p323 : 0 ≤ (x6_1 : Int) := of_decide_eq_true (by first | (with_reducible assumption) | assumption)
          have q323 : x6_1 < (l1.length : Int) := of_decide_eq_true (by first | (with_reducible assumption) | assumption)
          obtain ⟨ad323, e323, hx323_0⟩ := Kd.at_int HR1.out x6_1 p323 q323
          cases e323
          replace hx323_0 := (HB.out.cell (World.block_lt_of_cell? w _ hx323_0)).trans hx323_0
          replace p323 := eq_true p323
          replace q323 := eq_true q323
          go_wp2_with (first | ((with_reducible refine gate_callee (f := 17) rfl ?_); refine goesL_ (some 32) rfl rfl Try.func17 (by kernel_rfl) rfl #[.pointer (some ⟨g322, 0, none⟩), .int .u8 (rd l1 x6_1)] rfl (by (try simp only [List.map_toArray, List.map_cons, List.map_nil]); first | done | rfl | (simp only [List.length_drop, List.length_take]; rfl)) ?_; (with_reducible refine (sixbits_Decoder_Put.calls k1 g322 x323000_1 x323001_1 x323002_1 x323003_1 x323004_1 (rd l1 x6_1) t324 t325 t326 t327 t328 t329 t330 t331 w _ ?side1 ?side2 A7.out).mono ?_); (case side1 => repeat (first | (with_reducible first | exact HI322.out | apply IsS50.alloc | apply IsS50.drewN | apply IsS50.drew | apply IsS50.set_0 | apply IsS50.set_1 | apply IsS50.set_2 | apply IsS50.set_3 | apply IsS50.set_4) | exact HI322.out)); (case side2 => repeat (first | (with_reducible first | exact HB.out | apply below_alloc | apply pw_below_drewN | apply below_drew1 | refine below_set ?_ (IsS50.ge HI322.out)) | exact HB.out)); rintro e w8 ⟨rfl, hi, hb, hk⟩; refine ⟨_, rfl, ?_⟩; have n0_ := Aside0.mk (hb); have n1_ := Aside0.mk (hi); clear HB; clear HI322; have HB := n0_; have HI322 := n1_; clear n0_ n1_; (try clear hb); (try clear hb2); (try clear hk); (try clear hi)))
          go_roundg k1
          case measure => have := HK1.out; omega
          case rel => exact ⟨(wrap64 (x6_1 + 1)), (t327), (t328), (t329), (t330), (t331), (by first | rfl | (simp; done) | (simp [*]; done)), H', ⟨by have := HK1.out; omega⟩, ⟨by repeat (first | (with_reducible first | exact HI322.out | apply IsS50.alloc | apply IsS50.drewN | apply IsS50.drew | apply IsS50.set_0 | apply IsS50.set_1 | apply IsS50.set_2 | apply IsS50.set_3 | apply IsS50.set_4) | exact HI322.out)⟩, ⟨by repeat (first | (with_reducible first | exact HB.out | apply below_alloc | apply pw_below_drewN | apply below_drew1 | refine below_set ?_ (IsS50.ge HI322.out)) | exact HB.out)⟩⟩
        · rw [if_neg c6] at H
          exact absurd H (by simp)
      · rw [if_neg c5] at H
        have c5b0 : decide (x6_1 < (l1.length : Int)) = false := decide_eq_false c5
        clear c5
        replace H := Option.bind_eq_some_iff.mp H
        obtain ⟨⟨t332, t333, t334, t335, t336⟩, A90, H⟩ := H
        replace H : ((winkleref10_Of.f k1 l0).bind fun bt337 => (winklelaw10_SixbitsSteps.l1 k1 l0 0 0 t332 t333 t334 t335 t336 bt337.1 bt337.2.1 bt337.2.2.1 bt337.2.2.2)) = some r := H
        have A9 := Aside0.mk A90
        clear A90
        replace H := Option.bind_eq_some_iff.mp H
        obtain ⟨⟨t337, t340, t343, t344⟩, A100, H⟩ := H
        replace H : (winklelaw10_SixbitsSteps.l1 k1 l0 0 0 t332 t333 t334 t335 t336 t337 t340 t343 t344) = some r := H
        have A10 := Aside0.mk A100
        clear A100
        have H' := Aside0.mk H
        clear H
        go_wp2_with (first | ((with_reducible refine gate_callee (f := 18) rfl ?_); refine goesL_ (some 34) rfl rfl Try.func18 (by kernel_rfl) rfl #[.pointer (some ⟨g322, 0, none⟩)] rfl (by (try simp only [List.map_toArray, List.map_cons, List.map_nil]); first | done | rfl | (simp only [List.length_drop, List.length_take]; rfl)) ?_; (with_reducible refine (sixbits_Decoder_Reset.calls g322 x323000_1 x323001_1 x323002_1 x323003_1 x323004_1 t332 t333 t334 t335 t336 w _ ?side1 ?side2 A9.out).mono ?_); (case side1 => repeat (first | (with_reducible first | exact HI322.out | apply IsS50.alloc | apply IsS50.drewN | apply IsS50.drew | apply IsS50.set_0 | apply IsS50.set_1 | apply IsS50.set_2 | apply IsS50.set_3 | apply IsS50.set_4) | exact HI322.out)); (case side2 => repeat (first | (with_reducible first | exact HB.out | apply below_alloc | apply pw_below_drewN | apply below_drew1 | refine below_set ?_ (IsS50.ge HI322.out)) | exact HB.out)); rintro e w11 ⟨rfl, hi, hb, hk⟩; refine ⟨_, rfl, ?_⟩; have n0_ := Aside0.mk (hb); have n1_ := Aside0.mk (hi); clear HB; clear HI322; have HB := n0_; have HI322 := n1_; clear n0_ n1_; (try clear hb); (try clear hb2); (try clear hk); (try clear hi)) | ((with_reducible refine gate_callee (f := 11) rfl ?_); refine goesL_ (some 36) rfl rfl Try.func11 (by kernel_rfl) rfl #[.slice A0 l0.length c0] rfl (by (try simp only [List.map_toArray, List.map_cons, List.map_nil]); first | done | rfl | (simp only [List.length_drop, List.length_take]; rfl)) ?_; (with_reducible refine (winkleref10_Of.calls k1 _ _ l0 t337 t340 t343 t344 _ ?side1 ?side2 A10.out).mono ?_); (case side1 => repeat (first | exact (Kd.C_below HR0.out HB.out) | (with_reducible refine Kd.C_alloc ?_ _) | (with_reducible refine Kd.C_drewN ?_ _) | (with_reducible refine Kd.C_drew ?_))); (case side2 => exact HC0.out); rintro e w12 ⟨v338, v341, rfl, ho0, ho1, hb⟩; refine ⟨_, rfl, ?_⟩; have n0_ := Aside0.mk (Kd.R_lower ho0 (below_size (by repeat (first | (with_reducible first | exact HB.out | apply below_alloc | apply pw_below_drewN | apply below_drew1 | refine below_set ?_ (IsS50.ge HI322.out)) | exact HB.out)))); have n1_ := Aside0.mk (Kd.R_lower ho1 (below_size (by repeat (first | (with_reducible first | exact HB.out | apply below_alloc | apply pw_below_drewN | apply below_drew1 | refine below_set ?_ (IsS50.ge HI322.out)) | exact HB.out)))); have n2_ := Aside0.mk (IsS50.below (by repeat (first | (with_reducible first | exact HI322.out | apply IsS50.alloc | apply IsS50.drewN | apply IsS50.drew | apply IsS50.set_0 | apply IsS50.set_1 | apply IsS50.set_2 | apply IsS50.set_3 | apply IsS50.set_4) | exact HI322.out)) hb); have n3_ := Aside0.mk (below_step (by repeat (first | (with_reducible first | exact HB.out | apply below_alloc | apply pw_below_drewN | apply below_drew1 | refine below_set ?_ (IsS50.ge HI322.out)) | exact HB.out)) hb); clear HI322; clear HB; have HO339 := n0_; have HO342 := n1_; have HI322 := n2_; have HB := n3_; clear n0_ n1_ n2_ n3_; (try clear hb); (try clear hb2); (try clear hk); (try clear hi); (try clear ho0); (try clear ho1)) | ((with_reducible refine gate_dst (N := 7) rfl ?_); refine box_event ?hg (N := 7) ?hd (cs := #[.slice none 0 0, .slice none 0 0, .int .i64 0, .int .i64 0]) (t := 28) ?hr ?_; (case hd => rfl); (case hg => rfl); (case hr => first | (go_simp; done) | (go_simp; rfl)); intro gb345 hg w13 hbox hb; have n0_ := Aside0.mk (Kd.R_below (by (with_reducible repeat (first | apply Kd.R_alloc | apply Kd.R_drewN | apply Kd.R_drew)); exact HO339.out) hb); have n1_ := Aside0.mk (Kd.R_below (by (with_reducible repeat (first | apply Kd.R_alloc | apply Kd.R_drewN | apply Kd.R_drew)); exact HO342.out) hb); have n2_ := Aside0.mk (IsS50.below (by repeat (first | (with_reducible first | exact HI322.out | apply IsS50.alloc | apply IsS50.drewN | apply IsS50.drew | apply IsS50.set_0 | apply IsS50.set_1 | apply IsS50.set_2 | apply IsS50.set_3 | apply IsS50.set_4) | exact HI322.out)) hb); have n3_ := Aside0.mk (below_step (by repeat (first | (with_reducible first | exact HB.out | apply below_alloc | apply pw_below_drewN | apply below_drew1 | refine below_set ?_ (IsS50.ge HI322.out)) | exact HB.out)) hb); have n4_ := Aside0.mk (hbox); have n5_ := Aside0.mk ((by rw [hg]; exact (below_size (by repeat (first | (with_reducible first | exact HB.out | apply below_alloc | apply pw_below_drewN | apply below_drew1 | refine below_set ?_ (IsS50.ge HI322.out)) | exact HB.out))) : w.heap.size ≤ gb345)); have n6_ := Aside0.mk ((by rw [hg]; exact (below_size (by repeat (first | (with_reducible first | exact HB.out | apply below_alloc | apply pw_below_drewN | apply below_drew1 | refine below_set ?_ (IsS50.ge HI322.out)) | exact HB.out))) : w.heap.size ≤ gb345)); have n7_ := Aside0.mk ((by rw [hg]; exact Nat.ne_of_lt (IsS50.lt (show IsS50 w _ g322 t332 t333 t334 t335 t336 from by repeat (first | (with_reducible first | exact HI322.out | apply IsS50.alloc | apply IsS50.drewN | apply IsS50.drew | apply IsS50.set_0 | apply IsS50.set_1 | apply IsS50.set_2 | apply IsS50.set_3 | apply IsS50.set_4) | exact HI322.out))) : g322 ≠ gb345)); have n8_ := Aside0.mk ((by rw [hg]; exact Nat.ne_of_gt (IsS50.lt (show IsS50 w _ g322 t332 t333 t334 t335 t336 from by repeat (first | (with_reducible first | exact HI322.out | apply IsS50.alloc | apply IsS50.drewN | apply IsS50.drew | apply IsS50.set_0 | apply IsS50.set_1 | apply IsS50.set_2 | apply IsS50.set_3 | apply IsS50.set_4) | exact HI322.out))) : gb345 ≠ g322)); clear HO339; clear HO342; clear HI322; clear HB; have HO339 := n0_; have HO342 := n1_; have HI322 := n2_; have HB := n3_; have BK345 := n4_; have GW345 := n5_; have GE345 := n6_; have NB322_345 := n7_; have NB345_322 := n8_; clear n0_ n1_ n2_ n3_ n4_ n5_ n6_ n7_ n8_; clear hb hbox hg; obtain ⟨Ao14, co14, eo14⟩ := Kd.R_slice HO339.out; subst eo14; have hnb15 := NB345_322.out; have hnc15 := NB322_345.out; have hcz16_0 : w13.cell? ⟨gb345, 0, none⟩ = some (.slice none 0 0) := (blk_cell BK345.out 0).trans rfl; have hcz16_1 : w13.cell? ⟨gb345, 1, none⟩ = some (.slice none 0 0) := (blk_cell BK345.out 1).trans rfl; have hcz16_2 : w13.cell? ⟨gb345, 2, none⟩ = some (.int .i64 0) := (blk_cell BK345.out 2).trans rfl; have hcz16_3 : w13.cell? ⟨gb345, 3, none⟩ = some (.int .i64 0) := (blk_cell BK345.out 3).trans rfl; have hfz16_0 := blk_frozen BK345.out 0; have hfz16_1 := blk_frozen BK345.out 1; have hfz16_2 := blk_frozen BK345.out 2; have hfz16_3 := blk_frozen BK345.out 3; obtain ⟨Ao17, co17, eo17⟩ := Kd.R_slice HO342.out; subst eo17))
        go_loopg [8, 9] k1 (fun kq v8 v9 w' => ∃ (x8_2 : Int) (x9_2 : Int) (x323000_2 : Int) (x323001_2 : Int) (x323002_2 : Int) (x323003_2 : Bool) (x323004_2 : Int), v8 = .int .i64 x8_2 ∧ v9 = .int .i64 x9_2 ∧ Aside0 (winklelaw10_SixbitsSteps.l1 kq l0 x8_2 x9_2 x323000_2 x323001_2 x323002_2 x323003_2 x323004_2 t337 t340 t343 t344 = some r) ∧ Aside0 (kq ≤ k1) ∧ Aside0 (Kd.R (Kd.int .u8) 5 w' w.heap.size (fun _ => True) (.slice Ao14 t337.length co14) t337) ∧ Aside0 (Kd.R (Kd.int .i64) 3 w' w.heap.size (fun _ => True) (.slice Ao17 t340.length co17) t340) ∧ Aside0 (w'.heap[gb345]? = some (.cells #[(.slice Ao14 t337.length co14), (.slice Ao17 t340.length co17), .int .i64 t343, .int .i64 t344] 28 (0, 0))) ∧ Aside0 (IsS50 w w' g322 x323000_2 x323001_2 x323002_2 x323003_2 x323004_2) ∧ Aside0 (Below w.heap.size w w'))
        case atStart => exact ⟨(0), (0), (t332), (t333), (t334), (t335), (t336), (by first | rfl | (simp; done) | (simp [*]; done)), (by first | rfl | (simp; done) | (simp [*]; done)), H', ⟨Nat.le_refl _⟩, ⟨by (with_reducible repeat (first | apply Kd.R_alloc | apply Kd.R_drewN | apply Kd.R_drew)); exact Kd.R_mono (Kd.R_far (p := ⟨gb345, 3, none⟩) (Kd.R_far (p := ⟨gb345, 2, none⟩) (Kd.R_far (p := ⟨gb345, 1, none⟩) (Kd.R_far (p := ⟨gb345, 0, none⟩) (Kd.R_types HO339.out BK345.out (by decide)) (fun _ hk => hk.2) (.slice Ao14 t337.length co14)) (fun _ hk => hk.2) (.slice Ao17 t340.length co17)) (fun _ hk => hk.2) (.int .i64 t343)) (fun _ hk => hk.2) (.int .i64 t344)) (fun _ hk => trivial)⟩, ⟨by (with_reducible repeat (first | apply Kd.R_alloc | apply Kd.R_drewN | apply Kd.R_drew)); exact Kd.R_mono (Kd.R_far (p := ⟨gb345, 3, none⟩) (Kd.R_far (p := ⟨gb345, 2, none⟩) (Kd.R_far (p := ⟨gb345, 1, none⟩) (Kd.R_far (p := ⟨gb345, 0, none⟩) (Kd.R_types HO342.out BK345.out (by decide)) (fun _ hk => hk.2) (.slice Ao14 t337.length co14)) (fun _ hk => hk.2) (.slice Ao17 t340.length co17)) (fun _ hk => hk.2) (.int .i64 t343)) (fun _ hk => hk.2) (.int .i64 t344)) (fun _ hk => trivial)⟩, ⟨by (with_reducible repeat (first | refine blk_drewN ?_ _ | refine blk_drew ?_ | refine blk_alloc ?_ _)); refine blk_put (cs := #[.slice Ao14 t337.length co14, .slice Ao17 t340.length co17, .int .i64 t343, .int .i64 0]) ?_ 3 _ rfl; (with_reducible repeat (first | refine blk_drewN ?_ _ | refine blk_drew ?_ | refine blk_alloc ?_ _)); refine blk_put (cs := #[.slice Ao14 t337.length co14, .slice Ao17 t340.length co17, .int .i64 0, .int .i64 0]) ?_ 2 _ rfl; (with_reducible repeat (first | refine blk_drewN ?_ _ | refine blk_drew ?_ | refine blk_alloc ?_ _)); refine blk_put (cs := #[.slice Ao14 t337.length co14, .slice none 0 0, .int .i64 0, .int .i64 0]) ?_ 1 _ rfl; (with_reducible repeat (first | refine blk_drewN ?_ _ | refine blk_drew ?_ | refine blk_alloc ?_ _)); refine blk_put (cs := #[.slice none 0 0, .slice none 0 0, .int .i64 0, .int .i64 0]) ?_ 0 _ rfl; (with_reducible repeat (first | refine blk_drewN ?_ _ | refine blk_drew ?_ | refine blk_alloc ?_ _)); exact BK345.out⟩, ⟨by repeat (first | (with_reducible first | exact HI322.out | apply IsS50.alloc | apply IsS50.drewN | apply IsS50.drew | apply IsS50.set_0 | apply IsS50.set_1 | apply IsS50.set_2 | apply IsS50.set_3 | apply IsS50.set_4 | refine IsS50.far ?_ NB322_345.out _) | exact HI322.out)⟩, ⟨by repeat (first | (with_reducible first | exact HB.out | apply below_alloc | apply pw_below_drewN | apply below_drew1 | refine below_set ?_ (IsS50.ge HI322.out) | refine below_set ?_ GE345.out) | exact HB.out)⟩⟩
        case round =>
          clear H'
          try clear c1
          try clear p2
          try clear p3
          try clear q3
          try clear hx3
          try clear c5
          try clear c5b0
          try clear c6
          try clear c6b0
          try clear p6
          try clear c8
          try clear c11
          try clear c15
          try clear c16
          try clear c17
          try clear hcz16_0
          try clear hcz16_1
          try clear hcz16_2
          try clear hcz16_3
          try clear hfz16_0
          try clear hfz16_1
          try clear hfz16_2
          try clear hfz16_3
          try clear hx323_0
          try clear p2
          try clear p323
          try clear q323
          obtain ⟨x8_2, x9_2, x323000_2, x323001_2, x323002_2, x323003_2, x323004_2, rfl, rfl, HA, HK2, HO_346000, HO_346001, BK345, HI322, HB⟩ := hrel
          cases gk with
          | zero => exact absurd HA.out (by simp [winklelaw10_SixbitsSteps.l1])
          | succ k2 =>
            have H := HA.out
            clear HA
            simp only [winklelaw10_SixbitsSteps.l1] at H
            by_cases c18 : x9_2 < (l0.length : Int)
            · rw [if_pos c18] at H
              have c18b0 : decide (x9_2 < (l0.length : Int)) = true := decide_eq_true c18
              clear c18
              by_cases c19 : 0 ≤ x9_2
              · rw [if_pos c19] at H
                have c19b0 : decide (0 ≤ x9_2) = true := decide_eq_true c19
                clear c19
                replace H := Option.bind_eq_some_iff.mp H
                obtain ⟨⟨t347, t348, t349, t350, t351, t352, t353, t354⟩, A200, H⟩ := H
                replace H : (if x8_2 < (t337.length : Int) then (if 0 ≤ x8_2 then (if x8_2 < (t340.length : Int) then (winklelaw10_SixbitsSteps.j2 k2 l0 x8_2 x9_2 t347 t348 t349 ((rd t340 x8_2) == x9_2) t350 t351 t352 t353 t354 t337 t340 t343 t344) else (none)) else (none)) else (winklelaw10_SixbitsSteps.j2 k2 l0 x8_2 x9_2 t347 t348 t349 false t350 t351 t352 t353 t354 t337 t340 t343 t344)) = some r := H
                have A20 := Aside0.mk A200
                clear A200
                have HC21 := Aside0.mk H
                clear H
                have p346 : 0 ≤ (x9_2 : Int) := of_decide_eq_true (by first | (with_reducible assumption) | assumption)
                have q346 : x9_2 < (l0.length : Int) := of_decide_eq_true (by first | (with_reducible assumption) | assumption)
                obtain ⟨ad346, e346, hx346_0⟩ := Kd.at_int HR0.out x9_2 p346 q346
                cases e346
                replace hx346_0 := (HB.out.cell (World.block_lt_of_cell? w _ hx346_0)).trans hx346_0
                replace p346 := eq_true p346
                replace q346 := eq_true q346
                go_upto_region 15 with (first | ((with_reducible refine gate_callee (f := 17) rfl ?_); refine goesL_ (some 49) rfl rfl Try.func17 (by kernel_rfl) rfl #[.pointer (some ⟨g322, 0, none⟩), .int .u8 (rd l0 x9_2)] rfl (by (try simp only [List.map_toArray, List.map_cons, List.map_nil]); first | done | rfl | (simp only [List.length_drop, List.length_take]; rfl)) ?_; (with_reducible refine (sixbits_Decoder_Put.calls k2 g322 x323000_2 x323001_2 x323002_2 x323003_2 x323004_2 (rd l0 x9_2) t347 t348 t349 t350 t351 t352 t353 t354 w _ ?side1 ?side2 A20.out).mono ?_); (case side1 => repeat (first | (with_reducible first | exact HI322.out | apply IsS50.alloc | apply IsS50.drewN | apply IsS50.drew | apply IsS50.set_0 | apply IsS50.set_1 | apply IsS50.set_2 | apply IsS50.set_3 | apply IsS50.set_4 | refine IsS50.far ?_ NB322_345.out _) | exact HI322.out)); (case side2 => repeat (first | (with_reducible first | exact HB.out | apply below_alloc | apply pw_below_drewN | apply below_drew1 | refine below_set ?_ (IsS50.ge HI322.out) | refine below_set ?_ GE345.out) | exact HB.out)); rintro e w22 ⟨rfl, hi, hb, hk⟩; refine ⟨_, rfl, ?_⟩; have n0_ := Aside0.mk (Kd.R_mono (Kd.R_keep (IsS50.apart (show IsS50 w _ g322 x323000_2 x323001_2 x323002_2 x323003_2 x323004_2 from by repeat (first | (with_reducible first | exact HI322.out | apply IsS50.alloc | apply IsS50.drewN | apply IsS50.drew | apply IsS50.set_0 | apply IsS50.set_1 | apply IsS50.set_2 | apply IsS50.set_3 | apply IsS50.set_4 | refine IsS50.far ?_ NB322_345.out _) | exact HI322.out)) (by (with_reducible repeat (first | apply Kd.R_alloc | apply Kd.R_drewN | apply Kd.R_drew)); exact HO_346000.out) (by decide)) hk (fun _ h => h.2)) (fun _ h => h.1)); have n1_ := Aside0.mk (Kd.R_mono (Kd.R_keep (IsS50.apart (show IsS50 w _ g322 x323000_2 x323001_2 x323002_2 x323003_2 x323004_2 from by repeat (first | (with_reducible first | exact HI322.out | apply IsS50.alloc | apply IsS50.drewN | apply IsS50.drew | apply IsS50.set_0 | apply IsS50.set_1 | apply IsS50.set_2 | apply IsS50.set_3 | apply IsS50.set_4 | refine IsS50.far ?_ NB322_345.out _) | exact HI322.out)) (by (with_reducible repeat (first | apply Kd.R_alloc | apply Kd.R_drewN | apply Kd.R_drew)); exact HO_346001.out) (by decide)) hk (fun _ h => h.2)) (fun _ h => h.1)); have n2_ := Aside0.mk (KeepBut.blk hk (g' := gb345) (o := .cells #[.slice Ao14 t337.length co14, .slice Ao17 t340.length co17, .int .i64 t343, .int .i64 t344] 28 (0, 0)) (by (with_reducible repeat (first | refine blk_drewN ?_ _ | refine blk_drew ?_ | refine blk_alloc ?_ _)); exact BK345.out) NB345_322.out (by simp)); have n3_ := Aside0.mk (hb); have n4_ := Aside0.mk (hi); clear HO_346000; clear HO_346001; clear BK345; clear HB; clear HI322; have HO_346000 := n0_; have HO_346001 := n1_; have BK345 := n2_; have HB := n3_; have HI322 := n4_; clear n0_ n1_ n2_ n3_ n4_; (try clear hb); (try clear hb2); (try clear hk); (try clear hi)))
                (try simp only [Act.put, List.setIfInBounds_toArray, List.set_cons_zero, List.set_cons_succ])
                go_cut [13] (fun v13 wc => ∃ (kq : Nat) (x13_20 : Bool), v13 = .bool x13_20 ∧ Aside0 (winklelaw10_SixbitsSteps.j2 kq l0 x8_2 x9_2 t347 t348 t349 x13_20 t350 t351 t352 t353 t354 t337 t340 t343 t344 = some r) ∧ Aside0 (kq ≤ k2) ∧ Aside0 (Kd.R (Kd.int .u8) 5 wc w.heap.size (fun _ => True) (.slice Ao14 t337.length co14) t337) ∧ Aside0 (Kd.R (Kd.int .i64) 3 wc w.heap.size (fun _ => True) (.slice Ao17 t340.length co17) t340) ∧ Aside0 (wc.heap[gb345]? = some (.cells #[(.slice Ao14 t337.length co14), (.slice Ao17 t340.length co17), .int .i64 t343, .int .i64 t344] 28 (0, 0))) ∧ Aside0 (IsS50 w wc g322 t350 t351 t352 t353 t354) ∧ Aside0 (Below w.heap.size w wc))
                case first =>
                  have H := HC21.out
                  clear HC21
                  by_cases c23 : x8_2 < (t337.length : Int)
                  · rw [if_pos c23] at H
                    have c23b0 : decide (x8_2 < (t337.length : Int)) = true := decide_eq_true c23
                    clear c23
                    (first | rw [c23b0] | (simp only [i64_w, i32_w]; rw [c23b0]) | skip)
                    by_cases c24 : 0 ≤ x8_2
                    · rw [if_pos c24] at H
                      have c24b0 : decide (0 ≤ x8_2) = true := decide_eq_true c24
                      clear c24
                      by_cases c25 : x8_2 < (t340.length : Int)
                      · rw [if_pos c25] at H
                        have c25b0 : decide (x8_2 < (t340.length : Int)) = true := decide_eq_true c25
                        clear c25
                        have H' := Aside0.mk H
                        clear H
                        have hnb26 := NB345_322.out
                        have hnc26 := NB322_345.out
                        have hcz27_0 : w22.cell? ⟨gb345, 0, none⟩ = some (.slice Ao14 t337.length co14) := (blk_cell BK345.out 0).trans rfl
                        have hcz27_1 : w22.cell? ⟨gb345, 1, none⟩ = some (.slice Ao17 t340.length co17) := (blk_cell BK345.out 1).trans rfl
                        have hcz27_2 : w22.cell? ⟨gb345, 2, none⟩ = some (.int .i64 t343) := (blk_cell BK345.out 2).trans rfl
                        have hcz27_3 : w22.cell? ⟨gb345, 3, none⟩ = some (.int .i64 t344) := (blk_cell BK345.out 3).trans rfl
                        have hfz27_0 := blk_frozen BK345.out 0
                        have hfz27_1 := blk_frozen BK345.out 1
                        have hfz27_2 := blk_frozen BK345.out 2
                        have hfz27_3 := blk_frozen BK345.out 3
                        have p355 : 0 ≤ (x8_2 : Int) := of_decide_eq_true (by first | (with_reducible assumption) | assumption)
                        have q355 : x8_2 < (t340.length : Int) := of_decide_eq_true (by first | (with_reducible assumption) | assumption)
                        obtain ⟨ad355, e355, hx355_0⟩ := Kd.at_int (Kd.R_reads' HO_346001.out).2.2 x8_2 p355 q355
                        cases e355
                        replace p355 := eq_true p355
                        replace q355 := eq_true q355
                        go_wp2
                        go_meet
                        case rel => exact ⟨_, (((rd t340 x8_2) == x9_2)), (by first | rfl | (simp; done) | (simp [*]; done)), H', ⟨by have := HK1.out; have := HK2.out; first | omega | exact Nat.le_refl _⟩, ⟨by (with_reducible repeat (first | apply Kd.R_alloc | apply Kd.R_drewN | apply Kd.R_drew)); exact HO_346000.out⟩, ⟨by (with_reducible repeat (first | apply Kd.R_alloc | apply Kd.R_drewN | apply Kd.R_drew)); exact HO_346001.out⟩, ⟨by (with_reducible repeat (first | refine blk_drewN ?_ _ | refine blk_drew ?_ | refine blk_alloc ?_ _)); exact BK345.out⟩, ⟨by repeat (first | (with_reducible first | exact HI322.out | apply IsS50.alloc | apply IsS50.drewN | apply IsS50.drew | apply IsS50.set_0 | apply IsS50.set_1 | apply IsS50.set_2 | apply IsS50.set_3 | apply IsS50.set_4 | refine IsS50.far ?_ NB322_345.out _) | exact HI322.out)⟩, ⟨by repeat (first | (with_reducible first | exact HB.out | apply below_alloc | apply pw_below_drewN | apply below_drew1 | refine below_set ?_ (IsS50.ge HI322.out) | refine below_set ?_ GE345.out) | exact HB.out)⟩⟩
                      · rw [if_neg c25] at H
                        exact absurd H (by simp)
                    · rw [if_neg c24] at H
                      exact absurd H (by simp)
                  · rw [if_neg c23] at H
                    have c23b0 : decide (x8_2 < (t337.length : Int)) = false := decide_eq_false c23
                    clear c23
                    (first | rw [c23b0] | (simp only [i64_w, i32_w]; rw [c23b0]) | skip)
                    have H' := Aside0.mk H
                    clear H
                    have hnb28 := NB345_322.out
                    have hnc28 := NB322_345.out
                    have hcz29_0 : w22.cell? ⟨gb345, 0, none⟩ = some (.slice Ao14 t337.length co14) := (blk_cell BK345.out 0).trans rfl
                    have hcz29_1 : w22.cell? ⟨gb345, 1, none⟩ = some (.slice Ao17 t340.length co17) := (blk_cell BK345.out 1).trans rfl
                    have hcz29_2 : w22.cell? ⟨gb345, 2, none⟩ = some (.int .i64 t343) := (blk_cell BK345.out 2).trans rfl
                    have hcz29_3 : w22.cell? ⟨gb345, 3, none⟩ = some (.int .i64 t344) := (blk_cell BK345.out 3).trans rfl
                    have hfz29_0 := blk_frozen BK345.out 0
                    have hfz29_1 := blk_frozen BK345.out 1
                    have hfz29_2 := blk_frozen BK345.out 2
                    have hfz29_3 := blk_frozen BK345.out 3
                    go_wp2
                    go_meet
                    case rel => exact ⟨_, (false), (by first | rfl | (simp; done) | (simp [*]; done)), H', ⟨by have := HK1.out; have := HK2.out; first | omega | exact Nat.le_refl _⟩, ⟨by (with_reducible repeat (first | apply Kd.R_alloc | apply Kd.R_drewN | apply Kd.R_drew)); exact HO_346000.out⟩, ⟨by (with_reducible repeat (first | apply Kd.R_alloc | apply Kd.R_drewN | apply Kd.R_drew)); exact HO_346001.out⟩, ⟨by (with_reducible repeat (first | refine blk_drewN ?_ _ | refine blk_drew ?_ | refine blk_alloc ?_ _)); exact BK345.out⟩, ⟨by repeat (first | (with_reducible first | exact HI322.out | apply IsS50.alloc | apply IsS50.drewN | apply IsS50.drew | apply IsS50.set_0 | apply IsS50.set_1 | apply IsS50.set_2 | apply IsS50.set_3 | apply IsS50.set_4 | refine IsS50.far ?_ NB322_345.out _) | exact HI322.out)⟩, ⟨by repeat (first | (with_reducible first | exact HB.out | apply below_alloc | apply pw_below_drewN | apply below_drew1 | refine below_set ?_ (IsS50.ge HI322.out) | refine below_set ?_ GE345.out) | exact HB.out)⟩⟩
                case rest =>
                  clear HC21
                  try clear c1
                  try clear c2
                  try clear p2
                  try clear p3
                  try clear q3
                  try clear hx3
                  try clear c5
                  try clear c5b0
                  try clear c6
                  try clear c6b0
                  try clear p6
                  try clear c8
                  try clear c11
                  try clear c15
                  try clear c16
                  try clear c17
                  try clear c18
                  try clear c18b0
                  try clear c19
                  try clear c19b0
                  try clear c23
                  try clear c23b0
                  try clear c24
                  try clear c24b0
                  try clear c25
                  try clear c25b0
                  try clear c26
                  try clear c28
                  try clear hcz16_0
                  try clear hcz16_1
                  try clear hcz16_2
                  try clear hcz16_3
                  try clear hcz27_0
                  try clear hcz27_1
                  try clear hcz27_2
                  try clear hcz27_3
                  try clear hcz29_0
                  try clear hcz29_1
                  try clear hcz29_2
                  try clear hcz29_3
                  try clear hfz16_0
                  try clear hfz16_1
                  try clear hfz16_2
                  try clear hfz16_3
                  try clear hfz27_0
                  try clear hfz27_1
                  try clear hfz27_2
                  try clear hfz27_3
                  try clear hfz29_0
                  try clear hfz29_1
                  try clear hfz29_2
                  try clear hfz29_3
                  try clear hx323_0
                  try clear hx346_0
                  try clear hx355_0
                  try clear p2
                  try clear p3
                  try clear p323
                  try clear p346
                  try clear p355
                  try clear p6
                  try clear q3
                  try clear q323
                  try clear q346
                  try clear q355
                  obtain ⟨kq, x13_20, rfl, HA, HJ20, HO_346000, HO_346001, BK345, HI322, HB⟩ := hcut
                  cases kq with
                  | zero => exact absurd HA.out (by simp [winklelaw10_SixbitsSteps.j2])
                  | succ kj20 =>
                    have H := HA.out
                    clear HA
                    simp only [winklelaw10_SixbitsSteps.j2] at H
                    have HC30 := Aside0.mk H
                    clear H
                    go_upto_region 16 with (fail)
                    go_cut [89] (fun v89 wc => ∃ (kq : Nat) (x89_29 : Bool), v89 = .bool x89_29 ∧ Aside0 (winklelaw10_SixbitsSteps.j3 kq l0 x8_2 x9_2 t348 t349 x89_29 t350 t351 t352 t353 t354 t337 t340 t343 t344 = some r) ∧ Aside0 (kq ≤ kj20) ∧ Aside0 (Kd.R (Kd.int .u8) 5 wc w.heap.size (fun _ => True) (.slice Ao14 t337.length co14) t337) ∧ Aside0 (Kd.R (Kd.int .i64) 3 wc w.heap.size (fun _ => True) (.slice Ao17 t340.length co17) t340) ∧ Aside0 (wc.heap[gb345]? = some (.cells #[(.slice Ao14 t337.length co14), (.slice Ao17 t340.length co17), .int .i64 t343, .int .i64 t344] 28 (0, 0))) ∧ Aside0 (IsS50 w wc g322 t350 t351 t352 t353 t354) ∧ Aside0 (Below w.heap.size w wc))
                    case first =>
                      have H := HC30.out
                      clear HC30
                      by_cases c31 : (t348 != x13_20) = true
                      · rw [if_pos c31] at H
                        have c31b0 : (t348 != x13_20) = true := c31
                        (try (have c31b1 : decide (t348 = x13_20) = false := by simpa using c31))
                        (try (have c31b2 : (t348 == x13_20) = false := by simpa using c31))
                        (try (have c31b3 : ¬ (t348 = x13_20) := by simpa using c31))
                        clear c31
                        (first | rw [c31b0] | (simp only [i64_w, i32_w]; rw [c31b0]) | skip)
                        have H' := Aside0.mk H
                        clear H
                        go_wp2
                        go_meet
                        case rel => exact ⟨_, (true), (by first | rfl | (simp; done) | (simp [*]; done)), H', ⟨by have := HK1.out; have := HK2.out; have := HJ20.out; first | omega | exact Nat.le_refl _⟩, ⟨by (with_reducible repeat (first | apply Kd.R_alloc | apply Kd.R_drewN | apply Kd.R_drew)); exact HO_346000.out⟩, ⟨by (with_reducible repeat (first | apply Kd.R_alloc | apply Kd.R_drewN | apply Kd.R_drew)); exact HO_346001.out⟩, ⟨by (with_reducible repeat (first | refine blk_drewN ?_ _ | refine blk_drew ?_ | refine blk_alloc ?_ _)); exact BK345.out⟩, ⟨by repeat (first | (with_reducible first | exact HI322.out | apply IsS50.alloc | apply IsS50.drewN | apply IsS50.drew | apply IsS50.set_0 | apply IsS50.set_1 | apply IsS50.set_2 | apply IsS50.set_3 | apply IsS50.set_4 | refine IsS50.far ?_ NB322_345.out _) | exact HI322.out)⟩, ⟨by repeat (first | (with_reducible first | exact HB.out | apply below_alloc | apply pw_below_drewN | apply below_drew1 | refine below_set ?_ (IsS50.ge HI322.out) | refine below_set ?_ GE345.out) | exact HB.out)⟩⟩
                      · rw [if_neg c31] at H
                        have c31b0 : (t348 != x13_20) = false := by simpa using c31
                        (try (have c31b1 : decide (t348 = x13_20) = true := by simpa using c31))
                        (try (have c31b2 : (t348 == x13_20) = true := by simpa using c31))
                        clear c31
                        (first | rw [c31b0] | (simp only [i64_w, i32_w]; rw [c31b0]) | skip)
                        by_cases c32 : t348 = true
                        · subst c32
                          have H1 : (if 0 ≤ x8_2 then (if x8_2 < (t337.length : Int) then (if t347 = (rd t337 x8_2) then (winklelaw10_SixbitsSteps.j3 kj20 l0 x8_2 x9_2 true t349 false t350 t351 t352 t353 t354 t337 t340 t343 t344) else (winklelaw10_SixbitsSteps.j3 kj20 l0 x8_2 x9_2 true t349 true t350 t351 t352 t353 t354 t337 t340 t343 t344)) else (none)) else (none)) = some r := by rw [if_pos rfl] at H; exact H
                          clear H
                          have H := H1
                          clear H1
                          by_cases c33 : 0 ≤ x8_2
                          · rw [if_pos c33] at H
                            have c33b0 : decide (0 ≤ x8_2) = true := decide_eq_true c33
                            clear c33
                            by_cases c34 : x8_2 < (t337.length : Int)
                            · rw [if_pos c34] at H
                              have c34b0 : decide (x8_2 < (t337.length : Int)) = true := decide_eq_true c34
                              clear c34
                              by_cases c35 : t347 = (rd t337 x8_2)
                              · rw [if_pos c35] at H
                                have c35b0 : (t347 == (rd t337 x8_2)) = true := beq_iff_eq.mpr c35
                                have c35b1 : (t347 != (rd t337 x8_2)) = false := bne_eq_false_iff_eq.mpr c35
                                clear c35
                                have H' := Aside0.mk H
                                clear H
                                have hnb36 := NB345_322.out
                                have hnc36 := NB322_345.out
                                have hcz37_0 : wc.cell? ⟨gb345, 0, none⟩ = some (.slice Ao14 t337.length co14) := (blk_cell BK345.out 0).trans rfl
                                have hcz37_1 : wc.cell? ⟨gb345, 1, none⟩ = some (.slice Ao17 t340.length co17) := (blk_cell BK345.out 1).trans rfl
                                have hcz37_2 : wc.cell? ⟨gb345, 2, none⟩ = some (.int .i64 t343) := (blk_cell BK345.out 2).trans rfl
                                have hcz37_3 : wc.cell? ⟨gb345, 3, none⟩ = some (.int .i64 t344) := (blk_cell BK345.out 3).trans rfl
                                have hfz37_0 := blk_frozen BK345.out 0
                                have hfz37_1 := blk_frozen BK345.out 1
                                have hfz37_2 := blk_frozen BK345.out 2
                                have hfz37_3 := blk_frozen BK345.out 3
                                have p356 : 0 ≤ (x8_2 : Int) := of_decide_eq_true (by first | (with_reducible assumption) | assumption)
                                have q356 : x8_2 < (t337.length : Int) := of_decide_eq_true (by first | (with_reducible assumption) | assumption)
                                obtain ⟨ad356, e356, hx356_0⟩ := Kd.at_int (Kd.R_reads' HO_346000.out).2.2 x8_2 p356 q356
                                cases e356
                                replace p356 := eq_true p356
                                replace q356 := eq_true q356
                                go_wp2
                                go_meet
                                case rel => exact ⟨_, (false), (by first | rfl | (simp; done) | (simp [*]; done)), H', ⟨by have := HK1.out; have := HK2.out; have := HJ20.out; first | omega | exact Nat.le_refl _⟩, ⟨by (with_reducible repeat (first | apply Kd.R_alloc | apply Kd.R_drewN | apply Kd.R_drew)); exact HO_346000.out⟩, ⟨by (with_reducible repeat (first | apply Kd.R_alloc | apply Kd.R_drewN | apply Kd.R_drew)); exact HO_346001.out⟩, ⟨by (with_reducible repeat (first | refine blk_drewN ?_ _ | refine blk_drew ?_ | refine blk_alloc ?_ _)); exact BK345.out⟩, ⟨by repeat (first | (with_reducible first | exact HI322.out | apply IsS50.alloc | apply IsS50.drewN | apply IsS50.drew | apply IsS50.set_0 | apply IsS50.set_1 | apply IsS50.set_2 | apply IsS50.set_3 | apply IsS50.set_4 | refine IsS50.far ?_ NB322_345.out _) | exact HI322.out)⟩, ⟨by repeat (first | (with_reducible first | exact HB.out | apply below_alloc | apply pw_below_drewN | apply below_drew1 | refine below_set ?_ (IsS50.ge HI322.out) | refine below_set ?_ GE345.out) | exact HB.out)⟩⟩
                              · rw [if_neg c35] at H
                                have c35b0 : (t347 == (rd t337 x8_2)) = false := beq_eq_false_iff_ne.mpr c35
                                have c35b1 : (t347 != (rd t337 x8_2)) = true := bne_iff_ne.mpr c35
                                have H' := Aside0.mk H
                                clear H
                                have hnb38 := NB345_322.out
                                have hnc38 := NB322_345.out
                                have hcz39_0 : wc.cell? ⟨gb345, 0, none⟩ = some (.slice Ao14 t337.length co14) := (blk_cell BK345.out 0).trans rfl
                                have hcz39_1 : wc.cell? ⟨gb345, 1, none⟩ = some (.slice Ao17 t340.length co17) := (blk_cell BK345.out 1).trans rfl
                                have hcz39_2 : wc.cell? ⟨gb345, 2, none⟩ = some (.int .i64 t343) := (blk_cell BK345.out 2).trans rfl
                                have hcz39_3 : wc.cell? ⟨gb345, 3, none⟩ = some (.int .i64 t344) := (blk_cell BK345.out 3).trans rfl
                                have hfz39_0 := blk_frozen BK345.out 0
                                have hfz39_1 := blk_frozen BK345.out 1
                                have hfz39_2 := blk_frozen BK345.out 2
                                have hfz39_3 := blk_frozen BK345.out 3
                                have p356 : 0 ≤ (x8_2 : Int) := of_decide_eq_true (by first | (with_reducible assumption) | assumption)
                                have q356 : x8_2 < (t337.length : Int) := of_decide_eq_true (by first | (with_reducible assumption) | assumption)
                                obtain ⟨ad356, e356, hx356_0⟩ := Kd.at_int (Kd.R_reads' HO_346000.out).2.2 x8_2 p356 q356
                                cases e356
                                replace p356 := eq_true p356
                                replace q356 := eq_true q356
                                go_wp2
                                go_meet
                                case rel => exact ⟨_, (true), (by first | rfl | (simp; done) | (simp [*]; done)), H', ⟨by have := HK1.out; have := HK2.out; have := HJ20.out; first | omega | exact Nat.le_refl _⟩, ⟨by (with_reducible repeat (first | apply Kd.R_alloc | apply Kd.R_drewN | apply Kd.R_drew)); exact HO_346000.out⟩, ⟨by (with_reducible repeat (first | apply Kd.R_alloc | apply Kd.R_drewN | apply Kd.R_drew)); exact HO_346001.out⟩, ⟨by (with_reducible repeat (first | refine blk_drewN ?_ _ | refine blk_drew ?_ | refine blk_alloc ?_ _)); exact BK345.out⟩, ⟨by repeat (first | (with_reducible first | exact HI322.out | apply IsS50.alloc | apply IsS50.drewN | apply IsS50.drew | apply IsS50.set_0 | apply IsS50.set_1 | apply IsS50.set_2 | apply IsS50.set_3 | apply IsS50.set_4 | refine IsS50.far ?_ NB322_345.out _) | exact HI322.out)⟩, ⟨by repeat (first | (with_reducible first | exact HB.out | apply below_alloc | apply pw_below_drewN | apply below_drew1 | refine below_set ?_ (IsS50.ge HI322.out) | refine below_set ?_ GE345.out) | exact HB.out)⟩⟩
                            · rw [if_neg c34] at H
                              exact absurd H (by simp)
                          · rw [if_neg c33] at H
                            exact absurd H (by simp)
                        · replace c32 := Bool.eq_false_iff.mpr c32
                          subst c32
                          have H1 : (winklelaw10_SixbitsSteps.j3 kj20 l0 x8_2 x9_2 false t349 (t347 != 0) t350 t351 t352 t353 t354 t337 t340 t343 t344) = some r := by rw [if_neg (show ¬ (false = true) by decide)] at H; exact H
                          clear H
                          have H := H1
                          clear H1
                          have H' := Aside0.mk H
                          clear H
                          go_wp2
                          go_meet
                          case rel => exact ⟨_, ((t347 != 0)), (by first | rfl | (simp; done) | (simp [*]; done)), H', ⟨by have := HK1.out; have := HK2.out; have := HJ20.out; first | omega | exact Nat.le_refl _⟩, ⟨by (with_reducible repeat (first | apply Kd.R_alloc | apply Kd.R_drewN | apply Kd.R_drew)); exact HO_346000.out⟩, ⟨by (with_reducible repeat (first | apply Kd.R_alloc | apply Kd.R_drewN | apply Kd.R_drew)); exact HO_346001.out⟩, ⟨by (with_reducible repeat (first | refine blk_drewN ?_ _ | refine blk_drew ?_ | refine blk_alloc ?_ _)); exact BK345.out⟩, ⟨by repeat (first | (with_reducible first | exact HI322.out | apply IsS50.alloc | apply IsS50.drewN | apply IsS50.drew | apply IsS50.set_0 | apply IsS50.set_1 | apply IsS50.set_2 | apply IsS50.set_3 | apply IsS50.set_4 | refine IsS50.far ?_ NB322_345.out _) | exact HI322.out)⟩, ⟨by repeat (first | (with_reducible first | exact HB.out | apply below_alloc | apply pw_below_drewN | apply below_drew1 | refine below_set ?_ (IsS50.ge HI322.out) | refine below_set ?_ GE345.out) | exact HB.out)⟩⟩
                    case rest =>
                      clear HC30
                      try clear c1
                      try clear c2
                      try clear p2
                      try clear c3
                      try clear p3
                      try clear q3
                      try clear hx3
                      try clear c5
                      try clear c5b0
                      try clear c6
                      try clear c6b0
                      try clear p6
                      try clear c8
                      try clear c11
                      try clear c15
                      try clear c16
                      try clear c17
                      try clear c18
                      try clear c18b0
                      try clear c19
                      try clear c19b0
                      try clear c23
                      try clear c23b0
                      try clear c24
                      try clear c24b0
                      try clear c25
                      try clear c25b0
                      try clear c26
                      try clear c28
                      try clear c31
                      try clear c31b0
                      try clear c31b1
                      try clear c31b2
                      try clear c32
                      try clear p32
                      try clear q32
                      try clear hx32
                      try clear c33
                      try clear c33b0
                      try clear c34
                      try clear c34b0
                      try clear p34
                      try clear q34
                      try clear hx34
                      try clear c35
                      try clear c35b0
                      try clear c35b1
                      try clear p35
                      try clear q35
                      try clear hx35
                      try clear c36
                      try clear c38
                      try clear hcz16_0
                      try clear hcz16_1
                      try clear hcz16_2
                      try clear hcz16_3
                      try clear hcz27_0
                      try clear hcz27_1
                      try clear hcz27_2
                      try clear hcz27_3
                      try clear hcz29_0
                      try clear hcz29_1
                      try clear hcz29_2
                      try clear hcz29_3
                      try clear hcz37_0
                      try clear hcz37_1
                      try clear hcz37_2
                      try clear hcz37_3
                      try clear hcz39_0
                      try clear hcz39_1
                      try clear hcz39_2
                      try clear hcz39_3
                      try clear hfz16_0
                      try clear hfz16_1
                      try clear hfz16_2
                      try clear hfz16_3
                      try clear hfz27_0
                      try clear hfz27_1
                      try clear hfz27_2
                      try clear hfz27_3
                      try clear hfz29_0
                      try clear hfz29_1
                      try clear hfz29_2
                      try clear hfz29_3
                      try clear hfz37_0
                      try clear hfz37_1
                      try clear hfz37_2
                      try clear hfz37_3
                      try clear hfz39_0
                      try clear hfz39_1
                      try clear hfz39_2
                      try clear hfz39_3
                      try clear hx323_0
                      try clear hx346_0
                      try clear hx355_0
                      try clear hx356_0
                      try clear p2
                      try clear p3
                      try clear p323
                      try clear p346
                      try clear p355
                      try clear p356
                      try clear p6
                      try clear q3
                      try clear q323
                      try clear q346
                      try clear q355
                      try clear q356
                      obtain ⟨kq, x89_29, rfl, HA, HJ29, HO_346000, HO_346001, BK345, HI322, HB⟩ := hcut
                      cases kq with
                      | zero => exact absurd HA.out (by simp [winklelaw10_SixbitsSteps.j3])
                      | succ kj29 =>
                        have H := HA.out
                        clear HA
                        simp only [winklelaw10_SixbitsSteps.j3] at H
                        by_cases c40 : x89_29 = true
                        · subst c40
                          have H1 : (some false) = some r := by rw [if_pos rfl] at H; exact H
                          clear H
                          have H := H1
                          clear H1
                          obtain rfl := Option.some.inj H
                          go_wp2
                          go_ret
                          exact ⟨by first | rfl | (simp [errW_none, errW_some] <;> rfl) | (simp [*, errW_none, errW_some] <;> rfl), by repeat (first | (with_reducible first | exact HB.out | apply below_alloc | apply pw_below_drewN | apply below_drew1 | refine below_set ?_ (IsS50.ge HI322.out) | refine below_set ?_ GE345.out) | exact HB.out)⟩
                        · replace c40 := Bool.eq_false_iff.mpr c40
                          subst c40
                          have H1 : (if t348 = true then (if t343 = 0 then (if (false != (t349 != 0)) = true then (some false) else (winklelaw10_SixbitsSteps.l1 kj29 l0 (wrap64 (x8_2 + 1)) (wrap64 (x9_2 + 1)) t350 t351 t352 t353 t354 t337 t340 t343 t344)) else (if ((decide (t344 ≤ x9_2)) != (t349 != 0)) = true then (some false) else (if t344 ≤ x9_2 then (if t349 = t343 then (winklelaw10_SixbitsSteps.l1 kj29 l0 (wrap64 (x8_2 + 1)) (wrap64 (x9_2 + 1)) t350 t351 t352 t353 t354 t337 t340 t343 t344) else (some false)) else (winklelaw10_SixbitsSteps.l1 kj29 l0 (wrap64 (x8_2 + 1)) (wrap64 (x9_2 + 1)) t350 t351 t352 t353 t354 t337 t340 t343 t344)))) else (if t343 = 0 then (if (false != (t349 != 0)) = true then (some false) else (winklelaw10_SixbitsSteps.l1 kj29 l0 x8_2 (wrap64 (x9_2 + 1)) t350 t351 t352 t353 t354 t337 t340 t343 t344)) else (if ((decide (t344 ≤ x9_2)) != (t349 != 0)) = true then (some false) else (if t344 ≤ x9_2 then (if t349 = t343 then (winklelaw10_SixbitsSteps.l1 kj29 l0 x8_2 (wrap64 (x9_2 + 1)) t350 t351 t352 t353 t354 t337 t340 t343 t344) else (some false)) else (winklelaw10_SixbitsSteps.l1 kj29 l0 x8_2 (wrap64 (x9_2 + 1)) t350 t351 t352 t353 t354 t337 t340 t343 t344))))) = some r := by rw [if_neg (show ¬ (false = true) by decide)] at H; exact H
                          clear H
                          have H := H1
                          clear H1
                          by_cases c41 : t348 = true
                          · subst c41
                            have H1 : (if t343 = 0 then (if (false != (t349 != 0)) = true then (some false) else (winklelaw10_SixbitsSteps.l1 kj29 l0 (wrap64 (x8_2 + 1)) (wrap64 (x9_2 + 1)) t350 t351 t352 t353 t354 t337 t340 t343 t344)) else (if ((decide (t344 ≤ x9_2)) != (t349 != 0)) = true then (some false) else (if t344 ≤ x9_2 then (if t349 = t343 then (winklelaw10_SixbitsSteps.l1 kj29 l0 (wrap64 (x8_2 + 1)) (wrap64 (x9_2 + 1)) t350 t351 t352 t353 t354 t337 t340 t343 t344) else (some false)) else (winklelaw10_SixbitsSteps.l1 kj29 l0 (wrap64 (x8_2 + 1)) (wrap64 (x9_2 + 1)) t350 t351 t352 t353 t354 t337 t340 t343 t344)))) = some r := by rw [if_pos rfl] at H; exact H
                            clear H
                            have H := H1
                            clear H1
                            by_cases c42 : t343 = 0
                            · rw [if_pos c42] at H
                              have c42b0 : (t343 == 0) = true := beq_iff_eq.mpr c42
                              have c42b1 : (t343 != 0) = false := bne_eq_false_iff_eq.mpr c42
                              clear c42
                              by_cases c43 : (false != (t349 != 0)) = true
                              · rw [if_pos c43] at H
                                have c43b0 : (false != (t349 != 0)) = true := c43
                                (try (have c43b1 : decide (false = (t349 != 0)) = false := by simpa using c43))
                                (try (have c43b2 : (false == (t349 != 0)) = false := by simpa using c43))
                                (try (have c43b3 : ¬ (false = (t349 != 0)) := by simpa using c43))
                                clear c43
                                obtain rfl := Option.some.inj H
                                have hnb44 := NB345_322.out
                                have hnc44 := NB322_345.out
                                have hcz45_0 : wc.cell? ⟨gb345, 0, none⟩ = some (.slice Ao14 t337.length co14) := (blk_cell BK345.out 0).trans rfl
                                have hcz45_1 : wc.cell? ⟨gb345, 1, none⟩ = some (.slice Ao17 t340.length co17) := (blk_cell BK345.out 1).trans rfl
                                have hcz45_2 : wc.cell? ⟨gb345, 2, none⟩ = some (.int .i64 t343) := (blk_cell BK345.out 2).trans rfl
                                have hcz45_3 : wc.cell? ⟨gb345, 3, none⟩ = some (.int .i64 t344) := (blk_cell BK345.out 3).trans rfl
                                have hfz45_0 := blk_frozen BK345.out 0
                                have hfz45_1 := blk_frozen BK345.out 1
                                have hfz45_2 := blk_frozen BK345.out 2
                                have hfz45_3 := blk_frozen BK345.out 3
                                go_wp2
                                go_ret
                                exact ⟨by first | rfl | (simp [errW_none, errW_some] <;> rfl) | (simp [*, errW_none, errW_some] <;> rfl), by repeat (first | (with_reducible first | exact HB.out | apply below_alloc | apply pw_below_drewN | apply below_drew1 | refine below_set ?_ (IsS50.ge HI322.out) | refine below_set ?_ GE345.out) | exact HB.out)⟩
                              · rw [if_neg c43] at H
                                have c43b0 : (false != (t349 != 0)) = false := by simpa using c43
                                (try (have c43b1 : decide (false = (t349 != 0)) = true := by simpa using c43))
                                (try (have c43b2 : (false == (t349 != 0)) = true := by simpa using c43))
                                clear c43
                                have H' := Aside0.mk H
                                clear H
                                have hnb46 := NB345_322.out
                                have hnc46 := NB322_345.out
                                have hcz47_0 : wc.cell? ⟨gb345, 0, none⟩ = some (.slice Ao14 t337.length co14) := (blk_cell BK345.out 0).trans rfl
                                have hcz47_1 : wc.cell? ⟨gb345, 1, none⟩ = some (.slice Ao17 t340.length co17) := (blk_cell BK345.out 1).trans rfl
                                have hcz47_2 : wc.cell? ⟨gb345, 2, none⟩ = some (.int .i64 t343) := (blk_cell BK345.out 2).trans rfl
                                have hcz47_3 : wc.cell? ⟨gb345, 3, none⟩ = some (.int .i64 t344) := (blk_cell BK345.out 3).trans rfl
                                have hfz47_0 := blk_frozen BK345.out 0
                                have hfz47_1 := blk_frozen BK345.out 1
                                have hfz47_2 := blk_frozen BK345.out 2
                                have hfz47_3 := blk_frozen BK345.out 3
                                go_wp2
                                go_roundg kj29
                                case measure => have := HK1.out; have := HK2.out; have := HJ20.out; have := HJ29.out; omega
                                case rel => exact ⟨(wrap64 (x8_2 + 1)), (wrap64 (x9_2 + 1)), (t350), (t351), (t352), (t353), (t354), (by first | rfl | (simp; done) | (simp [*]; done)), (by first | rfl | (simp; done) | (simp [*]; done)), H', ⟨by have := HK1.out; have := HK2.out; have := HJ20.out; have := HJ29.out; omega⟩, ⟨by (with_reducible repeat (first | apply Kd.R_alloc | apply Kd.R_drewN | apply Kd.R_drew)); exact HO_346000.out⟩, ⟨by (with_reducible repeat (first | apply Kd.R_alloc | apply Kd.R_drewN | apply Kd.R_drew)); exact HO_346001.out⟩, ⟨by (with_reducible repeat (first | refine blk_drewN ?_ _ | refine blk_drew ?_ | refine blk_alloc ?_ _)); exact BK345.out⟩, ⟨by repeat (first | (with_reducible first | exact HI322.out | apply IsS50.alloc | apply IsS50.drewN | apply IsS50.drew | apply IsS50.set_0 | apply IsS50.set_1 | apply IsS50.set_2 | apply IsS50.set_3 | apply IsS50.set_4 | refine IsS50.far ?_ NB322_345.out _) | exact HI322.out)⟩, ⟨by repeat (first | (with_reducible first | exact HB.out | apply below_alloc | apply pw_below_drewN | apply below_drew1 | refine below_set ?_ (IsS50.ge HI322.out) | refine below_set ?_ GE345.out) | exact HB.out)⟩⟩
                            · rw [if_neg c42] at H
                              have c42b0 : (t343 == 0) = false := beq_eq_false_iff_ne.mpr c42
                              have c42b1 : (t343 != 0) = true := bne_iff_ne.mpr c42
                              by_cases c48 : ((decide (t344 ≤ x9_2)) != (t349 != 0)) = true
                              · rw [if_pos c48] at H
                                have c48b0 : ((decide (t344 ≤ x9_2)) != (t349 != 0)) = true := c48
                                (try (have c48b1 : decide ((decide (t344 ≤ x9_2)) = (t349 != 0)) = false := by simpa using c48))
                                (try (have c48b2 : ((decide (t344 ≤ x9_2)) == (t349 != 0)) = false := by simpa using c48))
                                (try (have c48b3 : ¬ ((decide (t344 ≤ x9_2)) = (t349 != 0)) := by simpa using c48))
                                clear c48
                                obtain rfl := Option.some.inj H
                                have hnb49 := NB345_322.out
                                have hnc49 := NB322_345.out
                                have hcz50_0 : wc.cell? ⟨gb345, 0, none⟩ = some (.slice Ao14 t337.length co14) := (blk_cell BK345.out 0).trans rfl
                                have hcz50_1 : wc.cell? ⟨gb345, 1, none⟩ = some (.slice Ao17 t340.length co17) := (blk_cell BK345.out 1).trans rfl
                                have hcz50_2 : wc.cell? ⟨gb345, 2, none⟩ = some (.int .i64 t343) := (blk_cell BK345.out 2).trans rfl
                                have hcz50_3 : wc.cell? ⟨gb345, 3, none⟩ = some (.int .i64 t344) := (blk_cell BK345.out 3).trans rfl
                                have hfz50_0 := blk_frozen BK345.out 0
                                have hfz50_1 := blk_frozen BK345.out 1
                                have hfz50_2 := blk_frozen BK345.out 2
                                have hfz50_3 := blk_frozen BK345.out 3
                                go_wp2
                                go_ret
                                exact ⟨by first | rfl | (simp [errW_none, errW_some] <;> rfl) | (simp [*, errW_none, errW_some] <;> rfl), by repeat (first | (with_reducible first | exact HB.out | apply below_alloc | apply pw_below_drewN | apply below_drew1 | refine below_set ?_ (IsS50.ge HI322.out) | refine below_set ?_ GE345.out) | exact HB.out)⟩
                              · rw [if_neg c48] at H
                                have c48b0 : ((decide (t344 ≤ x9_2)) != (t349 != 0)) = false := by simpa using c48
                                (try (have c48b1 : decide ((decide (t344 ≤ x9_2)) = (t349 != 0)) = true := by simpa using c48))
                                (try (have c48b2 : ((decide (t344 ≤ x9_2)) == (t349 != 0)) = true := by simpa using c48))
                                clear c48
                                by_cases c51 : t344 ≤ x9_2
                                · rw [if_pos c51] at H
                                  have c51b0 : decide (t344 ≤ x9_2) = true := decide_eq_true c51
                                  have c48z : (t349 != 0) = true := by have z_ := c48b0; rw [c51b0] at z_; simpa using z_
                                  have c48y : (t349 == 0) = false := by have z_ := c48z; simpa using z_
                                  clear c51
                                  by_cases c52 : t349 = t343
                                  · rw [if_pos c52] at H
                                    have c52b0 : (t349 == t343) = true := beq_iff_eq.mpr c52
                                    have c52b1 : (t349 != t343) = false := bne_eq_false_iff_eq.mpr c52
                                    clear c52
                                    have H' := Aside0.mk H
                                    clear H
                                    have hnb53 := NB345_322.out
                                    have hnc53 := NB322_345.out
                                    have hcz54_0 : wc.cell? ⟨gb345, 0, none⟩ = some (.slice Ao14 t337.length co14) := (blk_cell BK345.out 0).trans rfl
                                    have hcz54_1 : wc.cell? ⟨gb345, 1, none⟩ = some (.slice Ao17 t340.length co17) := (blk_cell BK345.out 1).trans rfl
                                    have hcz54_2 : wc.cell? ⟨gb345, 2, none⟩ = some (.int .i64 t343) := (blk_cell BK345.out 2).trans rfl
                                    have hcz54_3 : wc.cell? ⟨gb345, 3, none⟩ = some (.int .i64 t344) := (blk_cell BK345.out 3).trans rfl
                                    have hfz54_0 := blk_frozen BK345.out 0
                                    have hfz54_1 := blk_frozen BK345.out 1
                                    have hfz54_2 := blk_frozen BK345.out 2
                                    have hfz54_3 := blk_frozen BK345.out 3
                                    go_wp2
                                    go_roundg kj29
                                    case measure => have := HK1.out; have := HK2.out; have := HJ20.out; have := HJ29.out; omega
                                    case rel => exact ⟨(wrap64 (x8_2 + 1)), (wrap64 (x9_2 + 1)), (t350), (t351), (t352), (t353), (t354), (by first | rfl | (simp; done) | (simp [*]; done)), (by first | rfl | (simp; done) | (simp [*]; done)), H', ⟨by have := HK1.out; have := HK2.out; have := HJ20.out; have := HJ29.out; omega⟩, ⟨by (with_reducible repeat (first | apply Kd.R_alloc | apply Kd.R_drewN | apply Kd.R_drew)); exact HO_346000.out⟩, ⟨by (with_reducible repeat (first | apply Kd.R_alloc | apply Kd.R_drewN | apply Kd.R_drew)); exact HO_346001.out⟩, ⟨by (with_reducible repeat (first | refine blk_drewN ?_ _ | refine blk_drew ?_ | refine blk_alloc ?_ _)); exact BK345.out⟩, ⟨by repeat (first | (with_reducible first | exact HI322.out | apply IsS50.alloc | apply IsS50.drewN | apply IsS50.drew | apply IsS50.set_0 | apply IsS50.set_1 | apply IsS50.set_2 | apply IsS50.set_3 | apply IsS50.set_4 | refine IsS50.far ?_ NB322_345.out _) | exact HI322.out)⟩, ⟨by repeat (first | (with_reducible first | exact HB.out | apply below_alloc | apply pw_below_drewN | apply below_drew1 | refine below_set ?_ (IsS50.ge HI322.out) | refine below_set ?_ GE345.out) | exact HB.out)⟩⟩
                                  · rw [if_neg c52] at H
                                    have c52b0 : (t349 == t343) = false := beq_eq_false_iff_ne.mpr c52
                                    have c52b1 : (t349 != t343) = true := bne_iff_ne.mpr c52
                                    obtain rfl := Option.some.inj H
                                    have hnb55 := NB345_322.out
                                    have hnc55 := NB322_345.out
                                    have hcz56_0 : wc.cell? ⟨gb345, 0, none⟩ = some (.slice Ao14 t337.length co14) := (blk_cell BK345.out 0).trans rfl
                                    have hcz56_1 : wc.cell? ⟨gb345, 1, none⟩ = some (.slice Ao17 t340.length co17) := (blk_cell BK345.out 1).trans rfl
                                    have hcz56_2 : wc.cell? ⟨gb345, 2, none⟩ = some (.int .i64 t343) := (blk_cell BK345.out 2).trans rfl
                                    have hcz56_3 : wc.cell? ⟨gb345, 3, none⟩ = some (.int .i64 t344) := (blk_cell BK345.out 3).trans rfl
                                    have hfz56_0 := blk_frozen BK345.out 0
                                    have hfz56_1 := blk_frozen BK345.out 1
                                    have hfz56_2 := blk_frozen BK345.out 2
                                    have hfz56_3 := blk_frozen BK345.out 3
                                    go_wp2
                                    go_ret
                                    exact ⟨by first | rfl | (simp [errW_none, errW_some] <;> rfl) | (simp [*, errW_none, errW_some] <;> rfl), by repeat (first | (with_reducible first | exact HB.out | apply below_alloc | apply pw_below_drewN | apply below_drew1 | refine below_set ?_ (IsS50.ge HI322.out) | refine below_set ?_ GE345.out) | exact HB.out)⟩
                                · rw [if_neg c51] at H
                                  have c51b0 : decide (t344 ≤ x9_2) = false := decide_eq_false c51
                                  have c48z : (t349 != 0) = false := by have z_ := c48b0; rw [c51b0] at z_; simpa using z_
                                  have c48y : (t349 == 0) = true := by have z_ := c48z; simpa using z_
                                  clear c51
                                  have H' := Aside0.mk H
                                  clear H
                                  have hnb57 := NB345_322.out
                                  have hnc57 := NB322_345.out
                                  have hcz58_0 : wc.cell? ⟨gb345, 0, none⟩ = some (.slice Ao14 t337.length co14) := (blk_cell BK345.out 0).trans rfl
                                  have hcz58_1 : wc.cell? ⟨gb345, 1, none⟩ = some (.slice Ao17 t340.length co17) := (blk_cell BK345.out 1).trans rfl
                                  have hcz58_2 : wc.cell? ⟨gb345, 2, none⟩ = some (.int .i64 t343) := (blk_cell BK345.out 2).trans rfl
                                  have hcz58_3 : wc.cell? ⟨gb345, 3, none⟩ = some (.int .i64 t344) := (blk_cell BK345.out 3).trans rfl
                                  have hfz58_0 := blk_frozen BK345.out 0
                                  have hfz58_1 := blk_frozen BK345.out 1
                                  have hfz58_2 := blk_frozen BK345.out 2
                                  have hfz58_3 := blk_frozen BK345.out 3
                                  go_wp2
                                  go_roundg kj29
                                  case measure => have := HK1.out; have := HK2.out; have := HJ20.out; have := HJ29.out; omega
                                  case rel => exact ⟨(wrap64 (x8_2 + 1)), (wrap64 (x9_2 + 1)), (t350), (t351), (t352), (t353), (t354), (by first | rfl | (simp; done) | (simp [*]; done)), (by first | rfl | (simp; done) | (simp [*]; done)), H', ⟨by have := HK1.out; have := HK2.out; have := HJ20.out; have := HJ29.out; omega⟩, ⟨by (with_reducible repeat (first | apply Kd.R_alloc | apply Kd.R_drewN | apply Kd.R_drew)); exact HO_346000.out⟩, ⟨by (with_reducible repeat (first | apply Kd.R_alloc | apply Kd.R_drewN | apply Kd.R_drew)); exact HO_346001.out⟩, ⟨by (with_reducible repeat (first | refine blk_drewN ?_ _ | refine blk_drew ?_ | refine blk_alloc ?_ _)); exact BK345.out⟩, ⟨by repeat (first | (with_reducible first | exact HI322.out | apply IsS50.alloc | apply IsS50.drewN | apply IsS50.drew | apply IsS50.set_0 | apply IsS50.set_1 | apply IsS50.set_2 | apply IsS50.set_3 | apply IsS50.set_4 | refine IsS50.far ?_ NB322_345.out _) | exact HI322.out)⟩, ⟨by repeat (first | (with_reducible first | exact HB.out | apply below_alloc | apply pw_below_drewN | apply below_drew1 | refine below_set ?_ (IsS50.ge HI322.out) | refine below_set ?_ GE345.out) | exact HB.out)⟩⟩
                          · replace c41 := Bool.eq_false_iff.mpr c41
                            subst c41
                            have H1 : (if t343 = 0 then (if (false != (t349 != 0)) = true then (some false) else (winklelaw10_SixbitsSteps.l1 kj29 l0 x8_2 (wrap64 (x9_2 + 1)) t350 t351 t352 t353 t354 t337 t340 t343 t344)) else (if ((decide (t344 ≤ x9_2)) != (t349 != 0)) = true then (some false) else (if t344 ≤ x9_2 then (if t349 = t343 then (winklelaw10_SixbitsSteps.l1 kj29 l0 x8_2 (wrap64 (x9_2 + 1)) t350 t351 t352 t353 t354 t337 t340 t343 t344) else (some false)) else (winklelaw10_SixbitsSteps.l1 kj29 l0 x8_2 (wrap64 (x9_2 + 1)) t350 t351 t352 t353 t354 t337 t340 t343 t344)))) = some r := by rw [if_neg (show ¬ (false = true) by decide)] at H; exact H
                            clear H
                            have H := H1
                            clear H1
                            by_cases c59 : t343 = 0
                            · rw [if_pos c59] at H
                              have c59b0 : (t343 == 0) = true := beq_iff_eq.mpr c59
                              have c59b1 : (t343 != 0) = false := bne_eq_false_iff_eq.mpr c59
                              clear c59
                              by_cases c60 : (false != (t349 != 0)) = true
                              · rw [if_pos c60] at H
                                have c60b0 : (false != (t349 != 0)) = true := c60
                                (try (have c60b1 : decide (false = (t349 != 0)) = false := by simpa using c60))
                                (try (have c60b2 : (false == (t349 != 0)) = false := by simpa using c60))
                                (try (have c60b3 : ¬ (false = (t349 != 0)) := by simpa using c60))
                                clear c60
                                obtain rfl := Option.some.inj H
                                have hnb61 := NB345_322.out
                                have hnc61 := NB322_345.out
                                have hcz62_0 : wc.cell? ⟨gb345, 0, none⟩ = some (.slice Ao14 t337.length co14) := (blk_cell BK345.out 0).trans rfl
                                have hcz62_1 : wc.cell? ⟨gb345, 1, none⟩ = some (.slice Ao17 t340.length co17) := (blk_cell BK345.out 1).trans rfl
                                have hcz62_2 : wc.cell? ⟨gb345, 2, none⟩ = some (.int .i64 t343) := (blk_cell BK345.out 2).trans rfl
                                have hcz62_3 : wc.cell? ⟨gb345, 3, none⟩ = some (.int .i64 t344) := (blk_cell BK345.out 3).trans rfl
                                have hfz62_0 := blk_frozen BK345.out 0
                                have hfz62_1 := blk_frozen BK345.out 1
                                have hfz62_2 := blk_frozen BK345.out 2
                                have hfz62_3 := blk_frozen BK345.out 3
                                go_wp2
                                go_ret
                                exact ⟨by first | rfl | (simp [errW_none, errW_some] <;> rfl) | (simp [*, errW_none, errW_some] <;> rfl), by repeat (first | (with_reducible first | exact HB.out | apply below_alloc | apply pw_below_drewN | apply below_drew1 | refine below_set ?_ (IsS50.ge HI322.out) | refine below_set ?_ GE345.out) | exact HB.out)⟩
                              · rw [if_neg c60] at H
                                have c60b0 : (false != (t349 != 0)) = false := by simpa using c60
                                (try (have c60b1 : decide (false = (t349 != 0)) = true := by simpa using c60))
                                (try (have c60b2 : (false == (t349 != 0)) = true := by simpa using c60))
                                clear c60
                                have H' := Aside0.mk H
                                clear H
                                have hnb63 := NB345_322.out
                                have hnc63 := NB322_345.out
                                have hcz64_0 : wc.cell? ⟨gb345, 0, none⟩ = some (.slice Ao14 t337.length co14) := (blk_cell BK345.out 0).trans rfl
                                have hcz64_1 : wc.cell? ⟨gb345, 1, none⟩ = some (.slice Ao17 t340.length co17) := (blk_cell BK345.out 1).trans rfl
                                have hcz64_2 : wc.cell? ⟨gb345, 2, none⟩ = some (.int .i64 t343) := (blk_cell BK345.out 2).trans rfl
                                have hcz64_3 : wc.cell? ⟨gb345, 3, none⟩ = some (.int .i64 t344) := (blk_cell BK345.out 3).trans rfl
                                have hfz64_0 := blk_frozen BK345.out 0
                                have hfz64_1 := blk_frozen BK345.out 1
                                have hfz64_2 := blk_frozen BK345.out 2
                                have hfz64_3 := blk_frozen BK345.out 3
                                go_wp2
                                go_roundg kj29
                                case measure => have := HK1.out; have := HK2.out; have := HJ20.out; have := HJ29.out; omega
                                case rel => exact ⟨(x8_2), (wrap64 (x9_2 + 1)), (t350), (t351), (t352), (t353), (t354), (by first | rfl | (simp; done) | (simp [*]; done)), (by first | rfl | (simp; done) | (simp [*]; done)), H', ⟨by have := HK1.out; have := HK2.out; have := HJ20.out; have := HJ29.out; omega⟩, ⟨by (with_reducible repeat (first | apply Kd.R_alloc | apply Kd.R_drewN | apply Kd.R_drew)); exact HO_346000.out⟩, ⟨by (with_reducible repeat (first | apply Kd.R_alloc | apply Kd.R_drewN | apply Kd.R_drew)); exact HO_346001.out⟩, ⟨by (with_reducible repeat (first | refine blk_drewN ?_ _ | refine blk_drew ?_ | refine blk_alloc ?_ _)); exact BK345.out⟩, ⟨by repeat (first | (with_reducible first | exact HI322.out | apply IsS50.alloc | apply IsS50.drewN | apply IsS50.drew | apply IsS50.set_0 | apply IsS50.set_1 | apply IsS50.set_2 | apply IsS50.set_3 | apply IsS50.set_4 | refine IsS50.far ?_ NB322_345.out _) | exact HI322.out)⟩, ⟨by repeat (first | (with_reducible first | exact HB.out | apply below_alloc | apply pw_below_drewN | apply below_drew1 | refine below_set ?_ (IsS50.ge HI322.out) | refine below_set ?_ GE345.out) | exact HB.out)⟩⟩
                            · rw [if_neg c59] at H
                              have c59b0 : (t343 == 0) = false := beq_eq_false_iff_ne.mpr c59
                              have c59b1 : (t343 != 0) = true := bne_iff_ne.mpr c59
                              by_cases c65 : ((decide (t344 ≤ x9_2)) != (t349 != 0)) = true
                              · rw [if_pos c65] at H
                                have c65b0 : ((decide (t344 ≤ x9_2)) != (t349 != 0)) = true := c65
                                (try (have c65b1 : decide ((decide (t344 ≤ x9_2)) = (t349 != 0)) = false := by simpa using c65))
                                (try (have c65b2 : ((decide (t344 ≤ x9_2)) == (t349 != 0)) = false := by simpa using c65))
                                (try (have c65b3 : ¬ ((decide (t344 ≤ x9_2)) = (t349 != 0)) := by simpa using c65))
                                clear c65
                                obtain rfl := Option.some.inj H
                                have hnb66 := NB345_322.out
                                have hnc66 := NB322_345.out
                                have hcz67_0 : wc.cell? ⟨gb345, 0, none⟩ = some (.slice Ao14 t337.length co14) := (blk_cell BK345.out 0).trans rfl
                                have hcz67_1 : wc.cell? ⟨gb345, 1, none⟩ = some (.slice Ao17 t340.length co17) := (blk_cell BK345.out 1).trans rfl
                                have hcz67_2 : wc.cell? ⟨gb345, 2, none⟩ = some (.int .i64 t343) := (blk_cell BK345.out 2).trans rfl
                                have hcz67_3 : wc.cell? ⟨gb345, 3, none⟩ = some (.int .i64 t344) := (blk_cell BK345.out 3).trans rfl
                                have hfz67_0 := blk_frozen BK345.out 0
                                have hfz67_1 := blk_frozen BK345.out 1
                                have hfz67_2 := blk_frozen BK345.out 2
                                have hfz67_3 := blk_frozen BK345.out 3
                                go_wp2
                                go_ret
                                exact ⟨by first | rfl | (simp [errW_none, errW_some] <;> rfl) | (simp [*, errW_none, errW_some] <;> rfl), by repeat (first | (with_reducible first | exact HB.out | apply below_alloc | apply pw_below_drewN | apply below_drew1 | refine below_set ?_ (IsS50.ge HI322.out) | refine below_set ?_ GE345.out) | exact HB.out)⟩
                              · rw [if_neg c65] at H
                                have c65b0 : ((decide (t344 ≤ x9_2)) != (t349 != 0)) = false := by simpa using c65
                                (try (have c65b1 : decide ((decide (t344 ≤ x9_2)) = (t349 != 0)) = true := by simpa using c65))
                                (try (have c65b2 : ((decide (t344 ≤ x9_2)) == (t349 != 0)) = true := by simpa using c65))
                                clear c65
                                by_cases c68 : t344 ≤ x9_2
                                · rw [if_pos c68] at H
                                  have c68b0 : decide (t344 ≤ x9_2) = true := decide_eq_true c68
                                  have c65z : (t349 != 0) = true := by have z_ := c65b0; rw [c68b0] at z_; simpa using z_
                                  have c65y : (t349 == 0) = false := by have z_ := c65z; simpa using z_
                                  clear c68
                                  by_cases c69 : t349 = t343
                                  · rw [if_pos c69] at H
                                    have c69b0 : (t349 == t343) = true := beq_iff_eq.mpr c69
                                    have c69b1 : (t349 != t343) = false := bne_eq_false_iff_eq.mpr c69
                                    clear c69
                                    have H' := Aside0.mk H
                                    clear H
                                    have hnb70 := NB345_322.out
                                    have hnc70 := NB322_345.out
                                    have hcz71_0 : wc.cell? ⟨gb345, 0, none⟩ = some (.slice Ao14 t337.length co14) := (blk_cell BK345.out 0).trans rfl
                                    have hcz71_1 : wc.cell? ⟨gb345, 1, none⟩ = some (.slice Ao17 t340.length co17) := (blk_cell BK345.out 1).trans rfl
                                    have hcz71_2 : wc.cell? ⟨gb345, 2, none⟩ = some (.int .i64 t343) := (blk_cell BK345.out 2).trans rfl
                                    have hcz71_3 : wc.cell? ⟨gb345, 3, none⟩ = some (.int .i64 t344) := (blk_cell BK345.out 3).trans rfl
                                    have hfz71_0 := blk_frozen BK345.out 0
                                    have hfz71_1 := blk_frozen BK345.out 1
                                    have hfz71_2 := blk_frozen BK345.out 2
                                    have hfz71_3 := blk_frozen BK345.out 3
                                    go_wp2
                                    go_roundg kj29
                                    case measure => have := HK1.out; have := HK2.out; have := HJ20.out; have := HJ29.out; omega
                                    case rel => exact ⟨(x8_2), (wrap64 (x9_2 + 1)), (t350), (t351), (t352), (t353), (t354), (by first | rfl | (simp; done) | (simp [*]; done)), (by first | rfl | (simp; done) | (simp [*]; done)), H', ⟨by have := HK1.out; have := HK2.out; have := HJ20.out; have := HJ29.out; omega⟩, ⟨by (with_reducible repeat (first | apply Kd.R_alloc | apply Kd.R_drewN | apply Kd.R_drew)); exact HO_346000.out⟩, ⟨by (with_reducible repeat (first | apply Kd.R_alloc | apply Kd.R_drewN | apply Kd.R_drew)); exact HO_346001.out⟩, ⟨by (with_reducible repeat (first | refine blk_drewN ?_ _ | refine blk_drew ?_ | refine blk_alloc ?_ _)); exact BK345.out⟩, ⟨by repeat (first | (with_reducible first | exact HI322.out | apply IsS50.alloc | apply IsS50.drewN | apply IsS50.drew | apply IsS50.set_0 | apply IsS50.set_1 | apply IsS50.set_2 | apply IsS50.set_3 | apply IsS50.set_4 | refine IsS50.far ?_ NB322_345.out _) | exact HI322.out)⟩, ⟨by repeat (first | (with_reducible first | exact HB.out | apply below_alloc | apply pw_below_drewN | apply below_drew1 | refine below_set ?_ (IsS50.ge HI322.out) | refine below_set ?_ GE345.out) | exact HB.out)⟩⟩
                                  · rw [if_neg c69] at H
                                    have c69b0 : (t349 == t343) = false := beq_eq_false_iff_ne.mpr c69
                                    have c69b1 : (t349 != t343) = true := bne_iff_ne.mpr c69
                                    obtain rfl := Option.some.inj H
                                    have hnb72 := NB345_322.out
                                    have hnc72 := NB322_345.out
                                    have hcz73_0 : wc.cell? ⟨gb345, 0, none⟩ = some (.slice Ao14 t337.length co14) := (blk_cell BK345.out 0).trans rfl
                                    have hcz73_1 : wc.cell? ⟨gb345, 1, none⟩ = some (.slice Ao17 t340.length co17) := (blk_cell BK345.out 1).trans rfl
                                    have hcz73_2 : wc.cell? ⟨gb345, 2, none⟩ = some (.int .i64 t343) := (blk_cell BK345.out 2).trans rfl
                                    have hcz73_3 : wc.cell? ⟨gb345, 3, none⟩ = some (.int .i64 t344) := (blk_cell BK345.out 3).trans rfl
                                    have hfz73_0 := blk_frozen BK345.out 0
                                    have hfz73_1 := blk_frozen BK345.out 1
                                    have hfz73_2 := blk_frozen BK345.out 2
                                    have hfz73_3 := blk_frozen BK345.out 3
                                    go_wp2
                                    go_ret
                                    exact ⟨by first | rfl | (simp [errW_none, errW_some] <;> rfl) | (simp [*, errW_none, errW_some] <;> rfl), by repeat (first | (with_reducible first | exact HB.out | apply below_alloc | apply pw_below_drewN | apply below_drew1 | refine below_set ?_ (IsS50.ge HI322.out) | refine below_set ?_ GE345.out) | exact HB.out)⟩
                                · rw [if_neg c68] at H
                                  have c68b0 : decide (t344 ≤ x9_2) = false := decide_eq_false c68
                                  have c65z : (t349 != 0) = false := by have z_ := c65b0; rw [c68b0] at z_; simpa using z_
                                  have c65y : (t349 == 0) = true := by have z_ := c65z; simpa using z_
                                  clear c68
                                  have H' := Aside0.mk H
                                  clear H
                                  have hnb74 := NB345_322.out
                                  have hnc74 := NB322_345.out
                                  have hcz75_0 : wc.cell? ⟨gb345, 0, none⟩ = some (.slice Ao14 t337.length co14) := (blk_cell BK345.out 0).trans rfl
                                  have hcz75_1 : wc.cell? ⟨gb345, 1, none⟩ = some (.slice Ao17 t340.length co17) := (blk_cell BK345.out 1).trans rfl
                                  have hcz75_2 : wc.cell? ⟨gb345, 2, none⟩ = some (.int .i64 t343) := (blk_cell BK345.out 2).trans rfl
                                  have hcz75_3 : wc.cell? ⟨gb345, 3, none⟩ = some (.int .i64 t344) := (blk_cell BK345.out 3).trans rfl
                                  have hfz75_0 := blk_frozen BK345.out 0
                                  have hfz75_1 := blk_frozen BK345.out 1
                                  have hfz75_2 := blk_frozen BK345.out 2
                                  have hfz75_3 := blk_frozen BK345.out 3
                                  go_wp2
                                  go_roundg kj29
                                  case measure => have := HK1.out; have := HK2.out; have := HJ20.out; have := HJ29.out; omega
                                  case rel => exact ⟨(x8_2), (wrap64 (x9_2 + 1)), (t350), (t351), (t352), (t353), (t354), (by first | rfl | (simp; done) | (simp [*]; done)), (by first | rfl | (simp; done) | (simp [*]; done)), H', ⟨by have := HK1.out; have := HK2.out; have := HJ20.out; have := HJ29.out; omega⟩, ⟨by (with_reducible repeat (first | apply Kd.R_alloc | apply Kd.R_drewN | apply Kd.R_drew)); exact HO_346000.out⟩, ⟨by (with_reducible repeat (first | apply Kd.R_alloc | apply Kd.R_drewN | apply Kd.R_drew)); exact HO_346001.out⟩, ⟨by (with_reducible repeat (first | refine blk_drewN ?_ _ | refine blk_drew ?_ | refine blk_alloc ?_ _)); exact BK345.out⟩, ⟨by repeat (first | (with_reducible first | exact HI322.out | apply IsS50.alloc | apply IsS50.drewN | apply IsS50.drew | apply IsS50.set_0 | apply IsS50.set_1 | apply IsS50.set_2 | apply IsS50.set_3 | apply IsS50.set_4 | refine IsS50.far ?_ NB322_345.out _) | exact HI322.out)⟩, ⟨by repeat (first | (with_reducible first | exact HB.out | apply below_alloc | apply pw_below_drewN | apply below_drew1 | refine below_set ?_ (IsS50.ge HI322.out) | refine below_set ?_ GE345.out) | exact HB.out)⟩⟩
              · rw [if_neg c19] at H
                exact absurd H (by simp)
            · rw [if_neg c18] at H
              have c18b0 : decide (x9_2 < (l0.length : Int)) = false := decide_eq_false c18
              clear c18
              have HC76 := Aside0.mk H
              clear H
              go_upto_region 23 with (fail)
              go_cut [126] (fun v126 wc => ∃ (kq : Nat) (x126_75 : Bool) (x323000_75 : Int) (x323001_75 : Int) (x323002_75 : Int) (x323003_75 : Bool) (x323004_75 : Int), v126 = .bool x126_75 ∧ Aside0 (winklelaw10_SixbitsSteps.j4 kq x8_2 x126_75 x323000_75 x323001_75 x323002_75 x323003_75 x323004_75 t337 t340 t343 t344 = some r) ∧ Aside0 (kq ≤ k2) ∧ Aside0 (Kd.R (Kd.int .u8) 5 wc w.heap.size (fun _ => True) (.slice Ao14 t337.length co14) t337) ∧ Aside0 (Kd.R (Kd.int .i64) 3 wc w.heap.size (fun _ => True) (.slice Ao17 t340.length co17) t340) ∧ Aside0 (wc.heap[gb345]? = some (.cells #[(.slice Ao14 t337.length co14), (.slice Ao17 t340.length co17), .int .i64 t343, .int .i64 t344] 28 (0, 0))) ∧ Aside0 (IsS50 w wc g322 x323000_75 x323001_75 x323002_75 x323003_75 x323004_75) ∧ Aside0 (Below w.heap.size w wc))
              case first =>
                have H := HC76.out
                clear HC76
                replace H := Option.bind_eq_some_iff.mp H
                obtain ⟨⟨t357, t358, t359, t360, t361, t362⟩, A770, H⟩ := H
                replace H : (if t357 = t343 then ((sixbits_Decoder_End.f t358 t359 t360 t361 t362).bind fun bt363 => (winklelaw10_SixbitsSteps.j4 k2 x8_2 (bt363.1 != t343) bt363.2.1 bt363.2.2.1 bt363.2.2.2.1 bt363.2.2.2.2.1 bt363.2.2.2.2.2 t337 t340 t343 t344)) else (winklelaw10_SixbitsSteps.j4 k2 x8_2 true t358 t359 t360 t361 t362 t337 t340 t343 t344)) = some r := H
                have A77 := Aside0.mk A770
                clear A770
                by_cases c78 : t357 = t343
                · rw [if_pos c78] at H
                  have c78b0 : (t357 == t343) = true := beq_iff_eq.mpr c78
                  have c78b1 : (t357 != t343) = false := bne_eq_false_iff_eq.mpr c78
                  clear c78
                  (first | rw [c78b0] | (simp only [i64_w, i32_w]; rw [c78b0]) | skip)
                  replace H := Option.bind_eq_some_iff.mp H
                  obtain ⟨⟨t363, t364, t365, t366, t367, t368⟩, A790, H⟩ := H
                  replace H : (winklelaw10_SixbitsSteps.j4 k2 x8_2 (t363 != t343) t364 t365 t366 t367 t368 t337 t340 t343 t344) = some r := H
                  have A79 := Aside0.mk A790
                  clear A790
                  have H' := Aside0.mk H
                  clear H
                  try go_wp2
                  have n0_ := Aside0.mk (Kd.R_drew HO_346000.out)
                  have n1_ := Aside0.mk (Kd.R_drew HO_346001.out)
                  have n2_ := Aside0.mk (blk_drew BK345.out)
                  have n3_ := Aside0.mk (IsS50.drew HI322.out)
                  have n4_ := Aside0.mk (below_drew1 HB.out)
                  clear HO_346000
                  clear HO_346001
                  clear BK345
                  clear HI322
                  clear HB
                  have HO_346000 := n0_
                  have HO_346001 := n1_
                  have BK345 := n2_
                  have HI322 := n3_
                  have HB := n4_
                  clear n0_ n1_ n2_ n3_ n4_
                  refine start_ (n := 12) (S := fun w' => w'.cell? ⟨gb345, 0, none⟩ = some (.slice Ao14 t337.length co14) ∧ w'.cell? ⟨gb345, 1, none⟩ = some (.slice Ao17 t340.length co17) ∧ w'.cell? ⟨gb345, 2, none⟩ = some (.int .i64 t343) ∧ w'.cell? ⟨gb345, 3, none⟩ = some (.int .i64 t344)) (ds := []) #[false, false, false, false, false, false, false, false, false, false, false, false] (by kernel_rfl) rfl rfl ⟨(blk_cell BK345.out 0).trans rfl, (blk_cell BK345.out 1).trans rfl, (blk_cell BK345.out 2).trans rfl, (blk_cell BK345.out 3).trans rfl⟩ (fun hHeld => ?_); refine with_tabW winklelaw10_SixbitsSteps.tab23 winklelaw10_SixbitsSteps.bits23 (fun HT_ HW_ => ?_)
                  generalize wr.drew = w80 at HO_346000 HO_346001 BK345 HI322 HB hHeld ⊢
                  refine pure_ (i := 0) (N := some 115) (v := ?_) (a' := ?_) #[true, false, false, false, false, false, false, false, false, false, false, false] rfl rfl (any_of HT_.out (by kernel_rfl)) (fun _ _ _ h => h) (Or.inl ⟨by rfl, ?_⟩) ?_ ?_
                  rotate_left
                  · intro w'
                    go_simp
                    with_reducible rfl
                  rotate_left
                  · simp only [Act.put, List.setIfInBounds_toArray, List.set_cons_zero, List.set_cons_succ, i64_w, i32_w]
                    rfl
                  refine pure_ (i := 2) (N := some 117) (v := ?_) (a' := ?_) #[true, false, true, false, false, false, false, false, false, false, false, false] rfl rfl (any_of HT_.out (by kernel_rfl)) (fun _ _ _ h => h) (Or.inl ⟨by rfl, ?_⟩) ?_ ?_
                  rotate_left
                  · intro w'
                    go_simp
                    with_reducible rfl
                  rotate_left
                  · simp only [Act.put, List.setIfInBounds_toArray, List.set_cons_zero, List.set_cons_succ, i64_w, i32_w]
                    rfl
                  refine take_ (i := 3) (N := some 118) (v := ?_) (a' := ?_) #[true, false, true, true, false, false, false, false, false, false, false, false] rfl rfl (take_ofW HT_.out HW_.out (by kernel_rfl)) (fun _ _ _ h => h) (Or.inl ⟨by rfl, ?_⟩) hHeld ?_ ?_
                  rotate_left
                  · rintro w' ⟨s0, s1, s2, s3⟩
                    go_simp
                    with_reducible rfl
                  rotate_left
                  · simp only [Act.put, List.setIfInBounds_toArray, List.set_cons_zero, List.set_cons_succ, i64_w, i32_w]
                    rfl
                  refine one_ (i := 1) (N := some 116) #[true, true, true, true, false, false, false, false, false, false, false, false] rfl rfl (one_of HT_.out (by kernel_rfl)) (by decide) (fun K hK => ?_)
                  refine goes_ Try.func19 (by kernel_rfl) rfl #[.pointer (some ⟨g322, 0, none⟩)] (by rfl) rfl rfl (by (try simp only [List.map_toArray, List.map_cons, List.map_nil]); first | done | rfl | (simp only [List.length_drop, List.length_take]; rfl)) ?_
                  with_reducible refine (sixbits_Decoder_End.calls g322 x323000_2 x323001_2 x323002_2 x323003_2 x323004_2 t357 t358 t359 t360 t361 t362 w _ ?side1 ?side2 A77.out).mono ?_
                  (case side1 => repeat (first | (with_reducible first | exact HI322.out | apply IsS50.alloc | apply IsS50.drewN | apply IsS50.drew | apply IsS50.set_0 | apply IsS50.set_1 | apply IsS50.set_2 | apply IsS50.set_3 | apply IsS50.set_4 | refine IsS50.far ?_ NB322_345.out _) | exact HI322.out))
                  (case side2 => repeat (first | (with_reducible first | exact HB.out | apply below_alloc | apply pw_below_drewN | apply below_drew1 | refine below_set ?_ (IsS50.ge HI322.out) | refine below_set ?_ GE345.out) | exact HB.out))
                  rintro e w81 ⟨rfl, hi, hb, hk⟩
                  refine ⟨_, rfl, ?_⟩
                  have n0_ := Aside0.mk (Kd.R_mono (Kd.R_keep (IsS50.apart (show IsS50 w _ g322 x323000_2 x323001_2 x323002_2 x323003_2 x323004_2 from by repeat (first | (with_reducible first | exact HI322.out | apply IsS50.alloc | apply IsS50.drewN | apply IsS50.drew | apply IsS50.set_0 | apply IsS50.set_1 | apply IsS50.set_2 | apply IsS50.set_3 | apply IsS50.set_4 | refine IsS50.far ?_ NB322_345.out _) | exact HI322.out)) (by (with_reducible repeat (first | apply Kd.R_alloc | apply Kd.R_drewN | apply Kd.R_drew)); exact HO_346000.out) (by decide)) hk (fun _ h => h.2)) (fun _ h => h.1))
                  have n1_ := Aside0.mk (Kd.R_mono (Kd.R_keep (IsS50.apart (show IsS50 w _ g322 x323000_2 x323001_2 x323002_2 x323003_2 x323004_2 from by repeat (first | (with_reducible first | exact HI322.out | apply IsS50.alloc | apply IsS50.drewN | apply IsS50.drew | apply IsS50.set_0 | apply IsS50.set_1 | apply IsS50.set_2 | apply IsS50.set_3 | apply IsS50.set_4 | refine IsS50.far ?_ NB322_345.out _) | exact HI322.out)) (by (with_reducible repeat (first | apply Kd.R_alloc | apply Kd.R_drewN | apply Kd.R_drew)); exact HO_346001.out) (by decide)) hk (fun _ h => h.2)) (fun _ h => h.1))
                  have n2_ := Aside0.mk (KeepBut.blk hk (g' := gb345) (o := .cells #[.slice Ao14 t337.length co14, .slice Ao17 t340.length co17, .int .i64 t343, .int .i64 t344] 28 (0, 0)) (by (with_reducible repeat (first | refine blk_drewN ?_ _ | refine blk_drew ?_ | refine blk_alloc ?_ _)); exact BK345.out) NB345_322.out (by simp))
                  have n3_ := Aside0.mk (hb)
                  have n4_ := Aside0.mk (hi)
                  clear HO_346000
                  clear HO_346001
                  clear BK345
                  clear HB
                  clear HI322
                  have HO_346000 := n0_
                  have HO_346001 := n1_
                  have BK345 := n2_
                  have HB := n3_
                  have HI322 := n4_
                  clear n0_ n1_ n2_ n3_ n4_
                  (try clear hb)
                  (try clear hb2)
                  (try clear hk)
                  (try clear hi)
                  refine hK.out _ _ ⟨(blk_cell BK345.out 0).trans rfl, (blk_cell BK345.out 1).trans rfl, (blk_cell BK345.out 2).trans rfl, (blk_cell BK345.out 3).trans rfl⟩ (fun hHeld => ?_)
                  clear hK K
                  refine norm_ (a' := ?_) ?_ ?_
                  rotate_left
                  · show Act.put _ (some 116) _ = _
                    simp only [Act.put, List.setIfInBounds_toArray, List.set_cons_zero, List.set_cons_succ, i64_w, i32_w]
                    rfl
                  refine pure_ (i := 4) (N := some 119) (v := ?_) (a' := ?_) #[true, true, true, true, true, false, false, false, false, false, false, false] rfl rfl (any_of HT_.out (by kernel_rfl)) (fun _ _ _ h => h) (Or.inl ⟨by rfl, ?_⟩) ?_ ?_
                  rotate_left
                  · intro w'
                    go_simp
                    with_reducible rfl
                  rotate_left
                  · simp only [Act.put, List.setIfInBounds_toArray, List.set_cons_zero, List.set_cons_succ, i64_w, i32_w]
                    rfl
                  refine pure_ (i := 5) (N := some 120) (v := ?_) (a' := ?_) #[true, true, true, true, true, true, false, false, false, false, false, false] rfl rfl (any_of HT_.out (by kernel_rfl)) (fun _ _ _ h => h) (Or.inl ⟨by rfl, ?_⟩) ?_ ?_
                  rotate_left
                  · intro w'
                    go_simp
                    with_reducible rfl
                  rotate_left
                  · simp only [Act.put, List.setIfInBounds_toArray, List.set_cons_zero, List.set_cons_succ, i64_w, i32_w]
                    rfl
                  refine pure_ (i := 6) (N := some 121) (v := ?_) (a' := ?_) #[true, true, true, true, true, true, true, false, false, false, false, false] rfl rfl (any_of HT_.out (by kernel_rfl)) (fun _ _ _ h => h) (Or.inl ⟨by rfl, ?_⟩) ?_ ?_
                  rotate_left
                  · intro w'
                    go_simp
                    with_reducible rfl
                  rotate_left
                  · simp only [Act.put, List.setIfInBounds_toArray, List.set_cons_zero, List.set_cons_succ, i64_w, i32_w]
                    rfl
                  refine pure_ (i := 8) (N := some 123) (v := ?_) (a' := ?_) #[true, true, true, true, true, true, true, false, true, false, false, false] rfl rfl (any_of HT_.out (by kernel_rfl)) (fun _ _ _ h => h) (Or.inl ⟨by rfl, ?_⟩) ?_ ?_
                  rotate_left
                  · intro w'
                    go_simp
                    with_reducible rfl
                  rotate_left
                  · simp only [Act.put, List.setIfInBounds_toArray, List.set_cons_zero, List.set_cons_succ, i64_w, i32_w]
                    rfl
                  refine take_ (i := 9) (N := some 124) (v := ?_) (a' := ?_) #[true, true, true, true, true, true, true, false, true, true, false, false] rfl rfl (take_ofW HT_.out HW_.out (by kernel_rfl)) (fun _ _ _ h => h) (Or.inl ⟨by rfl, ?_⟩) hHeld ?_ ?_
                  rotate_left
                  · rintro w' ⟨s0, s1, s2, s3⟩
                    go_simp
                    with_reducible rfl
                  rotate_left
                  · simp only [Act.put, List.setIfInBounds_toArray, List.set_cons_zero, List.set_cons_succ, i64_w, i32_w]
                    rfl
                  refine one_ (i := 7) (N := some 122) #[true, true, true, true, true, true, true, true, true, true, false, false] rfl rfl (one_of HT_.out (by kernel_rfl)) (by decide) (fun K hK => ?_)
                  refine goes_ Try.func19 (by kernel_rfl) rfl #[.pointer (some ⟨g322, 0, none⟩)] (by rfl) rfl rfl (by (try simp only [List.map_toArray, List.map_cons, List.map_nil]); first | done | rfl | (simp only [List.length_drop, List.length_take]; rfl)) ?_
                  with_reducible refine (sixbits_Decoder_End.calls g322 t358 t359 t360 t361 t362 t363 t364 t365 t366 t367 t368 w _ ?side1 ?side2 A79.out).mono ?_
                  (case side1 => repeat (first | (with_reducible first | exact HI322.out | apply IsS50.alloc | apply IsS50.drewN | apply IsS50.drew | apply IsS50.set_0 | apply IsS50.set_1 | apply IsS50.set_2 | apply IsS50.set_3 | apply IsS50.set_4 | refine IsS50.far ?_ NB322_345.out _) | exact HI322.out))
                  (case side2 => repeat (first | (with_reducible first | exact HB.out | apply below_alloc | apply pw_below_drewN | apply below_drew1 | refine below_set ?_ (IsS50.ge HI322.out) | refine below_set ?_ GE345.out) | exact HB.out))
                  rintro e w82 ⟨rfl, hi, hb, hk⟩
                  refine ⟨_, rfl, ?_⟩
                  have n0_ := Aside0.mk (Kd.R_mono (Kd.R_keep (IsS50.apart (show IsS50 w _ g322 t358 t359 t360 t361 t362 from by repeat (first | (with_reducible first | exact HI322.out | apply IsS50.alloc | apply IsS50.drewN | apply IsS50.drew | apply IsS50.set_0 | apply IsS50.set_1 | apply IsS50.set_2 | apply IsS50.set_3 | apply IsS50.set_4 | refine IsS50.far ?_ NB322_345.out _) | exact HI322.out)) (by (with_reducible repeat (first | apply Kd.R_alloc | apply Kd.R_drewN | apply Kd.R_drew)); exact HO_346000.out) (by decide)) hk (fun _ h => h.2)) (fun _ h => h.1))
                  have n1_ := Aside0.mk (Kd.R_mono (Kd.R_keep (IsS50.apart (show IsS50 w _ g322 t358 t359 t360 t361 t362 from by repeat (first | (with_reducible first | exact HI322.out | apply IsS50.alloc | apply IsS50.drewN | apply IsS50.drew | apply IsS50.set_0 | apply IsS50.set_1 | apply IsS50.set_2 | apply IsS50.set_3 | apply IsS50.set_4 | refine IsS50.far ?_ NB322_345.out _) | exact HI322.out)) (by (with_reducible repeat (first | apply Kd.R_alloc | apply Kd.R_drewN | apply Kd.R_drew)); exact HO_346001.out) (by decide)) hk (fun _ h => h.2)) (fun _ h => h.1))
                  have n2_ := Aside0.mk (KeepBut.blk hk (g' := gb345) (o := .cells #[.slice Ao14 t337.length co14, .slice Ao17 t340.length co17, .int .i64 t343, .int .i64 t344] 28 (0, 0)) (by (with_reducible repeat (first | refine blk_drewN ?_ _ | refine blk_drew ?_ | refine blk_alloc ?_ _)); exact BK345.out) NB345_322.out (by simp))
                  have n3_ := Aside0.mk (hb)
                  have n4_ := Aside0.mk (hi)
                  clear HO_346000
                  clear HO_346001
                  clear BK345
                  clear HB
                  clear HI322
                  have HO_346000 := n0_
                  have HO_346001 := n1_
                  have BK345 := n2_
                  have HB := n3_
                  have HI322 := n4_
                  clear n0_ n1_ n2_ n3_ n4_
                  (try clear hb)
                  (try clear hb2)
                  (try clear hk)
                  (try clear hi)
                  refine hK.out _ _ ⟨(blk_cell BK345.out 0).trans rfl, (blk_cell BK345.out 1).trans rfl, (blk_cell BK345.out 2).trans rfl, (blk_cell BK345.out 3).trans rfl⟩ (fun hHeld => ?_)
                  clear hK K
                  refine norm_ (a' := ?_) ?_ ?_
                  rotate_left
                  · show Act.put _ (some 122) _ = _
                    simp only [Act.put, List.setIfInBounds_toArray, List.set_cons_zero, List.set_cons_succ, i64_w, i32_w]
                    rfl
                  refine pure_ (i := 10) (N := some 125) (v := ?_) (a' := ?_) #[true, true, true, true, true, true, true, true, true, true, true, false] rfl rfl (any_of HT_.out (by kernel_rfl)) (fun _ _ _ h => h) (Or.inl ⟨by rfl, ?_⟩) ?_ ?_
                  rotate_left
                  · intro w'
                    go_simp
                    with_reducible rfl
                  rotate_left
                  · simp only [Act.put, List.setIfInBounds_toArray, List.set_cons_zero, List.set_cons_succ, i64_w, i32_w]
                    rfl
                  refine pure_ (i := 11) (N := some 126) (v := ?_) (a' := ?_) #[true, true, true, true, true, true, true, true, true, true, true, true] rfl rfl (any_of HT_.out (by kernel_rfl)) (fun _ _ _ h => h) (Or.inl ⟨by rfl, ?_⟩) ?_ ?_
                  rotate_left
                  · intro w'
                    go_simp
                    with_reducible rfl
                  rotate_left
                  · simp only [Act.put, List.setIfInBounds_toArray, List.set_cons_zero, List.set_cons_succ, i64_w, i32_w]
                    rfl
                  refine done_ (done_of HT_.out (by kernel_rfl)) ?_
                  try go_wp2
                  go_meet
                  case rel => exact ⟨_, ((t363 != t343)), (t364), (t365), (t366), (t367), (t368), (by first | rfl | (simp; done) | (simp [*]; done)), H', ⟨by have := HK1.out; have := HK2.out; first | omega | exact Nat.le_refl _⟩, ⟨by (with_reducible repeat (first | apply Kd.R_alloc | apply Kd.R_drewN | apply Kd.R_drew)); exact HO_346000.out⟩, ⟨by (with_reducible repeat (first | apply Kd.R_alloc | apply Kd.R_drewN | apply Kd.R_drew)); exact HO_346001.out⟩, ⟨by (with_reducible repeat (first | refine blk_drewN ?_ _ | refine blk_drew ?_ | refine blk_alloc ?_ _)); exact BK345.out⟩, ⟨by repeat (first | (with_reducible first | exact HI322.out | apply IsS50.alloc | apply IsS50.drewN | apply IsS50.drew | apply IsS50.set_0 | apply IsS50.set_1 | apply IsS50.set_2 | apply IsS50.set_3 | apply IsS50.set_4 | refine IsS50.far ?_ NB322_345.out _) | exact HI322.out)⟩, ⟨by repeat (first | (with_reducible first | exact HB.out | apply below_alloc | apply pw_below_drewN | apply below_drew1 | refine below_set ?_ (IsS50.ge HI322.out) | refine below_set ?_ GE345.out) | exact HB.out)⟩⟩
                · rw [if_neg c78] at H
                  have c78b0 : (t357 == t343) = false := beq_eq_false_iff_ne.mpr c78
                  have c78b1 : (t357 != t343) = true := bne_iff_ne.mpr c78
                  (first | rw [c78b0] | (simp only [i64_w, i32_w]; rw [c78b0]) | skip)
                  have H' := Aside0.mk H
                  clear H
                  try go_wp2
                  have n0_ := Aside0.mk (Kd.R_drew HO_346000.out)
                  have n1_ := Aside0.mk (Kd.R_drew HO_346001.out)
                  have n2_ := Aside0.mk (blk_drew BK345.out)
                  have n3_ := Aside0.mk (IsS50.drew HI322.out)
                  have n4_ := Aside0.mk (below_drew1 HB.out)
                  clear HO_346000
                  clear HO_346001
                  clear BK345
                  clear HI322
                  clear HB
                  have HO_346000 := n0_
                  have HO_346001 := n1_
                  have BK345 := n2_
                  have HI322 := n3_
                  have HB := n4_
                  clear n0_ n1_ n2_ n3_ n4_
                  refine start_ (n := 12) (S := fun w' => w'.cell? ⟨gb345, 0, none⟩ = some (.slice Ao14 t337.length co14) ∧ w'.cell? ⟨gb345, 1, none⟩ = some (.slice Ao17 t340.length co17) ∧ w'.cell? ⟨gb345, 2, none⟩ = some (.int .i64 t343) ∧ w'.cell? ⟨gb345, 3, none⟩ = some (.int .i64 t344)) (ds := []) #[false, false, false, false, false, false, false, false, false, false, false, false] (by kernel_rfl) rfl rfl ⟨(blk_cell BK345.out 0).trans rfl, (blk_cell BK345.out 1).trans rfl, (blk_cell BK345.out 2).trans rfl, (blk_cell BK345.out 3).trans rfl⟩ (fun hHeld => ?_); refine with_tabW winklelaw10_SixbitsSteps.tab23 winklelaw10_SixbitsSteps.bits23 (fun HT_ HW_ => ?_)
                  generalize wr.drew = w83 at HO_346000 HO_346001 BK345 HI322 HB hHeld ⊢
                  refine pure_ (i := 0) (N := some 115) (v := ?_) (a' := ?_) #[true, false, false, false, false, false, false, false, false, false, false, false] rfl rfl (any_of HT_.out (by kernel_rfl)) (fun _ _ _ h => h) (Or.inl ⟨by rfl, ?_⟩) ?_ ?_
                  rotate_left
                  · intro w'
                    go_simp
                    with_reducible rfl
                  rotate_left
                  · simp only [Act.put, List.setIfInBounds_toArray, List.set_cons_zero, List.set_cons_succ, i64_w, i32_w]
                    rfl
                  refine pure_ (i := 2) (N := some 117) (v := ?_) (a' := ?_) #[true, false, true, false, false, false, false, false, false, false, false, false] rfl rfl (any_of HT_.out (by kernel_rfl)) (fun _ _ _ h => h) (Or.inl ⟨by rfl, ?_⟩) ?_ ?_
                  rotate_left
                  · intro w'
                    go_simp
                    with_reducible rfl
                  rotate_left
                  · simp only [Act.put, List.setIfInBounds_toArray, List.set_cons_zero, List.set_cons_succ, i64_w, i32_w]
                    rfl
                  refine take_ (i := 3) (N := some 118) (v := ?_) (a' := ?_) #[true, false, true, true, false, false, false, false, false, false, false, false] rfl rfl (take_ofW HT_.out HW_.out (by kernel_rfl)) (fun _ _ _ h => h) (Or.inl ⟨by rfl, ?_⟩) hHeld ?_ ?_
                  rotate_left
                  · rintro w' ⟨s0, s1, s2, s3⟩
                    go_simp
                    with_reducible rfl
                  rotate_left
                  · simp only [Act.put, List.setIfInBounds_toArray, List.set_cons_zero, List.set_cons_succ, i64_w, i32_w]
                    rfl
                  refine one_ (i := 1) (N := some 116) #[true, true, true, true, false, false, false, false, false, false, false, false] rfl rfl (one_of HT_.out (by kernel_rfl)) (by decide) (fun K hK => ?_)
                  refine goes_ Try.func19 (by kernel_rfl) rfl #[.pointer (some ⟨g322, 0, none⟩)] (by rfl) rfl rfl (by (try simp only [List.map_toArray, List.map_cons, List.map_nil]); first | done | rfl | (simp only [List.length_drop, List.length_take]; rfl)) ?_
                  with_reducible refine (sixbits_Decoder_End.calls g322 x323000_2 x323001_2 x323002_2 x323003_2 x323004_2 t357 t358 t359 t360 t361 t362 w _ ?side1 ?side2 A77.out).mono ?_
                  (case side1 => repeat (first | (with_reducible first | exact HI322.out | apply IsS50.alloc | apply IsS50.drewN | apply IsS50.drew | apply IsS50.set_0 | apply IsS50.set_1 | apply IsS50.set_2 | apply IsS50.set_3 | apply IsS50.set_4 | refine IsS50.far ?_ NB322_345.out _) | exact HI322.out))
                  (case side2 => repeat (first | (with_reducible first | exact HB.out | apply below_alloc | apply pw_below_drewN | apply below_drew1 | refine below_set ?_ (IsS50.ge HI322.out) | refine below_set ?_ GE345.out) | exact HB.out))
                  rintro e w84 ⟨rfl, hi, hb, hk⟩
                  refine ⟨_, rfl, ?_⟩
                  have n0_ := Aside0.mk (Kd.R_mono (Kd.R_keep (IsS50.apart (show IsS50 w _ g322 x323000_2 x323001_2 x323002_2 x323003_2 x323004_2 from by repeat (first | (with_reducible first | exact HI322.out | apply IsS50.alloc | apply IsS50.drewN | apply IsS50.drew | apply IsS50.set_0 | apply IsS50.set_1 | apply IsS50.set_2 | apply IsS50.set_3 | apply IsS50.set_4 | refine IsS50.far ?_ NB322_345.out _) | exact HI322.out)) (by (with_reducible repeat (first | apply Kd.R_alloc | apply Kd.R_drewN | apply Kd.R_drew)); exact HO_346000.out) (by decide)) hk (fun _ h => h.2)) (fun _ h => h.1))
                  have n1_ := Aside0.mk (Kd.R_mono (Kd.R_keep (IsS50.apart (show IsS50 w _ g322 x323000_2 x323001_2 x323002_2 x323003_2 x323004_2 from by repeat (first | (with_reducible first | exact HI322.out | apply IsS50.alloc | apply IsS50.drewN | apply IsS50.drew | apply IsS50.set_0 | apply IsS50.set_1 | apply IsS50.set_2 | apply IsS50.set_3 | apply IsS50.set_4 | refine IsS50.far ?_ NB322_345.out _) | exact HI322.out)) (by (with_reducible repeat (first | apply Kd.R_alloc | apply Kd.R_drewN | apply Kd.R_drew)); exact HO_346001.out) (by decide)) hk (fun _ h => h.2)) (fun _ h => h.1))
                  have n2_ := Aside0.mk (KeepBut.blk hk (g' := gb345) (o := .cells #[.slice Ao14 t337.length co14, .slice Ao17 t340.length co17, .int .i64 t343, .int .i64 t344] 28 (0, 0)) (by (with_reducible repeat (first | refine blk_drewN ?_ _ | refine blk_drew ?_ | refine blk_alloc ?_ _)); exact BK345.out) NB345_322.out (by simp))
                  have n3_ := Aside0.mk (hb)
                  have n4_ := Aside0.mk (hi)
                  clear HO_346000
                  clear HO_346001
                  clear BK345
                  clear HB
                  clear HI322
                  have HO_346000 := n0_
                  have HO_346001 := n1_
                  have BK345 := n2_
                  have HB := n3_
                  have HI322 := n4_
                  clear n0_ n1_ n2_ n3_ n4_
                  (try clear hb)
                  (try clear hb2)
                  (try clear hk)
                  (try clear hi)
                  refine hK.out _ _ ⟨(blk_cell BK345.out 0).trans rfl, (blk_cell BK345.out 1).trans rfl, (blk_cell BK345.out 2).trans rfl, (blk_cell BK345.out 3).trans rfl⟩ (fun hHeld => ?_)
                  clear hK K
                  refine norm_ (a' := ?_) ?_ ?_
                  rotate_left
                  · show Act.put _ (some 116) _ = _
                    simp only [Act.put, List.setIfInBounds_toArray, List.set_cons_zero, List.set_cons_succ, i64_w, i32_w]
                    rfl
                  refine pure_ (i := 4) (N := some 119) (v := ?_) (a' := ?_) #[true, true, true, true, true, false, false, false, false, false, false, false] rfl rfl (any_of HT_.out (by kernel_rfl)) (fun _ _ _ h => h) (Or.inl ⟨by rfl, ?_⟩) ?_ ?_
                  rotate_left
                  · intro w'
                    go_simp
                    with_reducible rfl
                  rotate_left
                  · simp only [Act.put, List.setIfInBounds_toArray, List.set_cons_zero, List.set_cons_succ, i64_w, i32_w]
                    rfl
                  refine pure_ (i := 5) (N := some 120) (v := ?_) (a' := ?_) #[true, true, true, true, true, true, false, false, false, false, false, false] rfl rfl (any_of HT_.out (by kernel_rfl)) (fun _ _ _ h => h) (Or.inl ⟨by rfl, ?_⟩) ?_ ?_
                  rotate_left
                  · intro w'
                    go_simp
                    with_reducible rfl
                  rotate_left
                  · simp only [Act.put, List.setIfInBounds_toArray, List.set_cons_zero, List.set_cons_succ, i64_w, i32_w]
                    rfl
                  refine pure_ (i := 6) (N := some 121) (v := undef) (a' := ?_) #[true, true, true, true, true, true, true, false, false, false, false, false] rfl rfl (any_of HT_.out (by kernel_rfl)) (fun _ _ _ h => h) (Or.inr ⟨by rfl, rfl⟩) ?_ ?_
                  rotate_left
                  · simp only [Act.put, List.setIfInBounds_toArray, List.set_cons_zero, List.set_cons_succ, i64_w, i32_w]
                    rfl
                  refine pure_ (i := 7) (N := some 122) (v := undef) (a' := ?_) #[true, true, true, true, true, true, true, true, false, false, false, false] rfl rfl (any_of HT_.out (by kernel_rfl)) (fun _ _ _ h => h) (Or.inr ⟨by rfl, rfl⟩) ?_ ?_
                  rotate_left
                  · simp only [Act.put, List.setIfInBounds_toArray, List.set_cons_zero, List.set_cons_succ, i64_w, i32_w]
                    rfl
                  refine pure_ (i := 8) (N := some 123) (v := undef) (a' := ?_) #[true, true, true, true, true, true, true, true, true, false, false, false] rfl rfl (any_of HT_.out (by kernel_rfl)) (fun _ _ _ h => h) (Or.inr ⟨by rfl, rfl⟩) ?_ ?_
                  rotate_left
                  · simp only [Act.put, List.setIfInBounds_toArray, List.set_cons_zero, List.set_cons_succ, i64_w, i32_w]
                    rfl
                  refine pure_ (i := 9) (N := some 124) (v := undef) (a' := ?_) #[true, true, true, true, true, true, true, true, true, true, false, false] rfl rfl (any_of HT_.out (by kernel_rfl)) (fun _ _ _ h => h) (Or.inr ⟨by rfl, rfl⟩) ?_ ?_
                  rotate_left
                  · simp only [Act.put, List.setIfInBounds_toArray, List.set_cons_zero, List.set_cons_succ, i64_w, i32_w]
                    rfl
                  refine pure_ (i := 10) (N := some 125) (v := undef) (a' := ?_) #[true, true, true, true, true, true, true, true, true, true, true, false] rfl rfl (any_of HT_.out (by kernel_rfl)) (fun _ _ _ h => h) (Or.inr ⟨by rfl, rfl⟩) ?_ ?_
                  rotate_left
                  · simp only [Act.put, List.setIfInBounds_toArray, List.set_cons_zero, List.set_cons_succ, i64_w, i32_w]
                    rfl
                  refine pure_ (i := 11) (N := some 126) (v := ?_) (a' := ?_) #[true, true, true, true, true, true, true, true, true, true, true, true] rfl rfl (any_of HT_.out (by kernel_rfl)) (fun _ _ _ h => h) (Or.inl ⟨by rfl, ?_⟩) ?_ ?_
                  rotate_left
                  · intro w'
                    go_simp
                    with_reducible rfl
                  rotate_left
                  · simp only [Act.put, List.setIfInBounds_toArray, List.set_cons_zero, List.set_cons_succ, i64_w, i32_w]
                    rfl
                  refine done_ (done_of HT_.out (by kernel_rfl)) ?_
                  try go_wp2
                  go_meet
                  case rel => exact ⟨_, (true), (t358), (t359), (t360), (t361), (t362), (by first | rfl | (simp; done) | (simp [*]; done)), H', ⟨by have := HK1.out; have := HK2.out; first | omega | exact Nat.le_refl _⟩, ⟨by (with_reducible repeat (first | apply Kd.R_alloc | apply Kd.R_drewN | apply Kd.R_drew)); exact HO_346000.out⟩, ⟨by (with_reducible repeat (first | apply Kd.R_alloc | apply Kd.R_drewN | apply Kd.R_drew)); exact HO_346001.out⟩, ⟨by (with_reducible repeat (first | refine blk_drewN ?_ _ | refine blk_drew ?_ | refine blk_alloc ?_ _)); exact BK345.out⟩, ⟨by repeat (first | (with_reducible first | exact HI322.out | apply IsS50.alloc | apply IsS50.drewN | apply IsS50.drew | apply IsS50.set_0 | apply IsS50.set_1 | apply IsS50.set_2 | apply IsS50.set_3 | apply IsS50.set_4 | refine IsS50.far ?_ NB322_345.out _) | exact HI322.out)⟩, ⟨by repeat (first | (with_reducible first | exact HB.out | apply below_alloc | apply pw_below_drewN | apply below_drew1 | refine below_set ?_ (IsS50.ge HI322.out) | refine below_set ?_ GE345.out) | exact HB.out)⟩⟩
              case rest =>
                clear HC76
                try clear c1
                try clear p2
                try clear c4
                try clear c5
                try clear c6
                try clear p6
                try clear c7
                try clear c18
                try clear c18b0
                try clear c19
                try clear c41
                try clear c42
                try clear c42b0
                try clear c42b1
                try clear c43
                try clear c43b0
                try clear c43b1
                try clear c43b2
                try clear c44
                try clear c46
                try clear c48
                try clear c48b0
                try clear c48b1
                try clear c48b2
                try clear c49
                try clear c51
                try clear c51b0
                try clear c52
                try clear c52b0
                try clear c52b1
                try clear c53
                try clear c55
                try clear c57
                try clear c59
                try clear c59b0
                try clear c59b1
                try clear c60
                try clear c60b0
                try clear c60b1
                try clear c60b2
                try clear c61
                try clear c63
                try clear p64
                try clear c65
                try clear c65b0
                try clear c65b1
                try clear c65b2
                try clear c66
                try clear c68
                try clear c68b0
                try clear c69
                try clear c69b0
                try clear c69b1
                try clear c70
                try clear c72
                try clear c74
                try clear c78
                try clear c78b0
                try clear c78b1
                try clear hcz45_0
                try clear hcz45_1
                try clear hcz45_2
                try clear hcz45_3
                try clear hcz47_0
                try clear hcz47_1
                try clear hcz47_2
                try clear hcz47_3
                try clear hcz50_0
                try clear hcz50_1
                try clear hcz50_2
                try clear hcz50_3
                try clear hcz54_0
                try clear hcz54_1
                try clear hcz54_2
                try clear hcz54_3
                try clear hcz56_0
                try clear hcz56_1
                try clear hcz56_2
                try clear hcz56_3
                try clear hcz58_0
                try clear hcz58_1
                try clear hcz58_2
                try clear hcz58_3
                try clear hcz62_0
                try clear hcz62_1
                try clear hcz62_2
                try clear hcz62_3
                try clear hcz64_0
                try clear hcz64_1
                try clear hcz64_2
                try clear hcz64_3
                try clear hcz67_0
                try clear hcz67_1
                try clear hcz67_2
                try clear hcz67_3
                try clear hcz71_0
                try clear hcz71_1
                try clear hcz71_2
                try clear hcz71_3
                try clear hcz73_0
                try clear hcz73_1
                try clear hcz73_2
                try clear hcz73_3
                try clear hcz75_0
                try clear hcz75_1
                try clear hcz75_2
                try clear hcz75_3
                try clear hfz45_0
                try clear hfz45_1
                try clear hfz45_2
                try clear hfz45_3
                try clear hfz47_0
                try clear hfz47_1
                try clear hfz47_2
                try clear hfz47_3
                try clear hfz50_0
                try clear hfz50_1
                try clear hfz50_2
                try clear hfz50_3
                try clear hfz54_0
                try clear hfz54_1
                try clear hfz54_2
                try clear hfz54_3
                try clear hfz56_0
                try clear hfz56_1
                try clear hfz56_2
                try clear hfz56_3
                try clear hfz58_0
                try clear hfz58_1
                try clear hfz58_2
                try clear hfz58_3
                try clear hfz62_0
                try clear hfz62_1
                try clear hfz62_2
                try clear hfz62_3
                try clear hfz64_0
                try clear hfz64_1
                try clear hfz64_2
                try clear hfz64_3
                try clear hfz67_0
                try clear hfz67_1
                try clear hfz67_2
                try clear hfz67_3
                try clear hfz71_0
                try clear hfz71_1
                try clear hfz71_2
                try clear hfz71_3
                try clear hfz73_0
                try clear hfz73_1
                try clear hfz73_2
                try clear hfz73_3
                try clear hfz75_0
                try clear hfz75_1
                try clear hfz75_2
                try clear hfz75_3
                obtain ⟨kq, x126_75, x323000_75, x323001_75, x323002_75, x323003_75, x323004_75, rfl, HA, HJ75, HO_346000, HO_346001, BK345, HI322, HB⟩ := hcut
                cases kq with
                | zero => exact absurd HA.out (by simp [winklelaw10_SixbitsSteps.j4])
                | succ kj75 =>
                  have H := HA.out
                  clear HA
                  simp only [winklelaw10_SixbitsSteps.j4] at H
                  by_cases c85 : x126_75 = true
                  · subst c85
                    have H1 : (some false) = some r := by rw [if_pos rfl] at H; exact H
                    clear H
                    have H := H1
                    clear H1
                    obtain rfl := Option.some.inj H
                    go_wp2
                    go_ret
                    exact ⟨by first | rfl | (simp [errW_none, errW_some] <;> rfl) | (simp [*, errW_none, errW_some] <;> rfl), by repeat (first | (with_reducible first | exact HB.out | apply below_alloc | apply pw_below_drewN | apply below_drew1 | refine below_set ?_ (IsS50.ge HI322.out) | refine below_set ?_ GE345.out) | exact HB.out)⟩
                  · replace c85 := Bool.eq_false_iff.mpr c85
                    subst c85
                    have H1 : ((sixbits_Decoder_Put.f kj75 x323000_75 x323001_75 x323002_75 x323003_75 x323004_75 61).bind fun bt369 => (if x8_2 = (t337.length : Int) then (if bt369.2.1 = true then (some false) else (if bt369.2.2.1 = 0 then (some false) else ((winklelaw10_awake.f kj75).bind fun t377 => (some t377)))) else (some false))) = some r := by rw [if_neg (show ¬ (false = true) by decide)] at H; exact H
                    clear H
                    have H := H1
                    clear H1
                    replace H := Option.bind_eq_some_iff.mp H
                    obtain ⟨⟨t369, t370, t371, t372, t373, t374, t375, t376⟩, A860, H⟩ := H
                    replace H : (if x8_2 = (t337.length : Int) then (if t370 = true then (some false) else (if t371 = 0 then (some false) else ((winklelaw10_awake.f kj75).bind fun t377 => (some t377)))) else (some false)) = some r := H
                    have A86 := Aside0.mk A860
                    clear A860
                    by_cases c87 : x8_2 = (t337.length : Int)
                    · rw [if_pos c87] at H
                      have c87b0 : (x8_2 == (t337.length : Int)) = true := beq_iff_eq.mpr c87
                      have c87b1 : (x8_2 != (t337.length : Int)) = false := bne_eq_false_iff_eq.mpr c87
                      clear c87
                      by_cases c88 : t370 = true
                      · subst c88
                        have H1 : (some false) = some r := by rw [if_pos rfl] at H; exact H
                        clear H
                        have H := H1
                        clear H1
                        obtain rfl := Option.some.inj H
                        go_wp2_with (first | ((with_reducible refine gate_callee (f := 17) rfl ?_); refine goesL_ (some 129) rfl rfl Try.func17 (by kernel_rfl) rfl #[.pointer (some ⟨g322, 0, none⟩), .int .u8 61] rfl (by (try simp only [List.map_toArray, List.map_cons, List.map_nil]); first | done | rfl | (simp only [List.length_drop, List.length_take]; rfl)) ?_; (with_reducible refine (sixbits_Decoder_Put.calls kj75 g322 x323000_75 x323001_75 x323002_75 x323003_75 x323004_75 61 t369 true t371 t372 t373 t374 t375 t376 w _ ?side1 ?side2 A86.out).mono ?_); (case side1 => repeat (first | (with_reducible first | exact HI322.out | apply IsS50.alloc | apply IsS50.drewN | apply IsS50.drew | apply IsS50.set_0 | apply IsS50.set_1 | apply IsS50.set_2 | apply IsS50.set_3 | apply IsS50.set_4 | refine IsS50.far ?_ NB322_345.out _) | exact HI322.out)); (case side2 => repeat (first | (with_reducible first | exact HB.out | apply below_alloc | apply pw_below_drewN | apply below_drew1 | refine below_set ?_ (IsS50.ge HI322.out) | refine below_set ?_ GE345.out) | exact HB.out)); rintro e w89 ⟨rfl, hi, hb, hk⟩; refine ⟨_, rfl, ?_⟩; have n0_ := Aside0.mk (Kd.R_mono (Kd.R_keep (IsS50.apart (show IsS50 w _ g322 x323000_75 x323001_75 x323002_75 x323003_75 x323004_75 from by repeat (first | (with_reducible first | exact HI322.out | apply IsS50.alloc | apply IsS50.drewN | apply IsS50.drew | apply IsS50.set_0 | apply IsS50.set_1 | apply IsS50.set_2 | apply IsS50.set_3 | apply IsS50.set_4 | refine IsS50.far ?_ NB322_345.out _) | exact HI322.out)) (by (with_reducible repeat (first | apply Kd.R_alloc | apply Kd.R_drewN | apply Kd.R_drew)); exact HO_346000.out) (by decide)) hk (fun _ h => h.2)) (fun _ h => h.1)); have n1_ := Aside0.mk (Kd.R_mono (Kd.R_keep (IsS50.apart (show IsS50 w _ g322 x323000_75 x323001_75 x323002_75 x323003_75 x323004_75 from by repeat (first | (with_reducible first | exact HI322.out | apply IsS50.alloc | apply IsS50.drewN | apply IsS50.drew | apply IsS50.set_0 | apply IsS50.set_1 | apply IsS50.set_2 | apply IsS50.set_3 | apply IsS50.set_4 | refine IsS50.far ?_ NB322_345.out _) | exact HI322.out)) (by (with_reducible repeat (first | apply Kd.R_alloc | apply Kd.R_drewN | apply Kd.R_drew)); exact HO_346001.out) (by decide)) hk (fun _ h => h.2)) (fun _ h => h.1)); have n2_ := Aside0.mk (KeepBut.blk hk (g' := gb345) (o := .cells #[.slice Ao14 t337.length co14, .slice Ao17 t340.length co17, .int .i64 t343, .int .i64 t344] 28 (0, 0)) (by (with_reducible repeat (first | refine blk_drewN ?_ _ | refine blk_drew ?_ | refine blk_alloc ?_ _)); exact BK345.out) NB345_322.out (by simp)); have n3_ := Aside0.mk (hb); have n4_ := Aside0.mk (hi); clear HO_346000; clear HO_346001; clear BK345; clear HB; clear HI322; have HO_346000 := n0_; have HO_346001 := n1_; have BK345 := n2_; have HB := n3_; have HI322 := n4_; clear n0_ n1_ n2_ n3_ n4_; (try clear hb); (try clear hb2); (try clear hk); (try clear hi); have hnb90 := NB345_322.out; have hnc90 := NB322_345.out; have hcz91_0 : w89.cell? ⟨gb345, 0, none⟩ = some (.slice Ao14 t337.length co14) := (blk_cell BK345.out 0).trans rfl; have hcz91_1 : w89.cell? ⟨gb345, 1, none⟩ = some (.slice Ao17 t340.length co17) := (blk_cell BK345.out 1).trans rfl; have hcz91_2 : w89.cell? ⟨gb345, 2, none⟩ = some (.int .i64 t343) := (blk_cell BK345.out 2).trans rfl; have hcz91_3 : w89.cell? ⟨gb345, 3, none⟩ = some (.int .i64 t344) := (blk_cell BK345.out 3).trans rfl; have hfz91_0 := blk_frozen BK345.out 0; have hfz91_1 := blk_frozen BK345.out 1; have hfz91_2 := blk_frozen BK345.out 2; have hfz91_3 := blk_frozen BK345.out 3))
                        go_ret
                        exact ⟨by first | rfl | (simp [errW_none, errW_some] <;> rfl) | (simp [*, errW_none, errW_some] <;> rfl), by repeat (first | (with_reducible first | exact HB.out | apply below_alloc | apply pw_below_drewN | apply below_drew1 | refine below_set ?_ (IsS50.ge HI322.out) | refine below_set ?_ GE345.out) | exact HB.out)⟩
                      · replace c88 := Bool.eq_false_iff.mpr c88
                        subst c88
                        have H1 : (if t371 = 0 then (some false) else ((winklelaw10_awake.f kj75).bind fun t377 => (some t377))) = some r := by rw [if_neg (show ¬ (false = true) by decide)] at H; exact H
                        clear H
                        have H := H1
                        clear H1
                        by_cases c92 : t371 = 0
                        · rw [if_pos c92] at H
                          have c92b0 : (t371 == 0) = true := beq_iff_eq.mpr c92
                          have c92b1 : (t371 != 0) = false := bne_eq_false_iff_eq.mpr c92
                          clear c92
                          obtain rfl := Option.some.inj H
                          go_wp2_with (first | ((with_reducible refine gate_callee (f := 17) rfl ?_); refine goesL_ (some 129) rfl rfl Try.func17 (by kernel_rfl) rfl #[.pointer (some ⟨g322, 0, none⟩), .int .u8 61] rfl (by (try simp only [List.map_toArray, List.map_cons, List.map_nil]); first | done | rfl | (simp only [List.length_drop, List.length_take]; rfl)) ?_; (with_reducible refine (sixbits_Decoder_Put.calls kj75 g322 x323000_75 x323001_75 x323002_75 x323003_75 x323004_75 61 t369 false t371 t372 t373 t374 t375 t376 w _ ?side1 ?side2 A86.out).mono ?_); (case side1 => repeat (first | (with_reducible first | exact HI322.out | apply IsS50.alloc | apply IsS50.drewN | apply IsS50.drew | apply IsS50.set_0 | apply IsS50.set_1 | apply IsS50.set_2 | apply IsS50.set_3 | apply IsS50.set_4 | refine IsS50.far ?_ NB322_345.out _) | exact HI322.out)); (case side2 => repeat (first | (with_reducible first | exact HB.out | apply below_alloc | apply pw_below_drewN | apply below_drew1 | refine below_set ?_ (IsS50.ge HI322.out) | refine below_set ?_ GE345.out) | exact HB.out)); rintro e w93 ⟨rfl, hi, hb, hk⟩; refine ⟨_, rfl, ?_⟩; have n0_ := Aside0.mk (Kd.R_mono (Kd.R_keep (IsS50.apart (show IsS50 w _ g322 x323000_75 x323001_75 x323002_75 x323003_75 x323004_75 from by repeat (first | (with_reducible first | exact HI322.out | apply IsS50.alloc | apply IsS50.drewN | apply IsS50.drew | apply IsS50.set_0 | apply IsS50.set_1 | apply IsS50.set_2 | apply IsS50.set_3 | apply IsS50.set_4 | refine IsS50.far ?_ NB322_345.out _) | exact HI322.out)) (by (with_reducible repeat (first | apply Kd.R_alloc | apply Kd.R_drewN | apply Kd.R_drew)); exact HO_346000.out) (by decide)) hk (fun _ h => h.2)) (fun _ h => h.1)); have n1_ := Aside0.mk (Kd.R_mono (Kd.R_keep (IsS50.apart (show IsS50 w _ g322 x323000_75 x323001_75 x323002_75 x323003_75 x323004_75 from by repeat (first | (with_reducible first | exact HI322.out | apply IsS50.alloc | apply IsS50.drewN | apply IsS50.drew | apply IsS50.set_0 | apply IsS50.set_1 | apply IsS50.set_2 | apply IsS50.set_3 | apply IsS50.set_4 | refine IsS50.far ?_ NB322_345.out _) | exact HI322.out)) (by (with_reducible repeat (first | apply Kd.R_alloc | apply Kd.R_drewN | apply Kd.R_drew)); exact HO_346001.out) (by decide)) hk (fun _ h => h.2)) (fun _ h => h.1)); have n2_ := Aside0.mk (KeepBut.blk hk (g' := gb345) (o := .cells #[.slice Ao14 t337.length co14, .slice Ao17 t340.length co17, .int .i64 t343, .int .i64 t344] 28 (0, 0)) (by (with_reducible repeat (first | refine blk_drewN ?_ _ | refine blk_drew ?_ | refine blk_alloc ?_ _)); exact BK345.out) NB345_322.out (by simp)); have n3_ := Aside0.mk (hb); have n4_ := Aside0.mk (hi); clear HO_346000; clear HO_346001; clear BK345; clear HB; clear HI322; have HO_346000 := n0_; have HO_346001 := n1_; have BK345 := n2_; have HB := n3_; have HI322 := n4_; clear n0_ n1_ n2_ n3_ n4_; (try clear hb); (try clear hb2); (try clear hk); (try clear hi); have hnb94 := NB345_322.out; have hnc94 := NB322_345.out; have hcz95_0 : w93.cell? ⟨gb345, 0, none⟩ = some (.slice Ao14 t337.length co14) := (blk_cell BK345.out 0).trans rfl; have hcz95_1 : w93.cell? ⟨gb345, 1, none⟩ = some (.slice Ao17 t340.length co17) := (blk_cell BK345.out 1).trans rfl; have hcz95_2 : w93.cell? ⟨gb345, 2, none⟩ = some (.int .i64 t343) := (blk_cell BK345.out 2).trans rfl; have hcz95_3 : w93.cell? ⟨gb345, 3, none⟩ = some (.int .i64 t344) := (blk_cell BK345.out 3).trans rfl; have hfz95_0 := blk_frozen BK345.out 0; have hfz95_1 := blk_frozen BK345.out 1; have hfz95_2 := blk_frozen BK345.out 2; have hfz95_3 := blk_frozen BK345.out 3))
                          go_ret
                          exact ⟨by first | rfl | (simp [errW_none, errW_some] <;> rfl) | (simp [*, errW_none, errW_some] <;> rfl), by repeat (first | (with_reducible first | exact HB.out | apply below_alloc | apply pw_below_drewN | apply below_drew1 | refine below_set ?_ (IsS50.ge HI322.out) | refine below_set ?_ GE345.out) | exact HB.out)⟩
                        · rw [if_neg c92] at H
                          have c92b0 : (t371 == 0) = false := beq_eq_false_iff_ne.mpr c92
                          have c92b1 : (t371 != 0) = true := bne_iff_ne.mpr c92
                          replace H := Option.bind_eq_some_iff.mp H
                          obtain ⟨t377, A960, H⟩ := H
                          replace H : (some t377) = some r := H
                          have A96 := Aside0.mk A960
                          clear A960
                          obtain rfl := Option.some.inj H
                          go_wp2_with (first | ((with_reducible refine gate_callee (f := 17) rfl ?_); refine goesL_ (some 129) rfl rfl Try.func17 (by kernel_rfl) rfl #[.pointer (some ⟨g322, 0, none⟩), .int .u8 61] rfl (by (try simp only [List.map_toArray, List.map_cons, List.map_nil]); first | done | rfl | (simp only [List.length_drop, List.length_take]; rfl)) ?_; (with_reducible refine (sixbits_Decoder_Put.calls kj75 g322 x323000_75 x323001_75 x323002_75 x323003_75 x323004_75 61 t369 false t371 t372 t373 t374 t375 t376 w _ ?side1 ?side2 A86.out).mono ?_); (case side1 => repeat (first | (with_reducible first | exact HI322.out | apply IsS50.alloc | apply IsS50.drewN | apply IsS50.drew | apply IsS50.set_0 | apply IsS50.set_1 | apply IsS50.set_2 | apply IsS50.set_3 | apply IsS50.set_4 | refine IsS50.far ?_ NB322_345.out _) | exact HI322.out)); (case side2 => repeat (first | (with_reducible first | exact HB.out | apply below_alloc | apply pw_below_drewN | apply below_drew1 | refine below_set ?_ (IsS50.ge HI322.out) | refine below_set ?_ GE345.out) | exact HB.out)); rintro e w97 ⟨rfl, hi, hb, hk⟩; refine ⟨_, rfl, ?_⟩; have n0_ := Aside0.mk (Kd.R_mono (Kd.R_keep (IsS50.apart (show IsS50 w _ g322 x323000_75 x323001_75 x323002_75 x323003_75 x323004_75 from by repeat (first | (with_reducible first | exact HI322.out | apply IsS50.alloc | apply IsS50.drewN | apply IsS50.drew | apply IsS50.set_0 | apply IsS50.set_1 | apply IsS50.set_2 | apply IsS50.set_3 | apply IsS50.set_4 | refine IsS50.far ?_ NB322_345.out _) | exact HI322.out)) (by (with_reducible repeat (first | apply Kd.R_alloc | apply Kd.R_drewN | apply Kd.R_drew)); exact HO_346000.out) (by decide)) hk (fun _ h => h.2)) (fun _ h => h.1)); have n1_ := Aside0.mk (Kd.R_mono (Kd.R_keep (IsS50.apart (show IsS50 w _ g322 x323000_75 x323001_75 x323002_75 x323003_75 x323004_75 from by repeat (first | (with_reducible first | exact HI322.out | apply IsS50.alloc | apply IsS50.drewN | apply IsS50.drew | apply IsS50.set_0 | apply IsS50.set_1 | apply IsS50.set_2 | apply IsS50.set_3 | apply IsS50.set_4 | refine IsS50.far ?_ NB322_345.out _) | exact HI322.out)) (by (with_reducible repeat (first | apply Kd.R_alloc | apply Kd.R_drewN | apply Kd.R_drew)); exact HO_346001.out) (by decide)) hk (fun _ h => h.2)) (fun _ h => h.1)); have n2_ := Aside0.mk (KeepBut.blk hk (g' := gb345) (o := .cells #[.slice Ao14 t337.length co14, .slice Ao17 t340.length co17, .int .i64 t343, .int .i64 t344] 28 (0, 0)) (by (with_reducible repeat (first | refine blk_drewN ?_ _ | refine blk_drew ?_ | refine blk_alloc ?_ _)); exact BK345.out) NB345_322.out (by simp)); have n3_ := Aside0.mk (hb); have n4_ := Aside0.mk (hi); clear HO_346000; clear HO_346001; clear BK345; clear HB; clear HI322; have HO_346000 := n0_; have HO_346001 := n1_; have BK345 := n2_; have HB := n3_; have HI322 := n4_; clear n0_ n1_ n2_ n3_ n4_; (try clear hb); (try clear hb2); (try clear hk); (try clear hi); have hnb98 := NB345_322.out; have hnc98 := NB322_345.out; have hcz99_0 : w97.cell? ⟨gb345, 0, none⟩ = some (.slice Ao14 t337.length co14) := (blk_cell BK345.out 0).trans rfl; have hcz99_1 : w97.cell? ⟨gb345, 1, none⟩ = some (.slice Ao17 t340.length co17) := (blk_cell BK345.out 1).trans rfl; have hcz99_2 : w97.cell? ⟨gb345, 2, none⟩ = some (.int .i64 t343) := (blk_cell BK345.out 2).trans rfl; have hcz99_3 : w97.cell? ⟨gb345, 3, none⟩ = some (.int .i64 t344) := (blk_cell BK345.out 3).trans rfl; have hfz99_0 := blk_frozen BK345.out 0; have hfz99_1 := blk_frozen BK345.out 1; have hfz99_2 := blk_frozen BK345.out 2; have hfz99_3 := blk_frozen BK345.out 3) | (go_at_call 13; (with_reducible refine (winklelaw10_awake.calls kj75  t377 _ A96.out).mono ?_); rintro e w100 ⟨rfl, hb⟩; have n0_ := Aside0.mk (Kd.R_below (by (with_reducible repeat (first | apply Kd.R_alloc | apply Kd.R_drewN | apply Kd.R_drew)); exact HO_346000.out) hb); have n1_ := Aside0.mk (Kd.R_below (by (with_reducible repeat (first | apply Kd.R_alloc | apply Kd.R_drewN | apply Kd.R_drew)); exact HO_346001.out) hb); have n2_ := Aside0.mk (blk_below (g := gb345) (o := .cells #[.slice Ao14 t337.length co14, .slice Ao17 t340.length co17, .int .i64 t343, .int .i64 t344] 28 (0, 0)) (by (with_reducible repeat (first | refine blk_drewN ?_ _ | refine blk_drew ?_ | refine blk_alloc ?_ _)); exact BK345.out) hb); have n3_ := Aside0.mk (IsS50.below (by repeat (first | (with_reducible first | exact HI322.out | apply IsS50.alloc | apply IsS50.drewN | apply IsS50.drew | apply IsS50.set_0 | apply IsS50.set_1 | apply IsS50.set_2 | apply IsS50.set_3 | apply IsS50.set_4 | refine IsS50.far ?_ NB322_345.out _) | exact HI322.out)) hb); have n4_ := Aside0.mk (below_step (by repeat (first | (with_reducible first | exact HB.out | apply below_alloc | apply pw_below_drewN | apply below_drew1 | refine below_set ?_ (IsS50.ge HI322.out) | refine below_set ?_ GE345.out) | exact HB.out)) hb); clear HO_346000; clear HO_346001; clear BK345; clear HI322; clear HB; have HO_346000 := n0_; have HO_346001 := n1_; have BK345 := n2_; have HI322 := n3_; have HB := n4_; clear n0_ n1_ n2_ n3_ n4_; (try clear hb); (try clear hb2); (try clear hk); (try clear hi)))
                          go_ret
                          exact ⟨by first | rfl | (simp [errW_none, errW_some] <;> rfl) | (simp [*, errW_none, errW_some] <;> rfl), by repeat (first | (with_reducible first | exact HB.out | apply below_alloc | apply pw_below_drewN | apply below_drew1 | refine below_set ?_ (IsS50.ge HI322.out) | refine below_set ?_ GE345.out) | exact HB.out)⟩
                    · rw [if_neg c87] at H
                      have c87b0 : (x8_2 == (t337.length : Int)) = false := beq_eq_false_iff_ne.mpr c87
                      have c87b1 : (x8_2 != (t337.length : Int)) = true := bne_iff_ne.mpr c87
                      obtain rfl := Option.some.inj H
                      go_wp2_with (first | ((with_reducible refine gate_callee (f := 17) rfl ?_); refine goesL_ (some 129) rfl rfl Try.func17 (by kernel_rfl) rfl #[.pointer (some ⟨g322, 0, none⟩), .int .u8 61] rfl (by (try simp only [List.map_toArray, List.map_cons, List.map_nil]); first | done | rfl | (simp only [List.length_drop, List.length_take]; rfl)) ?_; (with_reducible refine (sixbits_Decoder_Put.calls kj75 g322 x323000_75 x323001_75 x323002_75 x323003_75 x323004_75 61 t369 t370 t371 t372 t373 t374 t375 t376 w _ ?side1 ?side2 A86.out).mono ?_); (case side1 => repeat (first | (with_reducible first | exact HI322.out | apply IsS50.alloc | apply IsS50.drewN | apply IsS50.drew | apply IsS50.set_0 | apply IsS50.set_1 | apply IsS50.set_2 | apply IsS50.set_3 | apply IsS50.set_4 | refine IsS50.far ?_ NB322_345.out _) | exact HI322.out)); (case side2 => repeat (first | (with_reducible first | exact HB.out | apply below_alloc | apply pw_below_drewN | apply below_drew1 | refine below_set ?_ (IsS50.ge HI322.out) | refine below_set ?_ GE345.out) | exact HB.out)); rintro e w101 ⟨rfl, hi, hb, hk⟩; refine ⟨_, rfl, ?_⟩; have n0_ := Aside0.mk (Kd.R_mono (Kd.R_keep (IsS50.apart (show IsS50 w _ g322 x323000_75 x323001_75 x323002_75 x323003_75 x323004_75 from by repeat (first | (with_reducible first | exact HI322.out | apply IsS50.alloc | apply IsS50.drewN | apply IsS50.drew | apply IsS50.set_0 | apply IsS50.set_1 | apply IsS50.set_2 | apply IsS50.set_3 | apply IsS50.set_4 | refine IsS50.far ?_ NB322_345.out _) | exact HI322.out)) (by (with_reducible repeat (first | apply Kd.R_alloc | apply Kd.R_drewN | apply Kd.R_drew)); exact HO_346000.out) (by decide)) hk (fun _ h => h.2)) (fun _ h => h.1)); have n1_ := Aside0.mk (Kd.R_mono (Kd.R_keep (IsS50.apart (show IsS50 w _ g322 x323000_75 x323001_75 x323002_75 x323003_75 x323004_75 from by repeat (first | (with_reducible first | exact HI322.out | apply IsS50.alloc | apply IsS50.drewN | apply IsS50.drew | apply IsS50.set_0 | apply IsS50.set_1 | apply IsS50.set_2 | apply IsS50.set_3 | apply IsS50.set_4 | refine IsS50.far ?_ NB322_345.out _) | exact HI322.out)) (by (with_reducible repeat (first | apply Kd.R_alloc | apply Kd.R_drewN | apply Kd.R_drew)); exact HO_346001.out) (by decide)) hk (fun _ h => h.2)) (fun _ h => h.1)); have n2_ := Aside0.mk (KeepBut.blk hk (g' := gb345) (o := .cells #[.slice Ao14 t337.length co14, .slice Ao17 t340.length co17, .int .i64 t343, .int .i64 t344] 28 (0, 0)) (by (with_reducible repeat (first | refine blk_drewN ?_ _ | refine blk_drew ?_ | refine blk_alloc ?_ _)); exact BK345.out) NB345_322.out (by simp)); have n3_ := Aside0.mk (hb); have n4_ := Aside0.mk (hi); clear HO_346000; clear HO_346001; clear BK345; clear HB; clear HI322; have HO_346000 := n0_; have HO_346001 := n1_; have BK345 := n2_; have HB := n3_; have HI322 := n4_; clear n0_ n1_ n2_ n3_ n4_; (try clear hb); (try clear hb2); (try clear hk); (try clear hi); have hnb102 := NB345_322.out; have hnc102 := NB322_345.out; have hcz103_0 : w101.cell? ⟨gb345, 0, none⟩ = some (.slice Ao14 t337.length co14) := (blk_cell BK345.out 0).trans rfl; have hcz103_1 : w101.cell? ⟨gb345, 1, none⟩ = some (.slice Ao17 t340.length co17) := (blk_cell BK345.out 1).trans rfl; have hcz103_2 : w101.cell? ⟨gb345, 2, none⟩ = some (.int .i64 t343) := (blk_cell BK345.out 2).trans rfl; have hcz103_3 : w101.cell? ⟨gb345, 3, none⟩ = some (.int .i64 t344) := (blk_cell BK345.out 3).trans rfl; have hfz103_0 := blk_frozen BK345.out 0; have hfz103_1 := blk_frozen BK345.out 1; have hfz103_2 := blk_frozen BK345.out 2; have hfz103_3 := blk_frozen BK345.out 3))
                      go_ret
                      exact ⟨by first | rfl | (simp [errW_none, errW_some] <;> rfl) | (simp [*, errW_none, errW_some] <;> rfl), by repeat (first | (with_reducible first | exact HB.out | apply below_alloc | apply pw_below_drewN | apply below_drew1 | refine below_set ?_ (IsS50.ge HI322.out) | refine below_set ?_ GE345.out) | exact HB.out)⟩

/-- THE ONE PURE STATEMENT of winklelaw10_SixbitsSteps: yours. -/
def winklelaw10_SixbitsSteps.Pure : Prop := ∀ (l0 : List Int) (l1 : List Int), l0.length ≤ maxLen → l0.length * 1 ≤ 140737488351232 → (∀ x ∈ l0, (Lit.int .u8 x).wf = true) → l1.length ≤ maxLen → l1.length * 1 ≤ 140737488351232 → (∀ x ∈ l1, (Lit.int .u8 x).wf = true) → ∃ k, winklelaw10_SixbitsSteps.f k l0 l1 = some true
theorem winklelaw10_SixbitsSteps.walk (P : winklelaw10_SixbitsSteps.Pure) (a0 : Option Addr) (len0 cap0 : Nat) (z0 : List Int) (a1 : Option Addr) (len1 cap1 : Nat) (z1 : List Int) (w : World) (w0 : (a0 = none ∧ len0 = 0 ∧ cap0 = 0 ∧ z0 = []) ∨ ∃ x, a0 = some x ∧ len0 ≤ cap0 ∧ cap0 ≤ maxLen ∧ z0.length = cap0 ∧ (∀ i, i < z0.length → w.cell? (x.add i) = some (.int .u8 (z0.getD i 0))) ∧ ∀ n ∈ z0, (Lit.int .u8 n).wf = true) (y0 : len0 * 1 ≤ 140737488351232) (w1 : (a1 = none ∧ len1 = 0 ∧ cap1 = 0 ∧ z1 = []) ∨ ∃ x, a1 = some x ∧ len1 ≤ cap1 ∧ cap1 ≤ maxLen ∧ z1.length = cap1 ∧ (∀ i, i < z1.length → w.cell? (x.add i) = some (.int .u8 (z1.getD i 0))) ∧ ∀ n ∈ z1, (Lit.int .u8 n).wf = true) (y1 : len1 * 1 ≤ 140737488351232) :
    Calls Try.prog 8 #[.slice a0 len0 cap0, .slice a1 len1 cap1] w fun e w' => e = .returned (.bool true) ∧ Below w.heap.size w w' := by
  obtain ⟨l0, rfl, hr0, hm0, hw0, hc0⟩ := ReadsInt.ofRowC w0
  obtain ⟨l1, rfl, hr1, hm1, hw1, hc1⟩ := ReadsInt.ofRowC w1
  obtain ⟨k, h⟩ := P l0 l1 hm0 y0 hw0 hm1 y1 hw1
  refine (winklelaw10_SixbitsSteps.calls k _ _ l0 _ _ l1 true w (Kd.C_of_reads (d := (0 : Int)) (h1 := fun _ => rfl) hr0) hc0 (Kd.C_of_reads (d := (0 : Int)) (h1 := fun _ => rfl) hr1) hc1 h).mono ?_
  rintro e w' ⟨rfl, hd⟩
  exact ⟨rfl, hd⟩

end Go.Proofs.Ytgapacibhagicaa.PAll
