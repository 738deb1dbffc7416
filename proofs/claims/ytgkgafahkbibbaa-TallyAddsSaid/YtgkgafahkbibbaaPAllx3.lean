-- Laid by a program of this session (a turned printer)
import Derived.Test.YtgkgafahkbibbaaPAllx0
import Derived.Test.YtgkgafahkbibbaaAdd
namespace Go.Proofs.Ytgkgafahkbibbaa.PAll
open Go.RowKit Go.Proofs.YtgkgafahkbibbaaW.PrintWords Go.Proofs.YtgkgafahkbibbaaW.PrintLast Go.Proofs.YtgkgafahkbibbaaW.PrintMore
attribute [local go_sem] max2_int min2_int max_two min_two max_three min_three max_four min_four   -- for this text's walks alone
set_option linter.unusedVariables false
set_option linter.unusedSimpArgs false

-- NOT PRINTED: function 22 (bits_Add64)

-- GIVEN rounds=0 making=0
-- IMPORT Derived.Test.YtgkgafahkbibbaaAdd


/-! ### bits_Mul64: function 23 -/
def bits_Mul64.f (a0 : Int) (a1 : Int) : Option (Int × Int) := some (IntKind.u64.wrap ((IntKind.u64.wrap ((IntKind.u64.wrap ((a0 / 4294967296) * (a1 / 4294967296))) + ((IntKind.u64.wrap ((IntKind.u64.wrap ((a0 / 4294967296) * (Go.bits .and .u64 a1 4294967295))) + ((IntKind.u64.wrap ((Go.bits .and .u64 a0 4294967295) * (Go.bits .and .u64 a1 4294967295))) / 4294967296))) / 4294967296))) + ((IntKind.u64.wrap ((Go.bits .and .u64 (IntKind.u64.wrap ((IntKind.u64.wrap ((a0 / 4294967296) * (Go.bits .and .u64 a1 4294967295))) + ((IntKind.u64.wrap ((Go.bits .and .u64 a0 4294967295) * (Go.bits .and .u64 a1 4294967295))) / 4294967296))) 4294967295) + (IntKind.u64.wrap ((Go.bits .and .u64 a0 4294967295) * (a1 / 4294967296))))) / 4294967296)), IntKind.u64.wrap (a0 * a1))
set_option maxHeartbeats 8000000 in
set_option maxRecDepth 100000 in
theorem bits_Mul64.calls (a0 : Int) (a1 : Int) (r1 : Int) (r2 : Int) (w : World) (h : bits_Mul64.f a0 a1 = some (r1, r2)) :
    Calls Try.prog 23 #[.int .u64 a0, .int .u64 a1] w fun e w' => e = .returned (.tuple #[.int .u64 r1, .int .u64 r2]) ∧ Drawn0 w w' := by
  have H : (some (IntKind.u64.wrap ((IntKind.u64.wrap ((IntKind.u64.wrap ((a0 / 4294967296) * (a1 / 4294967296))) + ((IntKind.u64.wrap ((IntKind.u64.wrap ((a0 / 4294967296) * (Go.bits .and .u64 a1 4294967295))) + ((IntKind.u64.wrap ((Go.bits .and .u64 a0 4294967295) * (Go.bits .and .u64 a1 4294967295))) / 4294967296))) / 4294967296))) + ((IntKind.u64.wrap ((Go.bits .and .u64 (IntKind.u64.wrap ((IntKind.u64.wrap ((a0 / 4294967296) * (Go.bits .and .u64 a1 4294967295))) + ((IntKind.u64.wrap ((Go.bits .and .u64 a0 4294967295) * (Go.bits .and .u64 a1 4294967295))) / 4294967296))) 4294967295) + (IntKind.u64.wrap ((Go.bits .and .u64 a0 4294967295) * (a1 / 4294967296))))) / 4294967296)), IntKind.u64.wrap (a0 * a1))) = some (r1, r2) := h
  clear h
  simp only [Option.some.injEq, Prod.mk.injEq] at H
  obtain ⟨rfl, rfl⟩ := H
  go_enter Try.func23, Try.ntmps23
  go_wp2
  go_ret2
  exact ⟨by first | rfl | (simp; done) | (simp [*]; done), by repeat (first | exact Drawn0.refl _ | apply Drawn0.step)⟩

/-! ### tally_Times: function 17 -/
def tally_Times.f (a0 : Int) (a1 : Int) : Option (Int) := (bits_Mul64.f a0 a1).bind fun bt188 => (if bt188.1 = 0 then (some bt188.2) else (some 18446744073709551615))
set_option maxHeartbeats 8000000 in
set_option maxRecDepth 100000 in
theorem tally_Times.calls (a0 : Int) (a1 : Int) (r : Int) (w : World) (h : tally_Times.f a0 a1 = some r) :
    Calls Try.prog 17 #[.int .u64 a0, .int .u64 a1] w fun e w' => e = .returned (.int .u64 r) ∧ Drawn0 w w' := by
  have H : ((bits_Mul64.f a0 a1).bind fun bt188 => (if bt188.1 = 0 then (some bt188.2) else (some 18446744073709551615))) = some r := h
  clear h
  replace H := Option.bind_eq_some_iff.mp H
  obtain ⟨⟨t188, t189⟩, A30, H⟩ := H
  replace H : (if t188 = 0 then (some t189) else (some 18446744073709551615)) = some r := H
  have A3 := Aside0.mk A30
  clear A30
  by_cases c4 : t188 = 0
  · rw [if_pos c4] at H
    have c4b0 : (t188 == 0) = true := beq_iff_eq.mpr c4
    have c4b1 : (t188 != 0) = false := bne_eq_false_iff_eq.mpr c4
    clear c4
    obtain rfl := Option.some.inj H
    go_enter Try.func17, Try.ntmps17
    go_wp2_with (first | ((with_reducible refine gate_callee (f := 23) rfl ?_); refine goesL_ (some 10) rfl rfl Try.func23 (by kernel_rfl) rfl #[.int .u64 a0, .int .u64 a1] rfl (by (try simp only [List.map_toArray, List.map_cons, List.map_nil]); first | done | rfl | (simp only [List.length_drop, List.length_take]; rfl)) ?_; (with_reducible refine (bits_Mul64.calls a0 a1 t188 t189 _ A3.out).mono ?_); rintro e w' ⟨rfl, ⟨nd, rfl⟩⟩; refine ⟨_, rfl, ?_⟩))
    go_ret
    exact ⟨by first | rfl | (simp; done) | (simp [*]; done), by repeat (first | exact Drawn0.refl _ | apply Drawn0.step)⟩
  · rw [if_neg c4] at H
    have c4b0 : (t188 == 0) = false := beq_eq_false_iff_ne.mpr c4
    have c4b1 : (t188 != 0) = true := bne_iff_ne.mpr c4
    obtain rfl := Option.some.inj H
    go_enter Try.func17, Try.ntmps17
    go_wp2_with (first | ((with_reducible refine gate_callee (f := 23) rfl ?_); refine goesL_ (some 10) rfl rfl Try.func23 (by kernel_rfl) rfl #[.int .u64 a0, .int .u64 a1] rfl (by (try simp only [List.map_toArray, List.map_cons, List.map_nil]); first | done | rfl | (simp only [List.length_drop, List.length_take]; rfl)) ?_; (with_reducible refine (bits_Mul64.calls a0 a1 t188 t189 _ A3.out).mono ?_); rintro e w' ⟨rfl, ⟨nd, rfl⟩⟩; refine ⟨_, rfl, ?_⟩))
    go_ret
    exact ⟨by first | rfl | (simp; done) | (simp [*]; done), by repeat (first | exact Drawn0.refl _ | apply Drawn0.step)⟩

/-! ### winklelaw01_TallyOrders: function 6 -/
def winklelaw01_TallyOrders.j0 : Nat → Int → Int → Int → Bool → Option (Bool)
  | 0, _, _, _, _ => none
  | k + 1, x0, x1, x2, x49 => if x49 = true then (some false) else ((tally_Add.f x0 x2).bind fun t202 => ((tally_Add.f t202 x1).bind fun t203 => ((tally_Add.f x0 x1).bind fun t204 => (if t203 ≥ t204 then ((tally_Times.f t202 x1).bind fun t205 => ((tally_Times.f x0 x1).bind fun t206 => (if t205 ≥ t206 then ((tally_Add.f x0 0).bind fun t207 => (if t207 = x0 then ((tally_Times.f x0 1).bind fun t208 => (if t208 = x0 then ((tally_Times.f x0 0).bind fun t209 => (if t209 = 0 then ((tally_Add.f x0 x1).bind fun t210 => (some (decide (t210 ≥ x0)))) else (some false))) else (some false))) else (some false))) else (some false)))) else (some false)))))
def winklelaw01_TallyOrders.f (k : Nat) (a0 : Int) (a1 : Int) (a2 : Int) : Option (Bool) := (tally_Add.f a0 a1).bind fun t190 => ((tally_Add.f a1 a0).bind fun t191 => (if t190 = t191 then ((tally_Times.f a0 a1).bind fun t192 => ((tally_Times.f a1 a0).bind fun t193 => (if t192 = t193 then ((tally_Add.f a0 a1).bind fun t194 => ((tally_Add.f t194 a2).bind fun t195 => ((tally_Add.f a1 a2).bind fun t196 => ((tally_Add.f a0 t196).bind fun t197 => (if t195 = t197 then ((tally_Times.f a0 a1).bind fun t198 => ((tally_Times.f t198 a2).bind fun t199 => ((tally_Times.f a1 a2).bind fun t200 => ((tally_Times.f a0 t200).bind fun t201 => (winklelaw01_TallyOrders.j0 k a0 a1 a2 (t199 != t201)))))) else (winklelaw01_TallyOrders.j0 k a0 a1 a2 true)))))) else (winklelaw01_TallyOrders.j0 k a0 a1 a2 true)))) else (winklelaw01_TallyOrders.j0 k a0 a1 a2 true)))
theorem winklelaw01_TallyOrders.mono_l : ∀ k, (∀ y0 y1 y2 y3, LeO (winklelaw01_TallyOrders.j0 k y0 y1 y2 y3) (winklelaw01_TallyOrders.j0 (k + 1) y0 y1 y2 y3))
  | 0 => fun _ _ _ _ r h => by simp [winklelaw01_TallyOrders.j0] at h
  | k + 1 => by
    have ih0 := winklelaw01_TallyOrders.mono_l k
    · intro y0 y1 y2 y3
      unfold winklelaw01_TallyOrders.j0
      repeat' first
      | (with_reducible exact ih0 _ _ _ _)
      | (with_reducible exact LeO.refl _)
      | (with_reducible exact LeO.none _)
      | (with_reducible refine LeO.ite ?_ ?_)
      | (with_reducible refine LeO.bind ?_ (fun _ => ?_))
      | exact ih0 _ _ _ _
      | exact LeO.none _
      | refine LeO.ite ?_ ?_
      | refine LeO.bind ?_ (fun _ => ?_)
theorem winklelaw01_TallyOrders.mono : ∀ a0 a1 a2 k, LeO (winklelaw01_TallyOrders.f k a0 a1 a2) (winklelaw01_TallyOrders.f (k + 1) a0 a1 a2) := by
  intro a0 a1 a2 k
  have ih0 := winklelaw01_TallyOrders.mono_l k
  unfold winklelaw01_TallyOrders.f
  repeat' first
      | (with_reducible exact ih0 _ _ _ _)
      | (with_reducible exact LeO.refl _)
      | (with_reducible exact LeO.none _)
      | (with_reducible refine LeO.ite ?_ ?_)
      | (with_reducible refine LeO.bind ?_ (fun _ => ?_))
      | exact ih0 _ _ _ _
      | exact LeO.none _
      | refine LeO.ite ?_ ?_
      | refine LeO.bind ?_ (fun _ => ?_)
set_option maxHeartbeats 8000000 in
set_option maxRecDepth 100000 in
theorem winklelaw01_TallyOrders.calls (k : Nat) (a0 : Int) (a1 : Int) (a2 : Int) (r : Bool) (w : World) (h : winklelaw01_TallyOrders.f k a0 a1 a2 = some r) :
    Calls Try.prog 6 #[.int .u64 a0, .int .u64 a1, .int .u64 a2] w fun e w' => e = .returned (.bool r) ∧ Drawn0 w w' := by
  have H : ((tally_Add.f a0 a1).bind fun t190 => ((tally_Add.f a1 a0).bind fun t191 => (if t190 = t191 then ((tally_Times.f a0 a1).bind fun t192 => ((tally_Times.f a1 a0).bind fun t193 => (if t192 = t193 then ((tally_Add.f a0 a1).bind fun t194 => ((tally_Add.f t194 a2).bind fun t195 => ((tally_Add.f a1 a2).bind fun t196 => ((tally_Add.f a0 t196).bind fun t197 => (if t195 = t197 then ((tally_Times.f a0 a1).bind fun t198 => ((tally_Times.f t198 a2).bind fun t199 => ((tally_Times.f a1 a2).bind fun t200 => ((tally_Times.f a0 t200).bind fun t201 => (winklelaw01_TallyOrders.j0 k a0 a1 a2 (t199 != t201)))))) else (winklelaw01_TallyOrders.j0 k a0 a1 a2 true)))))) else (winklelaw01_TallyOrders.j0 k a0 a1 a2 true)))) else (winklelaw01_TallyOrders.j0 k a0 a1 a2 true)))) = some r := h
  clear h
  have HC4 := Aside0.mk H
  clear H
  go_enter Try.func6, Try.ntmps6
  go_upto_region 1 with (fail)
  go_cut [49] (fun v49 wc => ∃ (kq : Nat) (x49_3 : Bool), v49 = .bool x49_3 ∧ Aside0 (winklelaw01_TallyOrders.j0 kq a0 a1 a2 x49_3 = some r) ∧ Aside0 (kq ≤ k) ∧ Drawn0 w wc)
  case first =>
    have H := HC4.out
    clear HC4
    replace H := Option.bind_eq_some_iff.mp H
    obtain ⟨t190, A50, H⟩ := H
    replace H : ((tally_Add.f a1 a0).bind fun t191 => (if t190 = t191 then ((tally_Times.f a0 a1).bind fun t192 => ((tally_Times.f a1 a0).bind fun t193 => (if t192 = t193 then ((tally_Add.f a0 a1).bind fun t194 => ((tally_Add.f t194 a2).bind fun t195 => ((tally_Add.f a1 a2).bind fun t196 => ((tally_Add.f a0 t196).bind fun t197 => (if t195 = t197 then ((tally_Times.f a0 a1).bind fun t198 => ((tally_Times.f t198 a2).bind fun t199 => ((tally_Times.f a1 a2).bind fun t200 => ((tally_Times.f a0 t200).bind fun t201 => (winklelaw01_TallyOrders.j0 k a0 a1 a2 (t199 != t201)))))) else (winklelaw01_TallyOrders.j0 k a0 a1 a2 true)))))) else (winklelaw01_TallyOrders.j0 k a0 a1 a2 true)))) else (winklelaw01_TallyOrders.j0 k a0 a1 a2 true))) = some r := H
    have A5 := Aside0.mk A50
    clear A50
    replace H := Option.bind_eq_some_iff.mp H
    obtain ⟨t191, A60, H⟩ := H
    replace H : (if t190 = t191 then ((tally_Times.f a0 a1).bind fun t192 => ((tally_Times.f a1 a0).bind fun t193 => (if t192 = t193 then ((tally_Add.f a0 a1).bind fun t194 => ((tally_Add.f t194 a2).bind fun t195 => ((tally_Add.f a1 a2).bind fun t196 => ((tally_Add.f a0 t196).bind fun t197 => (if t195 = t197 then ((tally_Times.f a0 a1).bind fun t198 => ((tally_Times.f t198 a2).bind fun t199 => ((tally_Times.f a1 a2).bind fun t200 => ((tally_Times.f a0 t200).bind fun t201 => (winklelaw01_TallyOrders.j0 k a0 a1 a2 (t199 != t201)))))) else (winklelaw01_TallyOrders.j0 k a0 a1 a2 true)))))) else (winklelaw01_TallyOrders.j0 k a0 a1 a2 true)))) else (winklelaw01_TallyOrders.j0 k a0 a1 a2 true)) = some r := H
    have A6 := Aside0.mk A60
    clear A60
    by_cases c7 : t190 = t191
    · rw [if_pos c7] at H
      have c7b0 : (t190 == t191) = true := beq_iff_eq.mpr c7
      have c7b1 : (t190 != t191) = false := bne_eq_false_iff_eq.mpr c7
      clear c7
      (first | rw [c7b0] | (simp only [i64_w, i32_w]; rw [c7b0]) | skip)
      replace H := Option.bind_eq_some_iff.mp H
      obtain ⟨t192, A80, H⟩ := H
      replace H : ((tally_Times.f a1 a0).bind fun t193 => (if t192 = t193 then ((tally_Add.f a0 a1).bind fun t194 => ((tally_Add.f t194 a2).bind fun t195 => ((tally_Add.f a1 a2).bind fun t196 => ((tally_Add.f a0 t196).bind fun t197 => (if t195 = t197 then ((tally_Times.f a0 a1).bind fun t198 => ((tally_Times.f t198 a2).bind fun t199 => ((tally_Times.f a1 a2).bind fun t200 => ((tally_Times.f a0 t200).bind fun t201 => (winklelaw01_TallyOrders.j0 k a0 a1 a2 (t199 != t201)))))) else (winklelaw01_TallyOrders.j0 k a0 a1 a2 true)))))) else (winklelaw01_TallyOrders.j0 k a0 a1 a2 true))) = some r := H
      have A8 := Aside0.mk A80
      clear A80
      replace H := Option.bind_eq_some_iff.mp H
      obtain ⟨t193, A90, H⟩ := H
      replace H : (if t192 = t193 then ((tally_Add.f a0 a1).bind fun t194 => ((tally_Add.f t194 a2).bind fun t195 => ((tally_Add.f a1 a2).bind fun t196 => ((tally_Add.f a0 t196).bind fun t197 => (if t195 = t197 then ((tally_Times.f a0 a1).bind fun t198 => ((tally_Times.f t198 a2).bind fun t199 => ((tally_Times.f a1 a2).bind fun t200 => ((tally_Times.f a0 t200).bind fun t201 => (winklelaw01_TallyOrders.j0 k a0 a1 a2 (t199 != t201)))))) else (winklelaw01_TallyOrders.j0 k a0 a1 a2 true)))))) else (winklelaw01_TallyOrders.j0 k a0 a1 a2 true)) = some r := H
      have A9 := Aside0.mk A90
      clear A90
      by_cases c10 : t192 = t193
      · rw [if_pos c10] at H
        have c10b0 : (t192 == t193) = true := beq_iff_eq.mpr c10
        have c10b1 : (t192 != t193) = false := bne_eq_false_iff_eq.mpr c10
        clear c10
        replace H := Option.bind_eq_some_iff.mp H
        obtain ⟨t194, A110, H⟩ := H
        replace H : ((tally_Add.f t194 a2).bind fun t195 => ((tally_Add.f a1 a2).bind fun t196 => ((tally_Add.f a0 t196).bind fun t197 => (if t195 = t197 then ((tally_Times.f a0 a1).bind fun t198 => ((tally_Times.f t198 a2).bind fun t199 => ((tally_Times.f a1 a2).bind fun t200 => ((tally_Times.f a0 t200).bind fun t201 => (winklelaw01_TallyOrders.j0 k a0 a1 a2 (t199 != t201)))))) else (winklelaw01_TallyOrders.j0 k a0 a1 a2 true))))) = some r := H
        have A11 := Aside0.mk A110
        clear A110
        replace H := Option.bind_eq_some_iff.mp H
        obtain ⟨t195, A120, H⟩ := H
        replace H : ((tally_Add.f a1 a2).bind fun t196 => ((tally_Add.f a0 t196).bind fun t197 => (if t195 = t197 then ((tally_Times.f a0 a1).bind fun t198 => ((tally_Times.f t198 a2).bind fun t199 => ((tally_Times.f a1 a2).bind fun t200 => ((tally_Times.f a0 t200).bind fun t201 => (winklelaw01_TallyOrders.j0 k a0 a1 a2 (t199 != t201)))))) else (winklelaw01_TallyOrders.j0 k a0 a1 a2 true)))) = some r := H
        have A12 := Aside0.mk A120
        clear A120
        replace H := Option.bind_eq_some_iff.mp H
        obtain ⟨t196, A130, H⟩ := H
        replace H : ((tally_Add.f a0 t196).bind fun t197 => (if t195 = t197 then ((tally_Times.f a0 a1).bind fun t198 => ((tally_Times.f t198 a2).bind fun t199 => ((tally_Times.f a1 a2).bind fun t200 => ((tally_Times.f a0 t200).bind fun t201 => (winklelaw01_TallyOrders.j0 k a0 a1 a2 (t199 != t201)))))) else (winklelaw01_TallyOrders.j0 k a0 a1 a2 true))) = some r := H
        have A13 := Aside0.mk A130
        clear A130
        replace H := Option.bind_eq_some_iff.mp H
        obtain ⟨t197, A140, H⟩ := H
        replace H : (if t195 = t197 then ((tally_Times.f a0 a1).bind fun t198 => ((tally_Times.f t198 a2).bind fun t199 => ((tally_Times.f a1 a2).bind fun t200 => ((tally_Times.f a0 t200).bind fun t201 => (winklelaw01_TallyOrders.j0 k a0 a1 a2 (t199 != t201)))))) else (winklelaw01_TallyOrders.j0 k a0 a1 a2 true)) = some r := H
        have A14 := Aside0.mk A140
        clear A140
        by_cases c15 : t195 = t197
        · rw [if_pos c15] at H
          have c15b0 : (t195 == t197) = true := beq_iff_eq.mpr c15
          have c15b1 : (t195 != t197) = false := bne_eq_false_iff_eq.mpr c15
          clear c15
          replace H := Option.bind_eq_some_iff.mp H
          obtain ⟨t198, A160, H⟩ := H
          replace H : ((tally_Times.f t198 a2).bind fun t199 => ((tally_Times.f a1 a2).bind fun t200 => ((tally_Times.f a0 t200).bind fun t201 => (winklelaw01_TallyOrders.j0 k a0 a1 a2 (t199 != t201))))) = some r := H
          have A16 := Aside0.mk A160
          clear A160
          obtain rfl : t192 = t198 := Option.some.inj (A8.out.symm.trans A16.out)
          replace H := Option.bind_eq_some_iff.mp H
          obtain ⟨t199, A170, H⟩ := H
          replace H : ((tally_Times.f a1 a2).bind fun t200 => ((tally_Times.f a0 t200).bind fun t201 => (winklelaw01_TallyOrders.j0 k a0 a1 a2 (t199 != t201)))) = some r := H
          have A17 := Aside0.mk A170
          clear A170
          replace H := Option.bind_eq_some_iff.mp H
          obtain ⟨t200, A180, H⟩ := H
          replace H : ((tally_Times.f a0 t200).bind fun t201 => (winklelaw01_TallyOrders.j0 k a0 a1 a2 (t199 != t201))) = some r := H
          have A18 := Aside0.mk A180
          clear A180
          replace H := Option.bind_eq_some_iff.mp H
          obtain ⟨t201, A190, H⟩ := H
          replace H : (winklelaw01_TallyOrders.j0 k a0 a1 a2 (t199 != t201)) = some r := H
          have A19 := Aside0.mk A190
          clear A190
          have H' := Aside0.mk H
          clear H
          go_wp2_with (first | ((with_reducible refine gate_callee (f := 16) rfl ?_); refine goesL_ (some 10) rfl rfl Try.func16 (by kernel_rfl) rfl #[.int .u64 a0, .int .u64 a1] rfl (by (try simp only [List.map_toArray, List.map_cons, List.map_nil]); first | done | rfl | (simp only [List.length_drop, List.length_take]; rfl)) ?_; (with_reducible refine (tally_Add.calls a0 a1 t190 _ A5.out).mono ?_); rintro e w' ⟨rfl, ⟨nd, rfl⟩⟩; refine ⟨_, rfl, ?_⟩) | ((with_reducible refine gate_callee (f := 16) rfl ?_); refine goesL_ (some 13) rfl rfl Try.func16 (by kernel_rfl) rfl #[.int .u64 a1, .int .u64 a0] rfl (by (try simp only [List.map_toArray, List.map_cons, List.map_nil]); first | done | rfl | (simp only [List.length_drop, List.length_take]; rfl)) ?_; (with_reducible refine (tally_Add.calls a1 a0 t191 _ A6.out).mono ?_); rintro e w' ⟨rfl, ⟨nd, rfl⟩⟩; refine ⟨_, rfl, ?_⟩) | (go_at_call 17; (with_reducible refine (tally_Times.calls a0 a1 t192 _ A8.out).mono ?_); rintro e w' ⟨rfl, ⟨nd, rfl⟩⟩) | (go_at_call 17; (with_reducible refine (tally_Times.calls a1 a0 t193 _ A9.out).mono ?_); rintro e w' ⟨rfl, ⟨nd, rfl⟩⟩) | (go_at_call 16; (with_reducible refine (tally_Add.calls a0 a1 t194 _ A11.out).mono ?_); rintro e w' ⟨rfl, ⟨nd, rfl⟩⟩) | (go_at_call 16; (with_reducible refine (tally_Add.calls t194 a2 t195 _ A12.out).mono ?_); rintro e w' ⟨rfl, ⟨nd, rfl⟩⟩) | (go_at_call 16; (with_reducible refine (tally_Add.calls a1 a2 t196 _ A13.out).mono ?_); rintro e w' ⟨rfl, ⟨nd, rfl⟩⟩) | (go_at_call 16; (with_reducible refine (tally_Add.calls a0 t196 t197 _ A14.out).mono ?_); rintro e w' ⟨rfl, ⟨nd, rfl⟩⟩) | (go_at_call 17; (with_reducible refine (tally_Times.calls a0 a1 t192 _ A16.out).mono ?_); rintro e w' ⟨rfl, ⟨nd, rfl⟩⟩) | (go_at_call 17; (with_reducible refine (tally_Times.calls t192 a2 t199 _ A17.out).mono ?_); rintro e w' ⟨rfl, ⟨nd, rfl⟩⟩) | (go_at_call 17; (with_reducible refine (tally_Times.calls a1 a2 t200 _ A18.out).mono ?_); rintro e w' ⟨rfl, ⟨nd, rfl⟩⟩) | (go_at_call 17; (with_reducible refine (tally_Times.calls a0 t200 t201 _ A19.out).mono ?_); rintro e w' ⟨rfl, ⟨nd, rfl⟩⟩))
          go_meet
          case rel => exact ⟨_, ((t199 != t201)), (by first | rfl | (simp; done) | (simp [*]; done)), H', ⟨by first | omega | exact Nat.le_refl _⟩, by repeat (first | exact Drawn0.refl _ | apply Drawn0.step)⟩
        · rw [if_neg c15] at H
          have c15b0 : (t195 == t197) = false := beq_eq_false_iff_ne.mpr c15
          have c15b1 : (t195 != t197) = true := bne_iff_ne.mpr c15
          have H' := Aside0.mk H
          clear H
          go_wp2_with (first | ((with_reducible refine gate_callee (f := 16) rfl ?_); refine goesL_ (some 10) rfl rfl Try.func16 (by kernel_rfl) rfl #[.int .u64 a0, .int .u64 a1] rfl (by (try simp only [List.map_toArray, List.map_cons, List.map_nil]); first | done | rfl | (simp only [List.length_drop, List.length_take]; rfl)) ?_; (with_reducible refine (tally_Add.calls a0 a1 t190 _ A5.out).mono ?_); rintro e w' ⟨rfl, ⟨nd, rfl⟩⟩; refine ⟨_, rfl, ?_⟩) | ((with_reducible refine gate_callee (f := 16) rfl ?_); refine goesL_ (some 13) rfl rfl Try.func16 (by kernel_rfl) rfl #[.int .u64 a1, .int .u64 a0] rfl (by (try simp only [List.map_toArray, List.map_cons, List.map_nil]); first | done | rfl | (simp only [List.length_drop, List.length_take]; rfl)) ?_; (with_reducible refine (tally_Add.calls a1 a0 t191 _ A6.out).mono ?_); rintro e w' ⟨rfl, ⟨nd, rfl⟩⟩; refine ⟨_, rfl, ?_⟩) | (go_at_call 17; (with_reducible refine (tally_Times.calls a0 a1 t192 _ A8.out).mono ?_); rintro e w' ⟨rfl, ⟨nd, rfl⟩⟩) | (go_at_call 17; (with_reducible refine (tally_Times.calls a1 a0 t193 _ A9.out).mono ?_); rintro e w' ⟨rfl, ⟨nd, rfl⟩⟩) | (go_at_call 16; (with_reducible refine (tally_Add.calls a0 a1 t194 _ A11.out).mono ?_); rintro e w' ⟨rfl, ⟨nd, rfl⟩⟩) | (go_at_call 16; (with_reducible refine (tally_Add.calls t194 a2 t195 _ A12.out).mono ?_); rintro e w' ⟨rfl, ⟨nd, rfl⟩⟩) | (go_at_call 16; (with_reducible refine (tally_Add.calls a1 a2 t196 _ A13.out).mono ?_); rintro e w' ⟨rfl, ⟨nd, rfl⟩⟩) | (go_at_call 16; (with_reducible refine (tally_Add.calls a0 t196 t197 _ A14.out).mono ?_); rintro e w' ⟨rfl, ⟨nd, rfl⟩⟩))
          go_meet
          case rel => exact ⟨_, (true), (by first | rfl | (simp; done) | (simp [*]; done)), H', ⟨by first | omega | exact Nat.le_refl _⟩, by repeat (first | exact Drawn0.refl _ | apply Drawn0.step)⟩
      · rw [if_neg c10] at H
        have c10b0 : (t192 == t193) = false := beq_eq_false_iff_ne.mpr c10
        have c10b1 : (t192 != t193) = true := bne_iff_ne.mpr c10
        have H' := Aside0.mk H
        clear H
        go_wp2_with (first | ((with_reducible refine gate_callee (f := 16) rfl ?_); refine goesL_ (some 10) rfl rfl Try.func16 (by kernel_rfl) rfl #[.int .u64 a0, .int .u64 a1] rfl (by (try simp only [List.map_toArray, List.map_cons, List.map_nil]); first | done | rfl | (simp only [List.length_drop, List.length_take]; rfl)) ?_; (with_reducible refine (tally_Add.calls a0 a1 t190 _ A5.out).mono ?_); rintro e w' ⟨rfl, ⟨nd, rfl⟩⟩; refine ⟨_, rfl, ?_⟩) | ((with_reducible refine gate_callee (f := 16) rfl ?_); refine goesL_ (some 13) rfl rfl Try.func16 (by kernel_rfl) rfl #[.int .u64 a1, .int .u64 a0] rfl (by (try simp only [List.map_toArray, List.map_cons, List.map_nil]); first | done | rfl | (simp only [List.length_drop, List.length_take]; rfl)) ?_; (with_reducible refine (tally_Add.calls a1 a0 t191 _ A6.out).mono ?_); rintro e w' ⟨rfl, ⟨nd, rfl⟩⟩; refine ⟨_, rfl, ?_⟩) | (go_at_call 17; (with_reducible refine (tally_Times.calls a0 a1 t192 _ A8.out).mono ?_); rintro e w' ⟨rfl, ⟨nd, rfl⟩⟩) | (go_at_call 17; (with_reducible refine (tally_Times.calls a1 a0 t193 _ A9.out).mono ?_); rintro e w' ⟨rfl, ⟨nd, rfl⟩⟩))
        go_meet
        case rel => exact ⟨_, (true), (by first | rfl | (simp; done) | (simp [*]; done)), H', ⟨by first | omega | exact Nat.le_refl _⟩, by repeat (first | exact Drawn0.refl _ | apply Drawn0.step)⟩
    · rw [if_neg c7] at H
      have c7b0 : (t190 == t191) = false := beq_eq_false_iff_ne.mpr c7
      have c7b1 : (t190 != t191) = true := bne_iff_ne.mpr c7
      (first | rw [c7b0] | (simp only [i64_w, i32_w]; rw [c7b0]) | skip)
      have H' := Aside0.mk H
      clear H
      go_wp2_with (first | ((with_reducible refine gate_callee (f := 16) rfl ?_); refine goesL_ (some 10) rfl rfl Try.func16 (by kernel_rfl) rfl #[.int .u64 a0, .int .u64 a1] rfl (by (try simp only [List.map_toArray, List.map_cons, List.map_nil]); first | done | rfl | (simp only [List.length_drop, List.length_take]; rfl)) ?_; (with_reducible refine (tally_Add.calls a0 a1 t190 _ A5.out).mono ?_); rintro e w' ⟨rfl, ⟨nd, rfl⟩⟩; refine ⟨_, rfl, ?_⟩) | ((with_reducible refine gate_callee (f := 16) rfl ?_); refine goesL_ (some 13) rfl rfl Try.func16 (by kernel_rfl) rfl #[.int .u64 a1, .int .u64 a0] rfl (by (try simp only [List.map_toArray, List.map_cons, List.map_nil]); first | done | rfl | (simp only [List.length_drop, List.length_take]; rfl)) ?_; (with_reducible refine (tally_Add.calls a1 a0 t191 _ A6.out).mono ?_); rintro e w' ⟨rfl, ⟨nd, rfl⟩⟩; refine ⟨_, rfl, ?_⟩))
      go_meet
      case rel => exact ⟨_, (true), (by first | rfl | (simp; done) | (simp [*]; done)), H', ⟨by first | omega | exact Nat.le_refl _⟩, by repeat (first | exact Drawn0.refl _ | apply Drawn0.step)⟩
  case rest =>
    clear HC4
    try clear c1
    try clear p2
    try clear c6
    try clear c7
    try clear c7b0
    try clear c7b1
    try clear c10
    try clear c10b0
    try clear c10b1
    try clear c15
    try clear c15b0
    try clear c15b1
    try clear c16
    obtain ⟨kq, x49_3, rfl, HA, HJ3, ⟨mc3, rfl⟩⟩ := hcut
    cases kq with
    | zero => exact absurd HA.out (by simp [winklelaw01_TallyOrders.j0])
    | succ kj3 =>
      have H := HA.out
      clear HA
      simp only [winklelaw01_TallyOrders.j0] at H
      by_cases c20 : x49_3 = true
      · subst c20
        have H1 : (some false) = some r := by rw [if_pos rfl] at H; exact H
        clear H
        have H := H1
        clear H1
        obtain rfl := Option.some.inj H
        go_wp2
        go_ret
        exact ⟨by first | rfl | (simp; done) | (simp [*]; done), by repeat (first | exact Drawn0.refl _ | apply Drawn0.step)⟩
      · replace c20 := Bool.eq_false_iff.mpr c20
        subst c20
        have H1 : ((tally_Add.f a0 a2).bind fun t202 => ((tally_Add.f t202 a1).bind fun t203 => ((tally_Add.f a0 a1).bind fun t204 => (if t203 ≥ t204 then ((tally_Times.f t202 a1).bind fun t205 => ((tally_Times.f a0 a1).bind fun t206 => (if t205 ≥ t206 then ((tally_Add.f a0 0).bind fun t207 => (if t207 = a0 then ((tally_Times.f a0 1).bind fun t208 => (if t208 = a0 then ((tally_Times.f a0 0).bind fun t209 => (if t209 = 0 then ((tally_Add.f a0 a1).bind fun t210 => (some (decide (t210 ≥ a0)))) else (some false))) else (some false))) else (some false))) else (some false)))) else (some false))))) = some r := by rw [if_neg (show ¬ (false = true) by decide)] at H; exact H
        clear H
        have H := H1
        clear H1
        replace H := Option.bind_eq_some_iff.mp H
        obtain ⟨t202, A210, H⟩ := H
        replace H : ((tally_Add.f t202 a1).bind fun t203 => ((tally_Add.f a0 a1).bind fun t204 => (if t203 ≥ t204 then ((tally_Times.f t202 a1).bind fun t205 => ((tally_Times.f a0 a1).bind fun t206 => (if t205 ≥ t206 then ((tally_Add.f a0 0).bind fun t207 => (if t207 = a0 then ((tally_Times.f a0 1).bind fun t208 => (if t208 = a0 then ((tally_Times.f a0 0).bind fun t209 => (if t209 = 0 then ((tally_Add.f a0 a1).bind fun t210 => (some (decide (t210 ≥ a0)))) else (some false))) else (some false))) else (some false))) else (some false)))) else (some false)))) = some r := H
        have A21 := Aside0.mk A210
        clear A210
        replace H := Option.bind_eq_some_iff.mp H
        obtain ⟨t203, A220, H⟩ := H
        replace H : ((tally_Add.f a0 a1).bind fun t204 => (if t203 ≥ t204 then ((tally_Times.f t202 a1).bind fun t205 => ((tally_Times.f a0 a1).bind fun t206 => (if t205 ≥ t206 then ((tally_Add.f a0 0).bind fun t207 => (if t207 = a0 then ((tally_Times.f a0 1).bind fun t208 => (if t208 = a0 then ((tally_Times.f a0 0).bind fun t209 => (if t209 = 0 then ((tally_Add.f a0 a1).bind fun t210 => (some (decide (t210 ≥ a0)))) else (some false))) else (some false))) else (some false))) else (some false)))) else (some false))) = some r := H
        have A22 := Aside0.mk A220
        clear A220
        replace H := Option.bind_eq_some_iff.mp H
        obtain ⟨t204, A230, H⟩ := H
        replace H : (if t203 ≥ t204 then ((tally_Times.f t202 a1).bind fun t205 => ((tally_Times.f a0 a1).bind fun t206 => (if t205 ≥ t206 then ((tally_Add.f a0 0).bind fun t207 => (if t207 = a0 then ((tally_Times.f a0 1).bind fun t208 => (if t208 = a0 then ((tally_Times.f a0 0).bind fun t209 => (if t209 = 0 then ((tally_Add.f a0 a1).bind fun t210 => (some (decide (t210 ≥ a0)))) else (some false))) else (some false))) else (some false))) else (some false)))) else (some false)) = some r := H
        have A23 := Aside0.mk A230
        clear A230
        by_cases c24 : t203 ≥ t204
        · rw [if_pos c24] at H
          have c24b0 : decide (t204 ≤ t203) = true := decide_eq_true c24
          clear c24
          replace H := Option.bind_eq_some_iff.mp H
          obtain ⟨t205, A250, H⟩ := H
          replace H : ((tally_Times.f a0 a1).bind fun t206 => (if t205 ≥ t206 then ((tally_Add.f a0 0).bind fun t207 => (if t207 = a0 then ((tally_Times.f a0 1).bind fun t208 => (if t208 = a0 then ((tally_Times.f a0 0).bind fun t209 => (if t209 = 0 then ((tally_Add.f a0 a1).bind fun t210 => (some (decide (t210 ≥ a0)))) else (some false))) else (some false))) else (some false))) else (some false))) = some r := H
          have A25 := Aside0.mk A250
          clear A250
          replace H := Option.bind_eq_some_iff.mp H
          obtain ⟨t206, A260, H⟩ := H
          replace H : (if t205 ≥ t206 then ((tally_Add.f a0 0).bind fun t207 => (if t207 = a0 then ((tally_Times.f a0 1).bind fun t208 => (if t208 = a0 then ((tally_Times.f a0 0).bind fun t209 => (if t209 = 0 then ((tally_Add.f a0 a1).bind fun t210 => (some (decide (t210 ≥ a0)))) else (some false))) else (some false))) else (some false))) else (some false)) = some r := H
          have A26 := Aside0.mk A260
          clear A260
          by_cases c27 : t205 ≥ t206
          · rw [if_pos c27] at H
            have c27b0 : decide (t206 ≤ t205) = true := decide_eq_true c27
            clear c27
            replace H := Option.bind_eq_some_iff.mp H
            obtain ⟨t207, A280, H⟩ := H
            replace H : (if t207 = a0 then ((tally_Times.f a0 1).bind fun t208 => (if t208 = a0 then ((tally_Times.f a0 0).bind fun t209 => (if t209 = 0 then ((tally_Add.f a0 a1).bind fun t210 => (some (decide (t210 ≥ a0)))) else (some false))) else (some false))) else (some false)) = some r := H
            have A28 := Aside0.mk A280
            clear A280
            by_cases c29 : t207 = a0
            · rw [if_pos c29] at H
              have c29b0 : (t207 == a0) = true := beq_iff_eq.mpr c29
              have c29b1 : (t207 != a0) = false := bne_eq_false_iff_eq.mpr c29
              clear c29
              replace H := Option.bind_eq_some_iff.mp H
              obtain ⟨t208, A300, H⟩ := H
              replace H : (if t208 = a0 then ((tally_Times.f a0 0).bind fun t209 => (if t209 = 0 then ((tally_Add.f a0 a1).bind fun t210 => (some (decide (t210 ≥ a0)))) else (some false))) else (some false)) = some r := H
              have A30 := Aside0.mk A300
              clear A300
              by_cases c31 : t208 = a0
              · rw [if_pos c31] at H
                have c31b0 : (t208 == a0) = true := beq_iff_eq.mpr c31
                have c31b1 : (t208 != a0) = false := bne_eq_false_iff_eq.mpr c31
                clear c31
                replace H := Option.bind_eq_some_iff.mp H
                obtain ⟨t209, A320, H⟩ := H
                replace H : (if t209 = 0 then ((tally_Add.f a0 a1).bind fun t210 => (some (decide (t210 ≥ a0)))) else (some false)) = some r := H
                have A32 := Aside0.mk A320
                clear A320
                by_cases c33 : t209 = 0
                · rw [if_pos c33] at H
                  have c33b0 : (t209 == 0) = true := beq_iff_eq.mpr c33
                  have c33b1 : (t209 != 0) = false := bne_eq_false_iff_eq.mpr c33
                  clear c33
                  replace H := Option.bind_eq_some_iff.mp H
                  obtain ⟨t210, A340, H⟩ := H
                  replace H : (some (decide (t210 ≥ a0))) = some r := H
                  have A34 := Aside0.mk A340
                  clear A340
                  obtain rfl := Option.some.inj H
                  go_wp2_with (first | ((with_reducible refine gate_callee (f := 16) rfl ?_); refine goesL_ (some 52) rfl rfl Try.func16 (by kernel_rfl) rfl #[.int .u64 a0, .int .u64 a2] rfl (by (try simp only [List.map_toArray, List.map_cons, List.map_nil]); first | done | rfl | (simp only [List.length_drop, List.length_take]; rfl)) ?_; (with_reducible refine (tally_Add.calls a0 a2 t202 _ A21.out).mono ?_); rintro e w' ⟨rfl, ⟨nd, rfl⟩⟩; refine ⟨_, rfl, ?_⟩) | ((with_reducible refine gate_callee (f := 16) rfl ?_); refine goesL_ (some 55) rfl rfl Try.func16 (by kernel_rfl) rfl #[.int .u64 t202, .int .u64 a1] rfl (by (try simp only [List.map_toArray, List.map_cons, List.map_nil]); first | done | rfl | (simp only [List.length_drop, List.length_take]; rfl)) ?_; (with_reducible refine (tally_Add.calls t202 a1 t203 _ A22.out).mono ?_); rintro e w' ⟨rfl, ⟨nd, rfl⟩⟩; refine ⟨_, rfl, ?_⟩) | ((with_reducible refine gate_callee (f := 16) rfl ?_); refine goesL_ (some 58) rfl rfl Try.func16 (by kernel_rfl) rfl #[.int .u64 a0, .int .u64 a1] rfl (by (try simp only [List.map_toArray, List.map_cons, List.map_nil]); first | done | rfl | (simp only [List.length_drop, List.length_take]; rfl)) ?_; (with_reducible refine (tally_Add.calls a0 a1 t204 _ A23.out).mono ?_); rintro e w' ⟨rfl, ⟨nd, rfl⟩⟩; refine ⟨_, rfl, ?_⟩) | (go_at_call 17; (with_reducible refine (tally_Times.calls t202 a1 t205 _ A25.out).mono ?_); rintro e w' ⟨rfl, ⟨nd, rfl⟩⟩) | (go_at_call 17; (with_reducible refine (tally_Times.calls a0 a1 t206 _ A26.out).mono ?_); rintro e w' ⟨rfl, ⟨nd, rfl⟩⟩) | (go_at_call 16; (with_reducible refine (tally_Add.calls a0 0 t207 _ A28.out).mono ?_); rintro e w' ⟨rfl, ⟨nd, rfl⟩⟩) | (go_at_call 17; (with_reducible refine (tally_Times.calls a0 1 t208 _ A30.out).mono ?_); rintro e w' ⟨rfl, ⟨nd, rfl⟩⟩) | (go_at_call 17; (with_reducible refine (tally_Times.calls a0 0 t209 _ A32.out).mono ?_); rintro e w' ⟨rfl, ⟨nd, rfl⟩⟩) | (go_at_call 16; (with_reducible refine (tally_Add.calls a0 a1 t210 _ A34.out).mono ?_); rintro e w' ⟨rfl, ⟨nd, rfl⟩⟩))
                  go_ret
                  exact ⟨by first | rfl | (simp; done) | (simp [*]; done), by repeat (first | exact Drawn0.refl _ | apply Drawn0.step)⟩
                · rw [if_neg c33] at H
                  have c33b0 : (t209 == 0) = false := beq_eq_false_iff_ne.mpr c33
                  have c33b1 : (t209 != 0) = true := bne_iff_ne.mpr c33
                  obtain rfl := Option.some.inj H
                  go_wp2_with (first | ((with_reducible refine gate_callee (f := 16) rfl ?_); refine goesL_ (some 52) rfl rfl Try.func16 (by kernel_rfl) rfl #[.int .u64 a0, .int .u64 a2] rfl (by (try simp only [List.map_toArray, List.map_cons, List.map_nil]); first | done | rfl | (simp only [List.length_drop, List.length_take]; rfl)) ?_; (with_reducible refine (tally_Add.calls a0 a2 t202 _ A21.out).mono ?_); rintro e w' ⟨rfl, ⟨nd, rfl⟩⟩; refine ⟨_, rfl, ?_⟩) | ((with_reducible refine gate_callee (f := 16) rfl ?_); refine goesL_ (some 55) rfl rfl Try.func16 (by kernel_rfl) rfl #[.int .u64 t202, .int .u64 a1] rfl (by (try simp only [List.map_toArray, List.map_cons, List.map_nil]); first | done | rfl | (simp only [List.length_drop, List.length_take]; rfl)) ?_; (with_reducible refine (tally_Add.calls t202 a1 t203 _ A22.out).mono ?_); rintro e w' ⟨rfl, ⟨nd, rfl⟩⟩; refine ⟨_, rfl, ?_⟩) | ((with_reducible refine gate_callee (f := 16) rfl ?_); refine goesL_ (some 58) rfl rfl Try.func16 (by kernel_rfl) rfl #[.int .u64 a0, .int .u64 a1] rfl (by (try simp only [List.map_toArray, List.map_cons, List.map_nil]); first | done | rfl | (simp only [List.length_drop, List.length_take]; rfl)) ?_; (with_reducible refine (tally_Add.calls a0 a1 t204 _ A23.out).mono ?_); rintro e w' ⟨rfl, ⟨nd, rfl⟩⟩; refine ⟨_, rfl, ?_⟩) | (go_at_call 17; (with_reducible refine (tally_Times.calls t202 a1 t205 _ A25.out).mono ?_); rintro e w' ⟨rfl, ⟨nd, rfl⟩⟩) | (go_at_call 17; (with_reducible refine (tally_Times.calls a0 a1 t206 _ A26.out).mono ?_); rintro e w' ⟨rfl, ⟨nd, rfl⟩⟩) | (go_at_call 16; (with_reducible refine (tally_Add.calls a0 0 t207 _ A28.out).mono ?_); rintro e w' ⟨rfl, ⟨nd, rfl⟩⟩) | (go_at_call 17; (with_reducible refine (tally_Times.calls a0 1 t208 _ A30.out).mono ?_); rintro e w' ⟨rfl, ⟨nd, rfl⟩⟩) | (go_at_call 17; (with_reducible refine (tally_Times.calls a0 0 t209 _ A32.out).mono ?_); rintro e w' ⟨rfl, ⟨nd, rfl⟩⟩))
                  go_ret
                  exact ⟨by first | rfl | (simp; done) | (simp [*]; done), by repeat (first | exact Drawn0.refl _ | apply Drawn0.step)⟩
              · rw [if_neg c31] at H
                have c31b0 : (t208 == a0) = false := beq_eq_false_iff_ne.mpr c31
                have c31b1 : (t208 != a0) = true := bne_iff_ne.mpr c31
                obtain rfl := Option.some.inj H
                go_wp2_with (first | ((with_reducible refine gate_callee (f := 16) rfl ?_); refine goesL_ (some 52) rfl rfl Try.func16 (by kernel_rfl) rfl #[.int .u64 a0, .int .u64 a2] rfl (by (try simp only [List.map_toArray, List.map_cons, List.map_nil]); first | done | rfl | (simp only [List.length_drop, List.length_take]; rfl)) ?_; (with_reducible refine (tally_Add.calls a0 a2 t202 _ A21.out).mono ?_); rintro e w' ⟨rfl, ⟨nd, rfl⟩⟩; refine ⟨_, rfl, ?_⟩) | ((with_reducible refine gate_callee (f := 16) rfl ?_); refine goesL_ (some 55) rfl rfl Try.func16 (by kernel_rfl) rfl #[.int .u64 t202, .int .u64 a1] rfl (by (try simp only [List.map_toArray, List.map_cons, List.map_nil]); first | done | rfl | (simp only [List.length_drop, List.length_take]; rfl)) ?_; (with_reducible refine (tally_Add.calls t202 a1 t203 _ A22.out).mono ?_); rintro e w' ⟨rfl, ⟨nd, rfl⟩⟩; refine ⟨_, rfl, ?_⟩) | ((with_reducible refine gate_callee (f := 16) rfl ?_); refine goesL_ (some 58) rfl rfl Try.func16 (by kernel_rfl) rfl #[.int .u64 a0, .int .u64 a1] rfl (by (try simp only [List.map_toArray, List.map_cons, List.map_nil]); first | done | rfl | (simp only [List.length_drop, List.length_take]; rfl)) ?_; (with_reducible refine (tally_Add.calls a0 a1 t204 _ A23.out).mono ?_); rintro e w' ⟨rfl, ⟨nd, rfl⟩⟩; refine ⟨_, rfl, ?_⟩) | (go_at_call 17; (with_reducible refine (tally_Times.calls t202 a1 t205 _ A25.out).mono ?_); rintro e w' ⟨rfl, ⟨nd, rfl⟩⟩) | (go_at_call 17; (with_reducible refine (tally_Times.calls a0 a1 t206 _ A26.out).mono ?_); rintro e w' ⟨rfl, ⟨nd, rfl⟩⟩) | (go_at_call 16; (with_reducible refine (tally_Add.calls a0 0 t207 _ A28.out).mono ?_); rintro e w' ⟨rfl, ⟨nd, rfl⟩⟩) | (go_at_call 17; (with_reducible refine (tally_Times.calls a0 1 t208 _ A30.out).mono ?_); rintro e w' ⟨rfl, ⟨nd, rfl⟩⟩))
                go_ret
                exact ⟨by first | rfl | (simp; done) | (simp [*]; done), by repeat (first | exact Drawn0.refl _ | apply Drawn0.step)⟩
            · rw [if_neg c29] at H
              have c29b0 : (t207 == a0) = false := beq_eq_false_iff_ne.mpr c29
              have c29b1 : (t207 != a0) = true := bne_iff_ne.mpr c29
              obtain rfl := Option.some.inj H
              go_wp2_with (first | ((with_reducible refine gate_callee (f := 16) rfl ?_); refine goesL_ (some 52) rfl rfl Try.func16 (by kernel_rfl) rfl #[.int .u64 a0, .int .u64 a2] rfl (by (try simp only [List.map_toArray, List.map_cons, List.map_nil]); first | done | rfl | (simp only [List.length_drop, List.length_take]; rfl)) ?_; (with_reducible refine (tally_Add.calls a0 a2 t202 _ A21.out).mono ?_); rintro e w' ⟨rfl, ⟨nd, rfl⟩⟩; refine ⟨_, rfl, ?_⟩) | ((with_reducible refine gate_callee (f := 16) rfl ?_); refine goesL_ (some 55) rfl rfl Try.func16 (by kernel_rfl) rfl #[.int .u64 t202, .int .u64 a1] rfl (by (try simp only [List.map_toArray, List.map_cons, List.map_nil]); first | done | rfl | (simp only [List.length_drop, List.length_take]; rfl)) ?_; (with_reducible refine (tally_Add.calls t202 a1 t203 _ A22.out).mono ?_); rintro e w' ⟨rfl, ⟨nd, rfl⟩⟩; refine ⟨_, rfl, ?_⟩) | ((with_reducible refine gate_callee (f := 16) rfl ?_); refine goesL_ (some 58) rfl rfl Try.func16 (by kernel_rfl) rfl #[.int .u64 a0, .int .u64 a1] rfl (by (try simp only [List.map_toArray, List.map_cons, List.map_nil]); first | done | rfl | (simp only [List.length_drop, List.length_take]; rfl)) ?_; (with_reducible refine (tally_Add.calls a0 a1 t204 _ A23.out).mono ?_); rintro e w' ⟨rfl, ⟨nd, rfl⟩⟩; refine ⟨_, rfl, ?_⟩) | (go_at_call 17; (with_reducible refine (tally_Times.calls t202 a1 t205 _ A25.out).mono ?_); rintro e w' ⟨rfl, ⟨nd, rfl⟩⟩) | (go_at_call 17; (with_reducible refine (tally_Times.calls a0 a1 t206 _ A26.out).mono ?_); rintro e w' ⟨rfl, ⟨nd, rfl⟩⟩) | (go_at_call 16; (with_reducible refine (tally_Add.calls a0 0 t207 _ A28.out).mono ?_); rintro e w' ⟨rfl, ⟨nd, rfl⟩⟩))
              go_ret
              exact ⟨by first | rfl | (simp; done) | (simp [*]; done), by repeat (first | exact Drawn0.refl _ | apply Drawn0.step)⟩
          · rw [if_neg c27] at H
            have c27b0 : decide (t206 ≤ t205) = false := decide_eq_false c27
            clear c27
            obtain rfl := Option.some.inj H
            go_wp2_with (first | ((with_reducible refine gate_callee (f := 16) rfl ?_); refine goesL_ (some 52) rfl rfl Try.func16 (by kernel_rfl) rfl #[.int .u64 a0, .int .u64 a2] rfl (by (try simp only [List.map_toArray, List.map_cons, List.map_nil]); first | done | rfl | (simp only [List.length_drop, List.length_take]; rfl)) ?_; (with_reducible refine (tally_Add.calls a0 a2 t202 _ A21.out).mono ?_); rintro e w' ⟨rfl, ⟨nd, rfl⟩⟩; refine ⟨_, rfl, ?_⟩) | ((with_reducible refine gate_callee (f := 16) rfl ?_); refine goesL_ (some 55) rfl rfl Try.func16 (by kernel_rfl) rfl #[.int .u64 t202, .int .u64 a1] rfl (by (try simp only [List.map_toArray, List.map_cons, List.map_nil]); first | done | rfl | (simp only [List.length_drop, List.length_take]; rfl)) ?_; (with_reducible refine (tally_Add.calls t202 a1 t203 _ A22.out).mono ?_); rintro e w' ⟨rfl, ⟨nd, rfl⟩⟩; refine ⟨_, rfl, ?_⟩) | ((with_reducible refine gate_callee (f := 16) rfl ?_); refine goesL_ (some 58) rfl rfl Try.func16 (by kernel_rfl) rfl #[.int .u64 a0, .int .u64 a1] rfl (by (try simp only [List.map_toArray, List.map_cons, List.map_nil]); first | done | rfl | (simp only [List.length_drop, List.length_take]; rfl)) ?_; (with_reducible refine (tally_Add.calls a0 a1 t204 _ A23.out).mono ?_); rintro e w' ⟨rfl, ⟨nd, rfl⟩⟩; refine ⟨_, rfl, ?_⟩) | (go_at_call 17; (with_reducible refine (tally_Times.calls t202 a1 t205 _ A25.out).mono ?_); rintro e w' ⟨rfl, ⟨nd, rfl⟩⟩) | (go_at_call 17; (with_reducible refine (tally_Times.calls a0 a1 t206 _ A26.out).mono ?_); rintro e w' ⟨rfl, ⟨nd, rfl⟩⟩))
            go_ret
            exact ⟨by first | rfl | (simp; done) | (simp [*]; done), by repeat (first | exact Drawn0.refl _ | apply Drawn0.step)⟩
        · rw [if_neg c24] at H
          have c24b0 : decide (t204 ≤ t203) = false := decide_eq_false c24
          clear c24
          obtain rfl := Option.some.inj H
          go_wp2_with (first | ((with_reducible refine gate_callee (f := 16) rfl ?_); refine goesL_ (some 52) rfl rfl Try.func16 (by kernel_rfl) rfl #[.int .u64 a0, .int .u64 a2] rfl (by (try simp only [List.map_toArray, List.map_cons, List.map_nil]); first | done | rfl | (simp only [List.length_drop, List.length_take]; rfl)) ?_; (with_reducible refine (tally_Add.calls a0 a2 t202 _ A21.out).mono ?_); rintro e w' ⟨rfl, ⟨nd, rfl⟩⟩; refine ⟨_, rfl, ?_⟩) | ((with_reducible refine gate_callee (f := 16) rfl ?_); refine goesL_ (some 55) rfl rfl Try.func16 (by kernel_rfl) rfl #[.int .u64 t202, .int .u64 a1] rfl (by (try simp only [List.map_toArray, List.map_cons, List.map_nil]); first | done | rfl | (simp only [List.length_drop, List.length_take]; rfl)) ?_; (with_reducible refine (tally_Add.calls t202 a1 t203 _ A22.out).mono ?_); rintro e w' ⟨rfl, ⟨nd, rfl⟩⟩; refine ⟨_, rfl, ?_⟩) | ((with_reducible refine gate_callee (f := 16) rfl ?_); refine goesL_ (some 58) rfl rfl Try.func16 (by kernel_rfl) rfl #[.int .u64 a0, .int .u64 a1] rfl (by (try simp only [List.map_toArray, List.map_cons, List.map_nil]); first | done | rfl | (simp only [List.length_drop, List.length_take]; rfl)) ?_; (with_reducible refine (tally_Add.calls a0 a1 t204 _ A23.out).mono ?_); rintro e w' ⟨rfl, ⟨nd, rfl⟩⟩; refine ⟨_, rfl, ?_⟩))
          go_ret
          exact ⟨by first | rfl | (simp; done) | (simp [*]; done), by repeat (first | exact Drawn0.refl _ | apply Drawn0.step)⟩

/-- THE ONE PURE STATEMENT of winklelaw01_TallyOrders: yours. -/
def winklelaw01_TallyOrders.Pure : Prop := ∀ (a0 : Int) (a1 : Int) (a2 : Int), (Lit.int .u64 a0).wf = true → (Lit.int .u64 a1).wf = true → (Lit.int .u64 a2).wf = true → ∃ k, winklelaw01_TallyOrders.f k a0 a1 a2 = some true
theorem winklelaw01_TallyOrders.walk (P : winklelaw01_TallyOrders.Pure) (a0 : Int) (a1 : Int) (a2 : Int) (w : World) (w0 : (Lit.int .u64 a0).wf = true) (w1 : (Lit.int .u64 a1).wf = true) (w2 : (Lit.int .u64 a2).wf = true) :
    Calls Try.prog 6 #[.int .u64 a0, .int .u64 a1, .int .u64 a2] w fun e w' => e = .returned (.bool true) ∧ Below w.heap.size w w' := by
  obtain ⟨k, h⟩ := P a0 a1 a2 w0 w1 w2
  refine (winklelaw01_TallyOrders.calls k a0 a1 a2 true w h).mono ?_
  rintro e w' ⟨rfl, hd⟩
  exact ⟨rfl, hd.below⟩

/-! ### winkleref01_Add: function 18 -/
def winkleref01_Add.f (a0 : Int) (a1 : Int) : Option (Int) := if a0 > (IntKind.u64.wrap (18446744073709551615 - a1)) then (some 18446744073709551615) else (some (IntKind.u64.wrap (a0 + a1)))
set_option maxHeartbeats 8000000 in
set_option maxRecDepth 100000 in
theorem winkleref01_Add.calls (a0 : Int) (a1 : Int) (r : Int) (w : World) (h : winkleref01_Add.f a0 a1 = some r) :
    Calls Try.prog 18 #[.int .u64 a0, .int .u64 a1] w fun e w' => e = .returned (.int .u64 r) ∧ Drawn0 w w' := by
  have H : (if a0 > (IntKind.u64.wrap (18446744073709551615 - a1)) then (some 18446744073709551615) else (some (IntKind.u64.wrap (a0 + a1)))) = some r := h
  clear h
  by_cases c3 : a0 > (IntKind.u64.wrap (18446744073709551615 - a1))
  · rw [if_pos c3] at H
    have c3b0 : decide ((IntKind.u64.wrap (18446744073709551615 - a1)) < a0) = true := decide_eq_true c3
    clear c3
    obtain rfl := Option.some.inj H
    go_enter Try.func18, Try.ntmps18
    go_wp2
    go_ret
    exact ⟨by first | rfl | (simp; done) | (simp [*]; done), by repeat (first | exact Drawn0.refl _ | apply Drawn0.step)⟩
  · rw [if_neg c3] at H
    have c3b0 : decide ((IntKind.u64.wrap (18446744073709551615 - a1)) < a0) = false := decide_eq_false c3
    clear c3
    obtain rfl := Option.some.inj H
    go_enter Try.func18, Try.ntmps18
    go_wp2
    go_ret
    exact ⟨by first | rfl | (simp; done) | (simp [*]; done), by repeat (first | exact Drawn0.refl _ | apply Drawn0.step)⟩

/-! ### winkleref01_Times: function 19 -/
def winkleref01_Times.f (a0 : Int) (a1 : Int) : Option (Int) := if a1 = 0 then (some (IntKind.u64.wrap (a0 * a1))) else (if a0 > (IntKind.u64.wrap (Int.tdiv 18446744073709551615 a1)) then (some 18446744073709551615) else (some (IntKind.u64.wrap (a0 * a1))))
set_option maxHeartbeats 8000000 in
set_option maxRecDepth 100000 in
theorem winkleref01_Times.calls (a0 : Int) (a1 : Int) (r : Int) (w : World) (h : winkleref01_Times.f a0 a1 = some r) :
    Calls Try.prog 19 #[.int .u64 a0, .int .u64 a1] w fun e w' => e = .returned (.int .u64 r) ∧ Drawn0 w w' := by
  have H : (if a1 = 0 then (some (IntKind.u64.wrap (a0 * a1))) else (if a0 > (IntKind.u64.wrap (Int.tdiv 18446744073709551615 a1)) then (some 18446744073709551615) else (some (IntKind.u64.wrap (a0 * a1))))) = some r := h
  clear h
  by_cases c3 : a1 = 0
  · rw [if_pos c3] at H
    have c3b0 : (a1 == 0) = true := beq_iff_eq.mpr c3
    have c3b1 : (a1 != 0) = false := bne_eq_false_iff_eq.mpr c3
    clear c3
    obtain rfl := Option.some.inj H
    go_enter Try.func19, Try.ntmps19
    go_wp2
    go_ret
    exact ⟨by first | rfl | (simp; done) | (simp [*]; done), by repeat (first | exact Drawn0.refl _ | apply Drawn0.step)⟩
  · rw [if_neg c3] at H
    have c3b0 : (a1 == 0) = false := beq_eq_false_iff_ne.mpr c3
    have c3b1 : (a1 != 0) = true := bne_iff_ne.mpr c3
    by_cases c4 : a0 > (IntKind.u64.wrap (Int.tdiv 18446744073709551615 a1))
    · rw [if_pos c4] at H
      have c4b0 : decide ((IntKind.u64.wrap (Int.tdiv 18446744073709551615 a1)) < a0) = true := decide_eq_true c4
      clear c4
      obtain rfl := Option.some.inj H
      go_enter Try.func19, Try.ntmps19
      go_wp2
      go_ret
      exact ⟨by first | rfl | (simp; done) | (simp [*]; done), by repeat (first | exact Drawn0.refl _ | apply Drawn0.step)⟩
    · rw [if_neg c4] at H
      have c4b0 : decide ((IntKind.u64.wrap (Int.tdiv 18446744073709551615 a1)) < a0) = false := decide_eq_false c4
      clear c4
      obtain rfl := Option.some.inj H
      go_enter Try.func19, Try.ntmps19
      go_wp2
      go_ret
      exact ⟨by first | rfl | (simp; done) | (simp [*]; done), by repeat (first | exact Drawn0.refl _ | apply Drawn0.step)⟩

/-! ### tally_Allowed: function 20 -/
def tally_Allowed.f (a0 : Int) (a1 : Int) (a2 : Int) (a3 : Int) : Option (Int) := (tally_Times.f a1 a3).bind fun t211 => ((tally_Add.f t211 a2).bind fun t212 => (some (mn a0 t212)))
set_option maxHeartbeats 8000000 in
set_option maxRecDepth 100000 in
theorem tally_Allowed.calls (a0 : Int) (a1 : Int) (a2 : Int) (a3 : Int) (r : Int) (w : World) (h : tally_Allowed.f a0 a1 a2 a3 = some r) :
    Calls Try.prog 20 #[.int .u64 a0, .int .u64 a1, .int .u64 a2, .int .u64 a3] w fun e w' => e = .returned (.int .u64 r) ∧ Below w.heap.size w w' := by
  have HB := Aside0.mk (Below.refl w.heap.size w)
  have H : ((tally_Times.f a1 a3).bind fun t211 => ((tally_Add.f t211 a2).bind fun t212 => (some (mn a0 t212)))) = some r := h
  clear h
  replace H := Option.bind_eq_some_iff.mp H
  obtain ⟨t211, A50, H⟩ := H
  replace H : ((tally_Add.f t211 a2).bind fun t212 => (some (mn a0 t212))) = some r := H
  have A5 := Aside0.mk A50
  clear A50
  replace H := Option.bind_eq_some_iff.mp H
  obtain ⟨t212, A60, H⟩ := H
  replace H : (some (mn a0 t212)) = some r := H
  have A6 := Aside0.mk A60
  clear A60
  obtain ⟨ji7, hji7⟩ : ∃ j_ : Int, (mn a0 t212) = j_ := ⟨_, rfl⟩
  replace H : (some ji7) = some r := by first | (rw [hji7] at H; exact H) | (simp only [hji7] at H ⊢; exact H)
  (try rw [hji7] at A5)
  (try rw [hji7] at A6)
  have hji7_ : (if t212 < a0 then t212 else a0) = ji7 := hji7
  obtain rfl := Option.some.inj H
  go_enter Try.func20, Try.ntmps20
  go_wp2_with (first | ((with_reducible refine gate_callee (f := 17) rfl ?_); refine goesL_ (some 12) rfl rfl Try.func17 (by kernel_rfl) rfl #[.int .u64 a1, .int .u64 a3] rfl (by (try simp only [List.map_toArray, List.map_cons, List.map_nil]); first | done | rfl | (simp only [List.length_drop, List.length_take]; rfl)) ?_; (with_reducible refine (tally_Times.calls a1 a3 t211 _ A5.out).mono ?_); rintro e w' ⟨rfl, ⟨nd, rfl⟩⟩; refine ⟨_, rfl, ?_⟩) | ((with_reducible refine gate_callee (f := 16) rfl ?_); refine goesL_ (some 14) rfl rfl Try.func16 (by kernel_rfl) rfl #[.int .u64 t211, .int .u64 a2] rfl (by (try simp only [List.map_toArray, List.map_cons, List.map_nil]); first | done | rfl | (simp only [List.length_drop, List.length_take]; rfl)) ?_; (with_reducible refine (tally_Add.calls t211 a2 t212 _ A6.out).mono ?_); rintro e w' ⟨rfl, ⟨nd, rfl⟩⟩; refine ⟨_, rfl, ?_⟩))
  go_ret
  exact ⟨by first | rfl | (simp [errW_none, errW_some] <;> rfl) | (simp only [← hji7]; first | rfl | (simp [errW_none, errW_some] <;> rfl)) | (simp [*, errW_none, errW_some] <;> rfl), by repeat (first | (with_reducible first | exact HB.out | apply below_alloc | apply pw_below_drewN | apply below_drew1) | exact HB.out)⟩

/-! ### winkleref01_Allowed: function 21 -/
def winkleref01_Allowed.f (a0 : Int) (a1 : Int) (a2 : Int) (a3 : Int) : Option (Int) := (winkleref01_Times.f a1 a3).bind fun t213 => ((winkleref01_Add.f t213 a2).bind fun t214 => (if t214 < a0 then (some t214) else (some a0)))
set_option maxHeartbeats 8000000 in
set_option maxRecDepth 100000 in
theorem winkleref01_Allowed.calls (a0 : Int) (a1 : Int) (a2 : Int) (a3 : Int) (r : Int) (w : World) (h : winkleref01_Allowed.f a0 a1 a2 a3 = some r) :
    Calls Try.prog 21 #[.int .u64 a0, .int .u64 a1, .int .u64 a2, .int .u64 a3] w fun e w' => e = .returned (.int .u64 r) ∧ Drawn0 w w' := by
  have H : ((winkleref01_Times.f a1 a3).bind fun t213 => ((winkleref01_Add.f t213 a2).bind fun t214 => (if t214 < a0 then (some t214) else (some a0)))) = some r := h
  clear h
  replace H := Option.bind_eq_some_iff.mp H
  obtain ⟨t213, A50, H⟩ := H
  replace H : ((winkleref01_Add.f t213 a2).bind fun t214 => (if t214 < a0 then (some t214) else (some a0))) = some r := H
  have A5 := Aside0.mk A50
  clear A50
  replace H := Option.bind_eq_some_iff.mp H
  obtain ⟨t214, A60, H⟩ := H
  replace H : (if t214 < a0 then (some t214) else (some a0)) = some r := H
  have A6 := Aside0.mk A60
  clear A60
  by_cases c7 : t214 < a0
  · rw [if_pos c7] at H
    have c7b0 : decide (t214 < a0) = true := decide_eq_true c7
    clear c7
    obtain rfl := Option.some.inj H
    go_enter Try.func21, Try.ntmps21
    go_wp2_with (first | ((with_reducible refine gate_callee (f := 19) rfl ?_); refine goesL_ (some 12) rfl rfl Try.func19 (by kernel_rfl) rfl #[.int .u64 a1, .int .u64 a3] rfl (by (try simp only [List.map_toArray, List.map_cons, List.map_nil]); first | done | rfl | (simp only [List.length_drop, List.length_take]; rfl)) ?_; (with_reducible refine (winkleref01_Times.calls a1 a3 t213 _ A5.out).mono ?_); rintro e w' ⟨rfl, ⟨nd, rfl⟩⟩; refine ⟨_, rfl, ?_⟩) | ((with_reducible refine gate_callee (f := 18) rfl ?_); refine goesL_ (some 14) rfl rfl Try.func18 (by kernel_rfl) rfl #[.int .u64 t213, .int .u64 a2] rfl (by (try simp only [List.map_toArray, List.map_cons, List.map_nil]); first | done | rfl | (simp only [List.length_drop, List.length_take]; rfl)) ?_; (with_reducible refine (winkleref01_Add.calls t213 a2 t214 _ A6.out).mono ?_); rintro e w' ⟨rfl, ⟨nd, rfl⟩⟩; refine ⟨_, rfl, ?_⟩))
    go_ret
    exact ⟨by first | rfl | (simp; done) | (simp [*]; done), by repeat (first | exact Drawn0.refl _ | apply Drawn0.step)⟩
  · rw [if_neg c7] at H
    have c7b0 : decide (t214 < a0) = false := decide_eq_false c7
    clear c7
    obtain rfl := Option.some.inj H
    go_enter Try.func21, Try.ntmps21
    go_wp2_with (first | ((with_reducible refine gate_callee (f := 19) rfl ?_); refine goesL_ (some 12) rfl rfl Try.func19 (by kernel_rfl) rfl #[.int .u64 a1, .int .u64 a3] rfl (by (try simp only [List.map_toArray, List.map_cons, List.map_nil]); first | done | rfl | (simp only [List.length_drop, List.length_take]; rfl)) ?_; (with_reducible refine (winkleref01_Times.calls a1 a3 t213 _ A5.out).mono ?_); rintro e w' ⟨rfl, ⟨nd, rfl⟩⟩; refine ⟨_, rfl, ?_⟩) | ((with_reducible refine gate_callee (f := 18) rfl ?_); refine goesL_ (some 14) rfl rfl Try.func18 (by kernel_rfl) rfl #[.int .u64 t213, .int .u64 a2] rfl (by (try simp only [List.map_toArray, List.map_cons, List.map_nil]); first | done | rfl | (simp only [List.length_drop, List.length_take]; rfl)) ?_; (with_reducible refine (winkleref01_Add.calls t213 a2 t214 _ A6.out).mono ?_); rintro e w' ⟨rfl, ⟨nd, rfl⟩⟩; refine ⟨_, rfl, ?_⟩))
    go_ret
    exact ⟨by first | rfl | (simp; done) | (simp [*]; done), by repeat (first | exact Drawn0.refl _ | apply Drawn0.step)⟩

-- NOT PRINTED: function 7 (winklelaw01_TallyAdds)

-- NOT PRINTED: function 8 (winklelaw01_TallyAllows)

end Go.Proofs.Ytgkgafahkbibbaa.PAll
