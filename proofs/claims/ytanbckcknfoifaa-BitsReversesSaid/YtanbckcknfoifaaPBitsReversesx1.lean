-- PRINTED BY print.sh 35421559b90ae4d0a3588c463048766b98c2df88dd9212a6774a882060cdf62d: not written by this session
import Derived.Test.YtanbckcknfoifaaPBitsReversesx0
namespace Go.Proofs.Ytanbckcknfoifaa.PBitsReverses
open Go.RowKit Go.Proofs.YtanbckcknfoifaaW.PrintWords Go.Proofs.YtanbckcknfoifaaW.PrintLast Go.Proofs.YtanbckcknfoifaaW.PrintMore
attribute [local go_sem] max2_int min2_int max_two min_two max_three min_three max_four min_four   -- for this text's walks alone
set_option linter.unusedVariables false
set_option linter.unusedSimpArgs false

/-! ### bits_Reverse: function 9 -/
def bits_Reverse.f (a0 : Int) (a1 : Int) : Option (Int) := some (((IntKind.u64.wrap (Go.bits .or .u32 (Go.bits .and .u32 ((Go.bits .or .u32 (Go.bits .and .u32 ((Go.bits .or .u32 (Go.bits .and .u32 ((Go.bits .or .u32 (Go.bits .and .u32 ((Go.bits .or .u32 (a0 / 65536) ((a0 * 65536) % 4294967296)) / 256) 16711935) (((Go.bits .and .u32 (Go.bits .or .u32 (a0 / 65536) ((a0 * 65536) % 4294967296)) 16711935) * 256) % 4294967296)) / 16) 252645135) (((Go.bits .and .u32 (Go.bits .or .u32 (Go.bits .and .u32 ((Go.bits .or .u32 (a0 / 65536) ((a0 * 65536) % 4294967296)) / 256) 16711935) (((Go.bits .and .u32 (Go.bits .or .u32 (a0 / 65536) ((a0 * 65536) % 4294967296)) 16711935) * 256) % 4294967296)) 252645135) * 16) % 4294967296)) / 4) 858993459) (((Go.bits .and .u32 (Go.bits .or .u32 (Go.bits .and .u32 ((Go.bits .or .u32 (Go.bits .and .u32 ((Go.bits .or .u32 (a0 / 65536) ((a0 * 65536) % 4294967296)) / 256) 16711935) (((Go.bits .and .u32 (Go.bits .or .u32 (a0 / 65536) ((a0 * 65536) % 4294967296)) 16711935) * 256) % 4294967296)) / 16) 252645135) (((Go.bits .and .u32 (Go.bits .or .u32 (Go.bits .and .u32 ((Go.bits .or .u32 (a0 / 65536) ((a0 * 65536) % 4294967296)) / 256) 16711935) (((Go.bits .and .u32 (Go.bits .or .u32 (a0 / 65536) ((a0 * 65536) % 4294967296)) 16711935) * 256) % 4294967296)) 252645135) * 16) % 4294967296)) 858993459) * 4) % 4294967296)) / 2) 1431655765) (((Go.bits .and .u32 (Go.bits .or .u32 (Go.bits .and .u32 ((Go.bits .or .u32 (Go.bits .and .u32 ((Go.bits .or .u32 (Go.bits .and .u32 ((Go.bits .or .u32 (a0 / 65536) ((a0 * 65536) % 4294967296)) / 256) 16711935) (((Go.bits .and .u32 (Go.bits .or .u32 (a0 / 65536) ((a0 * 65536) % 4294967296)) 16711935) * 256) % 4294967296)) / 16) 252645135) (((Go.bits .and .u32 (Go.bits .or .u32 (Go.bits .and .u32 ((Go.bits .or .u32 (a0 / 65536) ((a0 * 65536) % 4294967296)) / 256) 16711935) (((Go.bits .and .u32 (Go.bits .or .u32 (a0 / 65536) ((a0 * 65536) % 4294967296)) 16711935) * 256) % 4294967296)) 252645135) * 16) % 4294967296)) / 4) 858993459) (((Go.bits .and .u32 (Go.bits .or .u32 (Go.bits .and .u32 ((Go.bits .or .u32 (Go.bits .and .u32 ((Go.bits .or .u32 (a0 / 65536) ((a0 * 65536) % 4294967296)) / 256) 16711935) (((Go.bits .and .u32 (Go.bits .or .u32 (a0 / 65536) ((a0 * 65536) % 4294967296)) 16711935) * 256) % 4294967296)) / 16) 252645135) (((Go.bits .and .u32 (Go.bits .or .u32 (Go.bits .and .u32 ((Go.bits .or .u32 (a0 / 65536) ((a0 * 65536) % 4294967296)) / 256) 16711935) (((Go.bits .and .u32 (Go.bits .or .u32 (a0 / 65536) ((a0 * 65536) % 4294967296)) 16711935) * 256) % 4294967296)) 252645135) * 16) % 4294967296)) 858993459) * 4) % 4294967296)) 1431655765) * 2) % 4294967296))) / 2 ^ (32 - (mx 0 (mn 32 a1))).toNat) % 4294967296)
set_option maxHeartbeats 8000000 in
set_option maxRecDepth 100000 in
theorem bits_Reverse.calls (a0 : Int) (a1 : Int) (r : Int) (w : World) (h : bits_Reverse.f a0 a1 = some r) :
    Calls Try.prog 9 #[.int .u32 a0, .int .i64 a1] w fun e w' => e = .returned (.int .u32 r) ∧ Below w.heap.size w w' := by
  have HB := Aside0.mk (Below.refl w.heap.size w)
  have H : (some (((IntKind.u64.wrap (Go.bits .or .u32 (Go.bits .and .u32 ((Go.bits .or .u32 (Go.bits .and .u32 ((Go.bits .or .u32 (Go.bits .and .u32 ((Go.bits .or .u32 (Go.bits .and .u32 ((Go.bits .or .u32 (a0 / 65536) ((a0 * 65536) % 4294967296)) / 256) 16711935) (((Go.bits .and .u32 (Go.bits .or .u32 (a0 / 65536) ((a0 * 65536) % 4294967296)) 16711935) * 256) % 4294967296)) / 16) 252645135) (((Go.bits .and .u32 (Go.bits .or .u32 (Go.bits .and .u32 ((Go.bits .or .u32 (a0 / 65536) ((a0 * 65536) % 4294967296)) / 256) 16711935) (((Go.bits .and .u32 (Go.bits .or .u32 (a0 / 65536) ((a0 * 65536) % 4294967296)) 16711935) * 256) % 4294967296)) 252645135) * 16) % 4294967296)) / 4) 858993459) (((Go.bits .and .u32 (Go.bits .or .u32 (Go.bits .and .u32 ((Go.bits .or .u32 (Go.bits .and .u32 ((Go.bits .or .u32 (a0 / 65536) ((a0 * 65536) % 4294967296)) / 256) 16711935) (((Go.bits .and .u32 (Go.bits .or .u32 (a0 / 65536) ((a0 * 65536) % 4294967296)) 16711935) * 256) % 4294967296)) / 16) 252645135) (((Go.bits .and .u32 (Go.bits .or .u32 (Go.bits .and .u32 ((Go.bits .or .u32 (a0 / 65536) ((a0 * 65536) % 4294967296)) / 256) 16711935) (((Go.bits .and .u32 (Go.bits .or .u32 (a0 / 65536) ((a0 * 65536) % 4294967296)) 16711935) * 256) % 4294967296)) 252645135) * 16) % 4294967296)) 858993459) * 4) % 4294967296)) / 2) 1431655765) (((Go.bits .and .u32 (Go.bits .or .u32 (Go.bits .and .u32 ((Go.bits .or .u32 (Go.bits .and .u32 ((Go.bits .or .u32 (Go.bits .and .u32 ((Go.bits .or .u32 (a0 / 65536) ((a0 * 65536) % 4294967296)) / 256) 16711935) (((Go.bits .and .u32 (Go.bits .or .u32 (a0 / 65536) ((a0 * 65536) % 4294967296)) 16711935) * 256) % 4294967296)) / 16) 252645135) (((Go.bits .and .u32 (Go.bits .or .u32 (Go.bits .and .u32 ((Go.bits .or .u32 (a0 / 65536) ((a0 * 65536) % 4294967296)) / 256) 16711935) (((Go.bits .and .u32 (Go.bits .or .u32 (a0 / 65536) ((a0 * 65536) % 4294967296)) 16711935) * 256) % 4294967296)) 252645135) * 16) % 4294967296)) / 4) 858993459) (((Go.bits .and .u32 (Go.bits .or .u32 (Go.bits .and .u32 ((Go.bits .or .u32 (Go.bits .and .u32 ((Go.bits .or .u32 (a0 / 65536) ((a0 * 65536) % 4294967296)) / 256) 16711935) (((Go.bits .and .u32 (Go.bits .or .u32 (a0 / 65536) ((a0 * 65536) % 4294967296)) 16711935) * 256) % 4294967296)) / 16) 252645135) (((Go.bits .and .u32 (Go.bits .or .u32 (Go.bits .and .u32 ((Go.bits .or .u32 (a0 / 65536) ((a0 * 65536) % 4294967296)) / 256) 16711935) (((Go.bits .and .u32 (Go.bits .or .u32 (a0 / 65536) ((a0 * 65536) % 4294967296)) 16711935) * 256) % 4294967296)) 252645135) * 16) % 4294967296)) 858993459) * 4) % 4294967296)) 1431655765) * 2) % 4294967296))) / 2 ^ (32 - (mx 0 (mn 32 a1))).toNat) % 4294967296)) = some r := h
  clear h
  obtain ⟨ji3, hji3⟩ : ∃ j_ : Int, (mn 32 a1) = j_ := ⟨_, rfl⟩
  replace H : (some (((IntKind.u64.wrap (Go.bits .or .u32 (Go.bits .and .u32 ((Go.bits .or .u32 (Go.bits .and .u32 ((Go.bits .or .u32 (Go.bits .and .u32 ((Go.bits .or .u32 (Go.bits .and .u32 ((Go.bits .or .u32 (a0 / 65536) ((a0 * 65536) % 4294967296)) / 256) 16711935) (((Go.bits .and .u32 (Go.bits .or .u32 (a0 / 65536) ((a0 * 65536) % 4294967296)) 16711935) * 256) % 4294967296)) / 16) 252645135) (((Go.bits .and .u32 (Go.bits .or .u32 (Go.bits .and .u32 ((Go.bits .or .u32 (a0 / 65536) ((a0 * 65536) % 4294967296)) / 256) 16711935) (((Go.bits .and .u32 (Go.bits .or .u32 (a0 / 65536) ((a0 * 65536) % 4294967296)) 16711935) * 256) % 4294967296)) 252645135) * 16) % 4294967296)) / 4) 858993459) (((Go.bits .and .u32 (Go.bits .or .u32 (Go.bits .and .u32 ((Go.bits .or .u32 (Go.bits .and .u32 ((Go.bits .or .u32 (a0 / 65536) ((a0 * 65536) % 4294967296)) / 256) 16711935) (((Go.bits .and .u32 (Go.bits .or .u32 (a0 / 65536) ((a0 * 65536) % 4294967296)) 16711935) * 256) % 4294967296)) / 16) 252645135) (((Go.bits .and .u32 (Go.bits .or .u32 (Go.bits .and .u32 ((Go.bits .or .u32 (a0 / 65536) ((a0 * 65536) % 4294967296)) / 256) 16711935) (((Go.bits .and .u32 (Go.bits .or .u32 (a0 / 65536) ((a0 * 65536) % 4294967296)) 16711935) * 256) % 4294967296)) 252645135) * 16) % 4294967296)) 858993459) * 4) % 4294967296)) / 2) 1431655765) (((Go.bits .and .u32 (Go.bits .or .u32 (Go.bits .and .u32 ((Go.bits .or .u32 (Go.bits .and .u32 ((Go.bits .or .u32 (Go.bits .and .u32 ((Go.bits .or .u32 (a0 / 65536) ((a0 * 65536) % 4294967296)) / 256) 16711935) (((Go.bits .and .u32 (Go.bits .or .u32 (a0 / 65536) ((a0 * 65536) % 4294967296)) 16711935) * 256) % 4294967296)) / 16) 252645135) (((Go.bits .and .u32 (Go.bits .or .u32 (Go.bits .and .u32 ((Go.bits .or .u32 (a0 / 65536) ((a0 * 65536) % 4294967296)) / 256) 16711935) (((Go.bits .and .u32 (Go.bits .or .u32 (a0 / 65536) ((a0 * 65536) % 4294967296)) 16711935) * 256) % 4294967296)) 252645135) * 16) % 4294967296)) / 4) 858993459) (((Go.bits .and .u32 (Go.bits .or .u32 (Go.bits .and .u32 ((Go.bits .or .u32 (Go.bits .and .u32 ((Go.bits .or .u32 (a0 / 65536) ((a0 * 65536) % 4294967296)) / 256) 16711935) (((Go.bits .and .u32 (Go.bits .or .u32 (a0 / 65536) ((a0 * 65536) % 4294967296)) 16711935) * 256) % 4294967296)) / 16) 252645135) (((Go.bits .and .u32 (Go.bits .or .u32 (Go.bits .and .u32 ((Go.bits .or .u32 (a0 / 65536) ((a0 * 65536) % 4294967296)) / 256) 16711935) (((Go.bits .and .u32 (Go.bits .or .u32 (a0 / 65536) ((a0 * 65536) % 4294967296)) 16711935) * 256) % 4294967296)) 252645135) * 16) % 4294967296)) 858993459) * 4) % 4294967296)) 1431655765) * 2) % 4294967296))) / 2 ^ (32 - (mx 0 (ji3))).toNat) % 4294967296)) = some r := by first | (rw [hji3] at H; exact H) | (simp only [hji3] at H ⊢; exact H)
  (try (have hji3h : ji3 ≤ 32 := by (rw [← hji3]; unfold mn; (repeat' split) <;> omega)))
  (try (have hji3g : ji3 ≤ 64 := by omega))
  have hji3_ : (if a1 < 32 then a1 else 32) = ji3 := hji3
  obtain ⟨ji4, hji4⟩ : ∃ j_ : Int, (mx 0 (ji3)) = j_ := ⟨_, rfl⟩
  replace H : (some (((IntKind.u64.wrap (Go.bits .or .u32 (Go.bits .and .u32 ((Go.bits .or .u32 (Go.bits .and .u32 ((Go.bits .or .u32 (Go.bits .and .u32 ((Go.bits .or .u32 (Go.bits .and .u32 ((Go.bits .or .u32 (a0 / 65536) ((a0 * 65536) % 4294967296)) / 256) 16711935) (((Go.bits .and .u32 (Go.bits .or .u32 (a0 / 65536) ((a0 * 65536) % 4294967296)) 16711935) * 256) % 4294967296)) / 16) 252645135) (((Go.bits .and .u32 (Go.bits .or .u32 (Go.bits .and .u32 ((Go.bits .or .u32 (a0 / 65536) ((a0 * 65536) % 4294967296)) / 256) 16711935) (((Go.bits .and .u32 (Go.bits .or .u32 (a0 / 65536) ((a0 * 65536) % 4294967296)) 16711935) * 256) % 4294967296)) 252645135) * 16) % 4294967296)) / 4) 858993459) (((Go.bits .and .u32 (Go.bits .or .u32 (Go.bits .and .u32 ((Go.bits .or .u32 (Go.bits .and .u32 ((Go.bits .or .u32 (a0 / 65536) ((a0 * 65536) % 4294967296)) / 256) 16711935) (((Go.bits .and .u32 (Go.bits .or .u32 (a0 / 65536) ((a0 * 65536) % 4294967296)) 16711935) * 256) % 4294967296)) / 16) 252645135) (((Go.bits .and .u32 (Go.bits .or .u32 (Go.bits .and .u32 ((Go.bits .or .u32 (a0 / 65536) ((a0 * 65536) % 4294967296)) / 256) 16711935) (((Go.bits .and .u32 (Go.bits .or .u32 (a0 / 65536) ((a0 * 65536) % 4294967296)) 16711935) * 256) % 4294967296)) 252645135) * 16) % 4294967296)) 858993459) * 4) % 4294967296)) / 2) 1431655765) (((Go.bits .and .u32 (Go.bits .or .u32 (Go.bits .and .u32 ((Go.bits .or .u32 (Go.bits .and .u32 ((Go.bits .or .u32 (Go.bits .and .u32 ((Go.bits .or .u32 (a0 / 65536) ((a0 * 65536) % 4294967296)) / 256) 16711935) (((Go.bits .and .u32 (Go.bits .or .u32 (a0 / 65536) ((a0 * 65536) % 4294967296)) 16711935) * 256) % 4294967296)) / 16) 252645135) (((Go.bits .and .u32 (Go.bits .or .u32 (Go.bits .and .u32 ((Go.bits .or .u32 (a0 / 65536) ((a0 * 65536) % 4294967296)) / 256) 16711935) (((Go.bits .and .u32 (Go.bits .or .u32 (a0 / 65536) ((a0 * 65536) % 4294967296)) 16711935) * 256) % 4294967296)) 252645135) * 16) % 4294967296)) / 4) 858993459) (((Go.bits .and .u32 (Go.bits .or .u32 (Go.bits .and .u32 ((Go.bits .or .u32 (Go.bits .and .u32 ((Go.bits .or .u32 (a0 / 65536) ((a0 * 65536) % 4294967296)) / 256) 16711935) (((Go.bits .and .u32 (Go.bits .or .u32 (a0 / 65536) ((a0 * 65536) % 4294967296)) 16711935) * 256) % 4294967296)) / 16) 252645135) (((Go.bits .and .u32 (Go.bits .or .u32 (Go.bits .and .u32 ((Go.bits .or .u32 (a0 / 65536) ((a0 * 65536) % 4294967296)) / 256) 16711935) (((Go.bits .and .u32 (Go.bits .or .u32 (a0 / 65536) ((a0 * 65536) % 4294967296)) 16711935) * 256) % 4294967296)) 252645135) * 16) % 4294967296)) 858993459) * 4) % 4294967296)) 1431655765) * 2) % 4294967296))) / 2 ^ (32 - (ji4)).toNat) % 4294967296)) = some r := by first | (rw [hji4] at H; exact H) | (simp only [hji4] at H ⊢; exact H)
  have hji4_ : (if 0 < (ji3) then (ji3) else 0) = ji4 := hji4
  obtain rfl := Option.some.inj H
  go_enter Try.func9, Try.ntmps9
  go_wp2
  go_ret
  exact ⟨by first | rfl | (simp [errW_none, errW_some] <;> rfl) | (simp only [← hji3, ← hji4]; first | rfl | (simp [errW_none, errW_some] <;> rfl)) | (simp [*, errW_none, errW_some] <;> rfl), by repeat (first | (with_reducible first | exact HB.out | apply below_alloc | apply pw_below_drewN | apply below_drew1) | exact HB.out)⟩

/-! ### winkleref02_Reverse: function 10 -/
def winkleref02_Reverse.l0 : Nat → Int → Int → Int → Int → Option (Int)
  | 0, _, _, _, _ => none
  | k + 1, x0, x1, x5, x6 => if x6 < x1 then (winkleref02_Reverse.l0 k ((Int.tdiv x0 2) % 4294967296) x1 ((((2 * x5) % 4294967296) + (Int.tmod x0 2)) % 4294967296) (wrap64 (x6 + 1))) else (some x5)
def winkleref02_Reverse.f (k : Nat) (a0 : Int) (a1 : Int) : Option (Int) := winkleref02_Reverse.l0 k a0 (mx 0 (mn 32 a1)) 0 0
theorem winkleref02_Reverse.mono_l : ∀ k, (∀ y0 y1 y2 y3, LeO (winkleref02_Reverse.l0 k y0 y1 y2 y3) (winkleref02_Reverse.l0 (k + 1) y0 y1 y2 y3))
  | 0 => fun _ _ _ _ r h => by simp [winkleref02_Reverse.l0] at h
  | k + 1 => by
    have ih0 := winkleref02_Reverse.mono_l k
    · intro y0 y1 y2 y3
      unfold winkleref02_Reverse.l0
      repeat' first
      | (with_reducible exact ih0 _ _ _ _)
      | (with_reducible exact LeO.refl _)
      | (with_reducible exact LeO.none _)
      | (with_reducible refine LeO.ite ?_ ?_)
      | (with_reducible refine LeO.bind ?_ (fun _ => ?_))
      | exact ih0 _ _ _ _
      | exact LeO.none _
      | refine LeO.ite ?_ ?_
      | refine LeO.bind ?_ (fun _ => ?_)
theorem winkleref02_Reverse.mono : ∀ a0 a1 k, LeO (winkleref02_Reverse.f k a0 a1) (winkleref02_Reverse.f (k + 1) a0 a1) := by
  intro a0 a1 k
  have ih0 := winkleref02_Reverse.mono_l k
  unfold winkleref02_Reverse.f
  repeat' first
      | (with_reducible exact ih0 _ _ _ _)
      | (with_reducible exact LeO.refl _)
      | (with_reducible exact LeO.none _)
      | (with_reducible refine LeO.ite ?_ ?_)
      | (with_reducible refine LeO.bind ?_ (fun _ => ?_))
      | exact ih0 _ _ _ _
      | exact LeO.none _
      | refine LeO.ite ?_ ?_
      | refine LeO.bind ?_ (fun _ => ?_)
set_option maxHeartbeats 8000000 in
set_option maxRecDepth 100000 in
theorem winkleref02_Reverse.calls (k : Nat) (a0 : Int) (a1 : Int) (r : Int) (w : World) (h : winkleref02_Reverse.f k a0 a1 = some r) :
    Calls Try.prog 10 #[.int .u32 a0, .int .i64 a1] w fun e w' => e = .returned (.int .u32 r) ∧ Below w.heap.size w w' := by
  have HB := Aside0.mk (Below.refl w.heap.size w)
  have H : (winkleref02_Reverse.l0 k a0 (mx 0 (mn 32 a1)) 0 0) = some r := h
  clear h
  obtain ⟨ji3, hji3⟩ : ∃ j_ : Int, (mn 32 a1) = j_ := ⟨_, rfl⟩
  replace H : (winkleref02_Reverse.l0 k a0 (mx 0 (ji3)) 0 0) = some r := by first | (rw [hji3] at H; exact H) | (simp only [hji3] at H ⊢; exact H)
  (try (have hji3h : ji3 ≤ 32 := by (rw [← hji3]; unfold mn; (repeat' split) <;> omega)))
  (try (have hji3g : ji3 ≤ 64 := by omega))
  have hji3_ : (if a1 < 32 then a1 else 32) = ji3 := hji3
  obtain ⟨ji4, hji4⟩ : ∃ j_ : Int, (mx 0 (ji3)) = j_ := ⟨_, rfl⟩
  replace H : (winkleref02_Reverse.l0 k a0 ji4 0 0) = some r := by first | (rw [hji4] at H; exact H) | (simp only [hji4] at H ⊢; exact H)
  have hji4_ : (if 0 < (ji3) then (ji3) else 0) = ji4 := hji4
  have H' := Aside0.mk H
  clear H
  go_enter Try.func10, Try.ntmps10
  go_wp2
  go_loopg [0, 5, 6] k (fun kq v0 v5 v6 w' => ∃ (x0_1 : Int) (x5_1 : Int) (x6_1 : Int), v0 = .int .u32 x0_1 ∧ v5 = .int .u32 x5_1 ∧ v6 = .int .i64 x6_1 ∧ Aside0 (winkleref02_Reverse.l0 kq x0_1 ji4 x5_1 x6_1 = some r) ∧ Aside0 (kq ≤ k) ∧ Aside0 (Below w.heap.size w w'))
  case atStart => exact ⟨(a0), (0), (0), (by first | rfl | (simp; done) | (simp [*]; done)), (by first | rfl | (simp; done) | (simp [*]; done)), (by first | rfl | (simp; done) | (simp [*]; done)), H', ⟨Nat.le_refl _⟩, ⟨by repeat (first | (with_reducible first | exact HB.out | apply below_alloc | apply pw_below_drewN | apply below_drew1) | exact HB.out)⟩⟩
  case round =>
    clear H'
    try clear c1
    try clear p2
    obtain ⟨x0_1, x5_1, x6_1, rfl, rfl, rfl, HA, HK1, HB⟩ := hrel
    cases gk with
    | zero => exact absurd HA.out (by simp [winkleref02_Reverse.l0])
    | succ k1 =>
      have H := HA.out
      clear HA
      simp only [winkleref02_Reverse.l0] at H
      by_cases c5 : x6_1 < ji4
      · rw [if_pos c5] at H
        have c5b0 : decide (x6_1 < ji4) = true := decide_eq_true c5
        clear c5
        have H' := Aside0.mk H
        clear H
        go_wp2
        go_roundg k1
        case measure => have := HK1.out; omega
        case rel => exact ⟨((Int.tdiv x0_1 2) % 4294967296), ((((2 * x5_1) % 4294967296) + (Int.tmod x0_1 2)) % 4294967296), (wrap64 (x6_1 + 1)), (by first | rfl | (simp; done) | (simp [*]; done)), (by first | rfl | (simp; done) | (simp [*]; done)), (by first | rfl | (simp; done) | (simp [*]; done)), H', ⟨by have := HK1.out; omega⟩, ⟨by repeat (first | (with_reducible first | exact HB.out | apply below_alloc | apply pw_below_drewN | apply below_drew1) | exact HB.out)⟩⟩
      · rw [if_neg c5] at H
        have c5b0 : decide (x6_1 < ji4) = false := decide_eq_false c5
        clear c5
        obtain rfl := Option.some.inj H
        go_wp2
        go_ret
        exact ⟨by first | rfl | (simp [errW_none, errW_some] <;> rfl) | (simp only [← hji3, ← hji4]; first | rfl | (simp [errW_none, errW_some] <;> rfl)) | (simp [*, errW_none, errW_some] <;> rfl), by repeat (first | (with_reducible first | exact HB.out | apply below_alloc | apply pw_below_drewN | apply below_drew1) | exact HB.out)⟩

/-! ### winklelaw02_BitsReverses: function 3 -/
def winklelaw02_BitsReverses.f (k : Nat) (a0 : Int) (a1 : Int) : Option (Bool) := (bits_Reverse.f a0 a1).bind fun t101 => (if (IntKind.u64.wrap (2 ^ (mx 0 (mn 32 a1)).toNat)) = 0 then (none) else ((winkleref02_Reverse.f k a0 a1).bind fun t102 => (if t101 = t102 then ((bits_Reverse.f t101 a1).bind fun t103 => (if t103 = ((Int.tmod (IntKind.u64.wrap (a0)) (IntKind.u64.wrap (2 ^ (mx 0 (mn 32 a1)).toNat))) % 4294967296) then ((bits_Reverse.f 1 3).bind fun t104 => (some (t104 == 4))) else (some false))) else (some false))))
theorem winklelaw02_BitsReverses.mono : ∀ a0 a1 k, LeO (winklelaw02_BitsReverses.f k a0 a1) (winklelaw02_BitsReverses.f (k + 1) a0 a1) := by
  intro a0 a1 k
  unfold winklelaw02_BitsReverses.f
  repeat' first
      | (with_reducible exact winkleref02_Reverse.mono _ _ _)
      | (with_reducible exact LeO.refl _)
      | (with_reducible exact LeO.none _)
      | (with_reducible refine LeO.ite ?_ ?_)
      | (with_reducible refine LeO.bind ?_ (fun _ => ?_))
      | exact winkleref02_Reverse.mono _ _ _
      | exact LeO.none _
      | refine LeO.ite ?_ ?_
      | refine LeO.bind ?_ (fun _ => ?_)
set_option maxHeartbeats 8000000 in
set_option maxRecDepth 100000 in
theorem winklelaw02_BitsReverses.calls (k : Nat) (a0 : Int) (a1 : Int) (r : Bool) (w : World) (h : winklelaw02_BitsReverses.f k a0 a1 = some r) :
    Calls Try.prog 3 #[.int .u32 a0, .int .i64 a1] w fun e w' => e = .returned (.bool r) ∧ Below w.heap.size w w' := by
  have HB := Aside0.mk (Below.refl w.heap.size w)
  have H : ((bits_Reverse.f a0 a1).bind fun t101 => (if (IntKind.u64.wrap (2 ^ (mx 0 (mn 32 a1)).toNat)) = 0 then (none) else ((winkleref02_Reverse.f k a0 a1).bind fun t102 => (if t101 = t102 then ((bits_Reverse.f t101 a1).bind fun t103 => (if t103 = ((Int.tmod (IntKind.u64.wrap (a0)) (IntKind.u64.wrap (2 ^ (mx 0 (mn 32 a1)).toNat))) % 4294967296) then ((bits_Reverse.f 1 3).bind fun t104 => (some (t104 == 4))) else (some false))) else (some false))))) = some r := h
  clear h
  replace H := Option.bind_eq_some_iff.mp H
  obtain ⟨t101, A30, H⟩ := H
  replace H : (if (IntKind.u64.wrap (2 ^ (mx 0 (mn 32 a1)).toNat)) = 0 then (none) else ((winkleref02_Reverse.f k a0 a1).bind fun t102 => (if t101 = t102 then ((bits_Reverse.f t101 a1).bind fun t103 => (if t103 = ((Int.tmod (IntKind.u64.wrap (a0)) (IntKind.u64.wrap (2 ^ (mx 0 (mn 32 a1)).toNat))) % 4294967296) then ((bits_Reverse.f 1 3).bind fun t104 => (some (t104 == 4))) else (some false))) else (some false)))) = some r := H
  have A3 := Aside0.mk A30
  clear A30
  obtain ⟨ji4, hji4⟩ : ∃ j_ : Int, (mn 32 a1) = j_ := ⟨_, rfl⟩
  replace H : (if (IntKind.u64.wrap (2 ^ (mx 0 (ji4)).toNat)) = 0 then (none) else ((winkleref02_Reverse.f k a0 a1).bind fun t102 => (if t101 = t102 then ((bits_Reverse.f t101 a1).bind fun t103 => (if t103 = ((Int.tmod (IntKind.u64.wrap (a0)) (IntKind.u64.wrap (2 ^ (mx 0 (ji4)).toNat))) % 4294967296) then ((bits_Reverse.f 1 3).bind fun t104 => (some (t104 == 4))) else (some false))) else (some false)))) = some r := by first | (rw [hji4] at H; exact H) | (simp only [hji4] at H ⊢; exact H)
  (try rw [hji4] at A3)
  (try (have hji4h : ji4 ≤ 32 := by (rw [← hji4]; unfold mn; (repeat' split) <;> omega)))
  (try (have hji4g : ji4 ≤ 64 := by omega))
  have hji4_ : (if a1 < 32 then a1 else 32) = ji4 := hji4
  obtain ⟨ji5, hji5⟩ : ∃ j_ : Int, (mx 0 (ji4)) = j_ := ⟨_, rfl⟩
  replace H : (if (IntKind.u64.wrap (2 ^ (ji5).toNat)) = 0 then (none) else ((winkleref02_Reverse.f k a0 a1).bind fun t102 => (if t101 = t102 then ((bits_Reverse.f t101 a1).bind fun t103 => (if t103 = ((Int.tmod (IntKind.u64.wrap (a0)) (IntKind.u64.wrap (2 ^ (ji5).toNat))) % 4294967296) then ((bits_Reverse.f 1 3).bind fun t104 => (some (t104 == 4))) else (some false))) else (some false)))) = some r := by first | (rw [hji5] at H; exact H) | (simp only [hji5] at H ⊢; exact H)
  (try rw [hji5] at A3)
  have hji5_ : (if 0 < (ji4) then (ji4) else 0) = ji5 := hji5
  by_cases c6 : (IntKind.u64.wrap (2 ^ (ji5).toNat)) = 0
  · rw [if_pos c6] at H
    exact absurd H (by simp)
  · rw [if_neg c6] at H
    have c6b0 : ((IntKind.u64.wrap (2 ^ (ji5).toNat)) == 0) = false := beq_eq_false_iff_ne.mpr c6
    have c6b1 : ((IntKind.u64.wrap (2 ^ (ji5).toNat)) != 0) = true := bne_iff_ne.mpr c6
    replace H := Option.bind_eq_some_iff.mp H
    obtain ⟨t102, A70, H⟩ := H
    replace H : (if t101 = t102 then ((bits_Reverse.f t101 a1).bind fun t103 => (if t103 = ((Int.tmod (IntKind.u64.wrap (a0)) (IntKind.u64.wrap (2 ^ (ji5).toNat))) % 4294967296) then ((bits_Reverse.f 1 3).bind fun t104 => (some (t104 == 4))) else (some false))) else (some false)) = some r := H
    have A7 := Aside0.mk A70
    clear A70
    by_cases c8 : t101 = t102
    · rw [if_pos c8] at H
      have c8b0 : (t101 == t102) = true := beq_iff_eq.mpr c8
      have c8b1 : (t101 != t102) = false := bne_eq_false_iff_eq.mpr c8
      clear c8
      replace H := Option.bind_eq_some_iff.mp H
      obtain ⟨t103, A90, H⟩ := H
      replace H : (if t103 = ((Int.tmod (IntKind.u64.wrap (a0)) (IntKind.u64.wrap (2 ^ (ji5).toNat))) % 4294967296) then ((bits_Reverse.f 1 3).bind fun t104 => (some (t104 == 4))) else (some false)) = some r := H
      have A9 := Aside0.mk A90
      clear A90
      by_cases c10 : t103 = ((Int.tmod (IntKind.u64.wrap (a0)) (IntKind.u64.wrap (2 ^ (ji5).toNat))) % 4294967296)
      · rw [if_pos c10] at H
        have c10b0 : (t103 == ((Int.tmod (IntKind.u64.wrap (a0)) (IntKind.u64.wrap (2 ^ (ji5).toNat))) % 4294967296)) = true := beq_iff_eq.mpr c10
        have c10b1 : (t103 != ((Int.tmod (IntKind.u64.wrap (a0)) (IntKind.u64.wrap (2 ^ (ji5).toNat))) % 4294967296)) = false := bne_eq_false_iff_eq.mpr c10
        clear c10
        replace H := Option.bind_eq_some_iff.mp H
        obtain ⟨t104, A110, H⟩ := H
        replace H : (some (t104 == 4)) = some r := H
        have A11 := Aside0.mk A110
        clear A110
        obtain rfl := Option.some.inj H
        go_enter Try.func3, Try.ntmps3
        go_wp2_with (first | ((with_reducible refine gate_callee (f := 9) rfl ?_); refine goesL_ (some 9) rfl rfl Try.func9 (by kernel_rfl) rfl #[.int .u32 a0, .int .i64 a1] rfl (by (try simp only [List.map_toArray, List.map_cons, List.map_nil]); first | done | rfl | (simp only [List.length_drop, List.length_take]; rfl)) ?_; (with_reducible refine (bits_Reverse.calls a0 a1 t101 _ A3.out).mono ?_); rintro e w12 ⟨rfl, hb⟩; refine ⟨_, rfl, ?_⟩; have n0_ := Aside0.mk (below_step (by repeat (first | (with_reducible first | exact HB.out | apply below_alloc | apply pw_below_drewN | apply below_drew1) | exact HB.out)) hb); clear HB; have HB := n0_; clear n0_; (try clear hb); (try clear hb2); (try clear hk); (try clear hi)) | ((with_reducible refine gate_callee (f := 10) rfl ?_); refine goesL_ (some 22) rfl rfl Try.func10 (by kernel_rfl) rfl #[.int .u32 a0, .int .i64 a1] rfl (by (try simp only [List.map_toArray, List.map_cons, List.map_nil]); first | done | rfl | (simp only [List.length_drop, List.length_take]; rfl)) ?_; (with_reducible refine (winkleref02_Reverse.calls k a0 a1 t102 _ A7.out).mono ?_); rintro e w13 ⟨rfl, hb⟩; refine ⟨_, rfl, ?_⟩; have n0_ := Aside0.mk (below_step (by repeat (first | (with_reducible first | exact HB.out | apply below_alloc | apply pw_below_drewN | apply below_drew1) | exact HB.out)) hb); clear HB; have HB := n0_; clear n0_; (try clear hb); (try clear hb2); (try clear hk); (try clear hi)) | (go_at_call 9; (with_reducible refine (bits_Reverse.calls t101 a1 t103 _ A9.out).mono ?_); rintro e w14 ⟨rfl, hb⟩; have n0_ := Aside0.mk (below_step (by repeat (first | (with_reducible first | exact HB.out | apply below_alloc | apply pw_below_drewN | apply below_drew1) | exact HB.out)) hb); clear HB; have HB := n0_; clear n0_; (try clear hb); (try clear hb2); (try clear hk); (try clear hi)) | (go_at_call 9; (with_reducible refine (bits_Reverse.calls 1 3 t104 _ A11.out).mono ?_); rintro e w15 ⟨rfl, hb⟩; have n0_ := Aside0.mk (below_step (by repeat (first | (with_reducible first | exact HB.out | apply below_alloc | apply pw_below_drewN | apply below_drew1) | exact HB.out)) hb); clear HB; have HB := n0_; clear n0_; (try clear hb); (try clear hb2); (try clear hk); (try clear hi)))
        go_ret
        exact ⟨by first | rfl | (simp [errW_none, errW_some] <;> rfl) | (simp only [← hji4, ← hji5]; first | rfl | (simp [errW_none, errW_some] <;> rfl)) | (simp [*, errW_none, errW_some] <;> rfl), by repeat (first | (with_reducible first | exact HB.out | apply below_alloc | apply pw_below_drewN | apply below_drew1) | exact HB.out)⟩
      · rw [if_neg c10] at H
        have c10b0 : (t103 == ((Int.tmod (IntKind.u64.wrap (a0)) (IntKind.u64.wrap (2 ^ (ji5).toNat))) % 4294967296)) = false := beq_eq_false_iff_ne.mpr c10
        have c10b1 : (t103 != ((Int.tmod (IntKind.u64.wrap (a0)) (IntKind.u64.wrap (2 ^ (ji5).toNat))) % 4294967296)) = true := bne_iff_ne.mpr c10
        obtain rfl := Option.some.inj H
        go_enter Try.func3, Try.ntmps3
        go_wp2_with (first | ((with_reducible refine gate_callee (f := 9) rfl ?_); refine goesL_ (some 9) rfl rfl Try.func9 (by kernel_rfl) rfl #[.int .u32 a0, .int .i64 a1] rfl (by (try simp only [List.map_toArray, List.map_cons, List.map_nil]); first | done | rfl | (simp only [List.length_drop, List.length_take]; rfl)) ?_; (with_reducible refine (bits_Reverse.calls a0 a1 t101 _ A3.out).mono ?_); rintro e w16 ⟨rfl, hb⟩; refine ⟨_, rfl, ?_⟩; have n0_ := Aside0.mk (below_step (by repeat (first | (with_reducible first | exact HB.out | apply below_alloc | apply pw_below_drewN | apply below_drew1) | exact HB.out)) hb); clear HB; have HB := n0_; clear n0_; (try clear hb); (try clear hb2); (try clear hk); (try clear hi)) | ((with_reducible refine gate_callee (f := 10) rfl ?_); refine goesL_ (some 22) rfl rfl Try.func10 (by kernel_rfl) rfl #[.int .u32 a0, .int .i64 a1] rfl (by (try simp only [List.map_toArray, List.map_cons, List.map_nil]); first | done | rfl | (simp only [List.length_drop, List.length_take]; rfl)) ?_; (with_reducible refine (winkleref02_Reverse.calls k a0 a1 t102 _ A7.out).mono ?_); rintro e w17 ⟨rfl, hb⟩; refine ⟨_, rfl, ?_⟩; have n0_ := Aside0.mk (below_step (by repeat (first | (with_reducible first | exact HB.out | apply below_alloc | apply pw_below_drewN | apply below_drew1) | exact HB.out)) hb); clear HB; have HB := n0_; clear n0_; (try clear hb); (try clear hb2); (try clear hk); (try clear hi)) | (go_at_call 9; (with_reducible refine (bits_Reverse.calls t101 a1 t103 _ A9.out).mono ?_); rintro e w18 ⟨rfl, hb⟩; have n0_ := Aside0.mk (below_step (by repeat (first | (with_reducible first | exact HB.out | apply below_alloc | apply pw_below_drewN | apply below_drew1) | exact HB.out)) hb); clear HB; have HB := n0_; clear n0_; (try clear hb); (try clear hb2); (try clear hk); (try clear hi)))
        go_ret
        exact ⟨by first | rfl | (simp [errW_none, errW_some] <;> rfl) | (simp only [← hji4, ← hji5]; first | rfl | (simp [errW_none, errW_some] <;> rfl)) | (simp [*, errW_none, errW_some] <;> rfl), by repeat (first | (with_reducible first | exact HB.out | apply below_alloc | apply pw_below_drewN | apply below_drew1) | exact HB.out)⟩
    · rw [if_neg c8] at H
      have c8b0 : (t101 == t102) = false := beq_eq_false_iff_ne.mpr c8
      have c8b1 : (t101 != t102) = true := bne_iff_ne.mpr c8
      obtain rfl := Option.some.inj H
      go_enter Try.func3, Try.ntmps3
      go_wp2_with (first | ((with_reducible refine gate_callee (f := 9) rfl ?_); refine goesL_ (some 9) rfl rfl Try.func9 (by kernel_rfl) rfl #[.int .u32 a0, .int .i64 a1] rfl (by (try simp only [List.map_toArray, List.map_cons, List.map_nil]); first | done | rfl | (simp only [List.length_drop, List.length_take]; rfl)) ?_; (with_reducible refine (bits_Reverse.calls a0 a1 t101 _ A3.out).mono ?_); rintro e w19 ⟨rfl, hb⟩; refine ⟨_, rfl, ?_⟩; have n0_ := Aside0.mk (below_step (by repeat (first | (with_reducible first | exact HB.out | apply below_alloc | apply pw_below_drewN | apply below_drew1) | exact HB.out)) hb); clear HB; have HB := n0_; clear n0_; (try clear hb); (try clear hb2); (try clear hk); (try clear hi)) | ((with_reducible refine gate_callee (f := 10) rfl ?_); refine goesL_ (some 22) rfl rfl Try.func10 (by kernel_rfl) rfl #[.int .u32 a0, .int .i64 a1] rfl (by (try simp only [List.map_toArray, List.map_cons, List.map_nil]); first | done | rfl | (simp only [List.length_drop, List.length_take]; rfl)) ?_; (with_reducible refine (winkleref02_Reverse.calls k a0 a1 t102 _ A7.out).mono ?_); rintro e w20 ⟨rfl, hb⟩; refine ⟨_, rfl, ?_⟩; have n0_ := Aside0.mk (below_step (by repeat (first | (with_reducible first | exact HB.out | apply below_alloc | apply pw_below_drewN | apply below_drew1) | exact HB.out)) hb); clear HB; have HB := n0_; clear n0_; (try clear hb); (try clear hb2); (try clear hk); (try clear hi)))
      go_ret
      exact ⟨by first | rfl | (simp [errW_none, errW_some] <;> rfl) | (simp only [← hji4, ← hji5]; first | rfl | (simp [errW_none, errW_some] <;> rfl)) | (simp [*, errW_none, errW_some] <;> rfl), by repeat (first | (with_reducible first | exact HB.out | apply below_alloc | apply pw_below_drewN | apply below_drew1) | exact HB.out)⟩

/-- THE ONE PURE STATEMENT of winklelaw02_BitsReverses: yours. -/
def winklelaw02_BitsReverses.Pure : Prop := ∀ (a0 : Int) (a1 : Int), (Lit.int .u32 a0).wf = true → (Lit.int .i64 a1).wf = true → ∃ k, winklelaw02_BitsReverses.f k a0 a1 = some true
theorem winklelaw02_BitsReverses.walk (P : winklelaw02_BitsReverses.Pure) (a0 : Int) (a1 : Int) (w : World) (w0 : (Lit.int .u32 a0).wf = true) (w1 : (Lit.int .i64 a1).wf = true) :
    Calls Try.prog 3 #[.int .u32 a0, .int .i64 a1] w fun e w' => e = .returned (.bool true) ∧ Below w.heap.size w w' := by
  obtain ⟨k, h⟩ := P a0 a1 w0 w1
  refine (winklelaw02_BitsReverses.calls k a0 a1 true w h).mono ?_
  rintro e w' ⟨rfl, hd⟩
  exact ⟨rfl, hd⟩

end Go.Proofs.Ytanbckcknfoifaa.PBitsReverses
