/- TallyAllows: the walk by hand (an array among the parameters) and its plain law. -/
import Derived.Test.YtgkgafahkbibbaaPAllx3
import Derived.Test.YtgkgafahkbibbaaSat
namespace Go.Proofs.Ytgkgafahkbibbaa.PAll
open Go.RowKit Go.Proofs.YtgkgafahkbibbaaW.PrintWords Go.Proofs.YtgkgafahkbibbaaW.PrintLast Go.Proofs.YtgkgafahkbibbaaW.PrintMore Go.Proofs.Ytgkgafahkbibbaa.Sat
set_option linter.unusedVariables false
theorem allowed_f (t r s n : Int) (hr : Rg r) (hs : Rg s) (hn : Rg n) : tally_Allowed.f t r s n = some (mn t (satN (satN (r * n) + s))) := by
  unfold tally_Allowed.f
  rw [times_f r n hr hn, Option.bind_some, add_f _ s (satN_range (Int.mul_nonneg hr.1 hn.1)) hs, Option.bind_some]
set_option maxHeartbeats 8000000 in
set_option maxRecDepth 100000 in
theorem allows_calls (a b m0 m1 m2 X Y T M Z : Int) (w : World) (hX : tally_Allowed.f a b m0 m1 = some X) (hA : tally_Add.f m1 m2 = some Z) (hY : tally_Allowed.f a b m0 Z = some Y) (hT : tally_Times.f b m1 = some T) (hM : tally_Add.f T m0 = some M) (hF : tally_Allowed.f a 0 a 7 = some a)
    (f1 : decide (X ≤ a) = true) (f2 : decide (X ≤ M) = true) (f3 : (X == a) = true ∨ ((X == a) = false ∧ (X == M) = true)) (f4 : decide (X ≤ Y) = true) :
    Calls Try.prog 8 #[.int .u64 a, .int .u64 b, .agg #[.int .u64 m0, .int .u64 m1, .int .u64 m2]] w fun e w' => e = .returned (.bool true) ∧ Below w.heap.size w w' := by
  have HB := Aside0.mk (Below.refl w.heap.size w)
  have AX := Aside0.mk hX
  have AA := Aside0.mk hA
  have AY := Aside0.mk hY
  have AT := Aside0.mk hT
  have AM := Aside0.mk hM
  have AF := Aside0.mk hF
  clear hX hA hY hT hM hF
  have hB1 : Below w.heap.size w (w.alloc (.cells #[.int .u64 m0, .int .u64 m1, .int .u64 m2] 39)) := below_alloc (Below.refl _ _) _
  have HB1 := Aside0.mk hB1
  clear hB1
  rcases f3 with f3 | ⟨f3, f5⟩
  all_goals
    go_enter Try.func8, Try.ntmps8
    go_wp2_with (first
      | (go_at_call 20; (with_reducible refine (tally_Allowed.calls a b m0 m1 X _ AX.out).mono ?_); rintro e w1 ⟨rfl, hb⟩; have hd0 : w1.cell? ⟨w.heap.size, 0, none⟩ = some (.int .u64 m0) := pw_cell_below hb (by first | (go_simp; done) | (go_simp; rfl)); have hd1 : w1.cell? ⟨w.heap.size, 1, none⟩ = some (.int .u64 m1) := pw_cell_below hb (by first | (go_simp; done) | (go_simp; rfl)); have hd2 : w1.cell? ⟨w.heap.size, 2, none⟩ = some (.int .u64 m2) := pw_cell_below hb (by first | (go_simp; done) | (go_simp; rfl)); have n0_ := Aside0.mk (below_step HB1.out hb); clear HB hb; have HB := n0_; clear n0_; have hk0 := Aside0.mk hd0; have hk1 := Aside0.mk hd1; have hk2 := Aside0.mk hd2; have hc0 := hd0; have hc1 := hd1; have hc2 := hd2; clear hd0 hd1 hd2)
      | (go_at_call 16; (with_reducible refine (tally_Add.calls m1 m2 Z _ AA.out).mono ?_); rintro e w2 ⟨rfl, ⟨nd1, rfl⟩⟩)
      | (go_at_call 20; (with_reducible refine (tally_Allowed.calls a b m0 Z Y _ AY.out).mono ?_); rintro e w1 ⟨rfl, hb⟩; have hd0 : w1.cell? ⟨w.heap.size, 0, none⟩ = some (.int .u64 m0) := pw_cell_below hb (by first | exact hk0.out | (go_simp; done) | (go_simp; rfl)); have hd1 : w1.cell? ⟨w.heap.size, 1, none⟩ = some (.int .u64 m1) := pw_cell_below hb (by first | exact hk1.out | (go_simp; done) | (go_simp; rfl)); have hd2 : w1.cell? ⟨w.heap.size, 2, none⟩ = some (.int .u64 m2) := pw_cell_below hb (by first | exact hk2.out | (go_simp; done) | (go_simp; rfl)); have n0_ := Aside0.mk (below_step (by repeat (first | (with_reducible first | exact HB.out | apply below_alloc | apply pw_below_drewN | apply below_drew1) | exact HB.out)) hb); clear HB hb; have HB := n0_; clear n0_; clear hk0 hk1 hk2 hc0 hc1 hc2; have hk0 := Aside0.mk hd0; have hk1 := Aside0.mk hd1; have hk2 := Aside0.mk hd2; have hc0 := hd0; have hc1 := hd1; have hc2 := hd2; clear hd0 hd1 hd2)
      | (go_at_call 17; (with_reducible refine (tally_Times.calls b m1 T _ AT.out).mono ?_); rintro e w3 ⟨rfl, ⟨nd2, rfl⟩⟩)
      | (go_at_call 16; (with_reducible refine (tally_Add.calls T m0 M _ AM.out).mono ?_); rintro e w4 ⟨rfl, ⟨nd3, rfl⟩⟩)
      | (go_at_call 20; (with_reducible refine (tally_Allowed.calls a 0 a 7 a _ AF.out).mono ?_); rintro e w5 ⟨rfl, hb⟩; have n0_ := Aside0.mk (below_step (by repeat (first | (with_reducible first | exact HB.out | apply below_alloc | apply pw_below_drewN | apply below_drew1) | exact HB.out)) hb); clear HB hb; have HB := n0_; clear n0_))
    go_ret
    exact ⟨rfl, (by repeat (first | (with_reducible first | exact HB.out | apply below_alloc | apply pw_below_drewN | apply below_drew1) | exact HB.out))⟩
end Go.Proofs.Ytgkgafahkbibbaa.PAll
