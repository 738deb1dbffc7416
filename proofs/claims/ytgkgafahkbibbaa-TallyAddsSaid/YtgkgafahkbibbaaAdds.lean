/- TallyAdds: the walk by hand (an array among the parameters) and its plain law. -/
import Derived.Test.YtgkgafahkbibbaaPureTallyAllows
import Derived.Outline
namespace Go.Proofs.Ytgkgafahkbibbaa.PAll
open Go.RowKit Go.Proofs.YtgkgafahkbibbaaW.PrintWords Go.Proofs.YtgkgafahkbibbaaW.PrintLast Go.Proofs.YtgkgafahkbibbaaW.PrintMore Go.Proofs.Ytgkgafahkbibbaa.Sat
set_option linter.unusedVariables false
theorem ref_add_f (a b : Int) (ha : Rg a) (hb : Rg b) : winkleref01_Add.f a b = some (satN (a + b)) := by
  unfold winkleref01_Add.f satN
  simp only [wu64]
  have := ha.1; have := ha.2; have := hb.1; have := hb.2
  by_cases h : a + b ≤ 18446744073709551615
  · rw [if_neg (by omega), if_pos h]; congr 1; omega
  · rw [if_pos (by omega), if_neg h]
theorem ref_times_f (a b : Int) (ha : Rg a) (hb : Rg b) : winkleref01_Times.f a b = some (satN (a * b)) := by
  unfold winkleref01_Times.f
  simp only [wu64]
  have ha0 := ha.1; have := ha.2; have hb0 := hb.1; have hb1 := hb.2
  by_cases h0 : b = 0
  · subst h0; rw [if_pos rfl]; simp [satN]
  · rw [if_neg h0]
    have hp : 0 ≤ a * b := Int.mul_nonneg ha.1 hb.1
    rw [Int.tdiv_eq_ediv_of_nonneg (by omega)]
    have hq : 0 ≤ 18446744073709551615 / b := Int.ediv_nonneg (by omega) hb0
    have hq1 : 18446744073709551615 / b ≤ 18446744073709551615 := Int.ediv_le_self _ (by omega)
    rw [Int.emod_eq_of_lt hq (by omega)]
    have hd : a ≤ 18446744073709551615 / b ↔ a * b ≤ 18446744073709551615 := Int.le_ediv_iff_mul_le (by omega)
    unfold satN
    by_cases h : a * b ≤ 18446744073709551615
    · have := hd.2 h
      rw [if_neg (by omega), if_pos h, Int.emod_eq_of_lt hp (by omega)]
    · have : ¬ a ≤ 18446744073709551615 / b := fun x => h (hd.1 x)
      rw [if_pos (by omega), if_neg h]
theorem ref_allowed_f (t r s n : Int) (hr : Rg r) (hs : Rg s) (hn : Rg n) : winkleref01_Allowed.f t r s n = some (mn t (satN (satN (r * n) + s))) := by
  unfold winkleref01_Allowed.f
  rw [ref_times_f r n hr hn, Option.bind_some, ref_add_f _ s (satN_range (Int.mul_nonneg hr.1 hn.1)) hs, Option.bind_some]
  generalize satN (satN (r * n) + s) = y
  unfold mn
  by_cases h : y < t
  · rw [if_pos h]; congr 1; split <;> omega
  · rw [if_neg h]; congr 1; split <;> omega
def AddsS (w W : World) (m0 m1 : Int) : Prop := Below w.heap.size (w.alloc (.cells #[.int .u64 m0, .int .u64 m1] 36)) W ∧ W.cell? ⟨w.heap.size, 0, none⟩ = some (.int .u64 m0)
set_option maxHeartbeats 8000000 in
set_option maxRecDepth 100000 in
theorem adds_calls (a b m0 m1 X Y Z : Int) (w : World) (hX : tally_Add.f a b = some X) (hX2 : winkleref01_Add.f a b = some X) (hY : tally_Times.f a b = some Y) (hY2 : winkleref01_Times.f a b = some Y)
    (hZ : tally_Allowed.f a b m0 m1 = some Z) (hZ2 : winkleref01_Allowed.f a b m0 m1 = some Z) (h5 : tally_Add.f 2 3 = some 5) :
    Calls Try.prog 7 #[.int .u64 a, .int .u64 b, .agg #[.int .u64 m0, .int .u64 m1]] w fun e w' => e = .returned (.bool true) ∧ Below w.heap.size w w' := by
  have AX := Aside0.mk hX
  have AX2 := Aside0.mk hX2
  have AY := Aside0.mk hY
  have AY2 := Aside0.mk hY2
  have AZ := Aside0.mk hZ
  have AZ2 := Aside0.mk hZ2
  have A5 := Aside0.mk h5
  clear hX hX2 hY hY2 hZ hZ2 h5
  have HB := Aside0.mk (below_alloc (Below.refl w.heap.size w) (.cells #[.int .u64 m0, .int .u64 m1] 36))
  go_enter Try.func7, Try.ntmps7
  go_wp2
  have hc0 : (w.alloc (.cells #[.int .u64 m0, .int .u64 m1] 36)).cell? ⟨w.heap.size, 0, none⟩ = some (.int .u64 m0) := by first | (go_simp; done) | (go_simp; rfl)
  have hc1 : (w.alloc (.cells #[.int .u64 m0, .int .u64 m1] 36)).cell? ⟨w.heap.size, 1, none⟩ = some (.int .u64 m1) := by first | (go_simp; done) | (go_simp; rfl)
  generalize w.alloc (.cells #[.int .u64 m0, .int .u64 m1] 36) = W1 at HB hc0 hc1 ⊢
  have HC := Aside0.mk (And.intro hc0 hc1)
  go_region_held3 (fun W' => W'.cell? ⟨w.heap.size, 0, none⟩ = some (.int .u64 m0) ∧ W'.cell? ⟨w.heap.size, 1, none⟩ = some (.int .u64 m1)) (first | exact HC.out)
    (first
      | (go_at_call 16; (with_reducible refine (tally_Add.calls a b X _ AX.out).mono ?_); rintro e w2 ⟨rfl, ⟨nd1, rfl⟩⟩)
      | (go_at_call 18; (with_reducible refine (winkleref01_Add.calls a b X _ AX2.out).mono ?_); rintro e w2 ⟨rfl, ⟨nd1, rfl⟩⟩)
      | (go_at_call 17; (with_reducible refine (tally_Times.calls a b Y _ AY.out).mono ?_); rintro e w2 ⟨rfl, ⟨nd1, rfl⟩⟩)
      | (go_at_call 19; (with_reducible refine (winkleref01_Times.calls a b Y _ AY2.out).mono ?_); rintro e w2 ⟨rfl, ⟨nd1, rfl⟩⟩)
      | (go_at_call 20; (with_reducible refine (tally_Allowed.calls a b m0 m1 Z _ AZ.out).mono ?_); rintro e w2 ⟨rfl, hb⟩; have HC2 := Aside0.mk (And.intro (pw_cell_below hb HC.out.1) (pw_cell_below hb HC.out.2)); have n0_ := Aside0.mk (below_step (by repeat (first | (with_reducible first | exact HB.out | apply below_alloc | apply pw_below_drewN | apply below_drew1) | exact HB.out)) hb); clear HB hb HC; have HB := n0_; have HC := HC2; clear n0_ HC2)
      | (go_at_call 21; (with_reducible refine (winkleref01_Allowed.calls a b m0 m1 Z _ AZ2.out).mono ?_); rintro e w2 ⟨rfl, ⟨nd1, rfl⟩⟩)
      | (go_at_call 16; (with_reducible refine (tally_Add.calls 2 3 5 _ A5.out).mono ?_); rintro e w2 ⟨rfl, ⟨nd1, rfl⟩⟩))
  go_wp2
  go_ret
  exact ⟨rfl, (by repeat (first | (with_reducible first | exact HB.out | apply below_alloc | apply pw_below_drewN | apply below_drew1) | exact HB.out))⟩
theorem adds_walk (a b : Int) (xs : List Int) (w : World) (wa : (Lit.int .u64 a).wf = true) (wb : (Lit.int .u64 b).wf = true) (hl : xs.length = 2) (hw : ∀ x ∈ xs, (Lit.int .u64 x).wf = true) :
    Calls Try.prog 7 #[.int .u64 a, .int .u64 b, .agg (xs.map (Value.int .u64)).toArray] w fun e w' => e = .returned (.bool true) ∧ Below w.heap.size w w' := by
  match xs, hl, hw with
  | [m0, m1], _, hw =>
    have ha := u64_of wa
    have hb := u64_of wb
    have h0 : Rg m0 := u64_of (hw m0 (by simp))
    have h1 : Rg m1 := u64_of (hw m1 (by simp))
    exact adds_calls a b m0 m1 _ _ _ w (add_f a b ha hb) (ref_add_f a b ha hb) (times_f a b ha hb) (ref_times_f a b ha hb) (allowed_f a b m0 m1 hb h0 h1) (ref_allowed_f a b m0 m1 hb h0 h1) (by rw [add_f 2 3 ⟨by omega, by omega⟩ ⟨by omega, by omega⟩]; rfl)
end Go.Proofs.Ytgkgafahkbibbaa.PAll
