/- awake: the one table that every right program makes. -/
import Derived.Test.YteamaaiicjjidaaUse
namespace Go.Proofs.Yteamaaiicjjidaa.PAll
open Go.RowKit Go.Proofs.Yteamaaiicjjidaa.Huf Go.Proofs.YteamaaiicjjidaaW.PrintWords Go.Proofs.YteamaaiicjjidaaW.PrintLast Go.Proofs.YteamaaiicjjidaaW.PrintMore
attribute [local go_sem] max2_int min2_int max_two min_two max_three min_three max_four min_four   -- for this text's walks alone
set_option linter.unusedVariables false
set_option linter.unusedSimpArgs false
theorem lit_C (W : World) (xs : List Int) (h : xs.length ≤ 9223372036854775807) : Kd.C (Kd.int .i64) (W.alloc (.cells (nums .i64 xs).toArray 3)) (some ⟨W.heap.size, 0, none⟩) xs.length xs := by
  have HO := own_lit W 0 3 .i64 xs (Nat.zero_le _) h
  obtain ⟨A', c', e, hrd⟩ := own_reads_of (enc := Value.int .i64) (d := (0 : Int)) HO
  cases e
  exact Kd.C_of_reads (enc := Value.int .i64) (d := (0 : Int)) (h1 := fun _ => rfl) hrd
theorem er_awake : er [2, 1, 3, 3] = 0 := er_0 ⟨by unfold Ok; decide, by decide⟩ (by decide) (.inl (by decide))
set_option maxHeartbeats 8000000 in
set_option maxRecDepth 100000 in
theorem awake_calls (W : World) : Calls Try.prog 13 #[] W fun e W' => e = .returned (.bool true) ∧ Below W.heap.size W W' := by
  have HN := Aside0.mk (new_calls (some ⟨W.heap.size, 0, none⟩) 4 [2, 1, 3, 3] _ (lit_C W [2, 1, 3, 3] (by decide)) (by decide))
  have HB0 := Aside0.mk (below_alloc (Below.refl W.heap.size W) (.cells (nums .i64 [2, 1, 3, 3]).toArray 3))
  go_enter Try.func13, Try.ntmps13
  go_wp2_with (first
    | (go_at_call 10; (refine (HN.out).mono ?_); rintro e w1 hp; rcases hp with ⟨hne, _⟩ | ⟨_, g, cb, mb, rfl, ht, hb, hg1, hg2, hg3⟩; exact absurd er_awake hne; have HT := Aside0.mk ht; have HB := Aside0.mk (below_step HB0.out hb); clear ht hb HN HB0)
    | (go_at_call 14; (refine (code_at (cb := cb) (mb := mb) (l := [2, 1, 3, 3]) 2 HT (by decide) (by decide)).mono ?_); rintro e w2 ⟨rfl, hd⟩; have HT2 := Aside0.mk (ht_below HT.out hd.below); have HB2 := Aside0.mk (below_step HB.out hd.below); clear hd HT HB)
    | (go_at_call 12; (refine (symbols_calls (cb := cb) (mb := mb) (l := [2, 1, 3, 3]) HT2).mono ?_); rintro e w3 ⟨rfl, hd⟩; have HB3 := Aside0.mk (below_step HB2.out hd.below); clear hd HT2 HB2))
  go_ret
  exact ⟨rfl, HB3.out⟩
end Go.Proofs.Yteamaaiicjjidaa.PAll
