/- The document's window: New and Back. -/
import Derived.Test.YtcpijkckjahfdaaRQ
namespace Go.Proofs.Ytcpijkckjahfdaa.PAll
open Go.RowKit Go.Proofs.YtcpijkckjahfdaaW.PrintWords Go.Proofs.YtcpijkckjahfdaaW.PrintLast Go.Proofs.YtcpijkckjahfdaaW.PrintMore
attribute [local go_sem] max2_int min2_int max_two min_two max_three min_three max_four min_four   -- for this text's walks alone
set_option linter.unusedVariables false
set_option linter.unusedSimpArgs false
set_option maxHeartbeats 8000000 in
set_option maxRecDepth 100000 in
theorem rq_new (w W : World) (N : Nat) (ok : Nat → Prop) (hB : Below w.heap.size w W) (h1 : 1 ≤ N) (hN : N ≤ 32768) : Calls Try.prog 15 #[.int .i64 (N : Int)] W fun e W' => e = .returned (.tuple #[.pointer (some ⟨W.heap.size, 0, none⟩), .int .i64 0]) ∧ RQ w W' W.heap.size N ok [] ∧ Below W.heap.size W W' := by
  have hb1 : decide ((N : Int) < 1) = false := decide_eq_false (by omega)
  have hb2 : decide ((32768 : Int) < (N : Int)) = false := decide_eq_false (by omega)
  have HB := Aside0.mk ((Below.refl W.heap.size W).alloc (Nat.le_refl _) (.cells #[.int .i64 (N : Int), .slice none 0 0] 48))
  have HS : Aside0 (RQ w (W.alloc (.cells #[.int .i64 (N : Int), .slice none 0 0] 48)) W.heap.size N ok []) := ⟨⟨_, heap_alloc_new W _, hB.size, Kd.Q_nil _ _ _ _ _, below_step hB HB.out⟩⟩
  clear h1 hB
  go_enter Try.func15, Try.ntmps15
  go_wp2
  go_ret2
  exact ⟨by first | rfl | simp, HS.out, HB.out⟩
set_option maxHeartbeats 8000000 in
theorem rq_new_no (W : World) (N : Int) (h : N < 1 ∨ 32768 < N) : Calls Try.prog 15 #[.int .i64 N] W fun e W' => e = .returned (.tuple #[.pointer none, .int .i64 2]) ∧ Drawn0 W W' := by
  by_cases h1 : N < 1
  · have hb1 : decide (N < 1) = true := decide_eq_true h1
    clear h h1
    go_enter Try.func15, Try.ntmps15
    go_wp2
    go_ret2
    exact ⟨rfl, by repeat (first | exact Drawn0.refl _ | apply Drawn0.step)⟩
  · have hb1 : decide (N < 1) = false := decide_eq_false h1
    have hb2 : decide (32768 < N) = true := decide_eq_true (by omega)
    clear h h1
    go_enter Try.func15, Try.ntmps15
    go_wp2
    go_ret2
    exact ⟨rfl, by repeat (first | exact Drawn0.refl _ | apply Drawn0.step)⟩
section
variable {w W : World} {gq N : Nat} {ok : Nat → Prop} {q : List Int}
set_option maxHeartbeats 8000000 in
theorem rq_back_no (d : Int) (h : Aside0 (RQ w W gq N ok q)) (hd : d < 1 ∨ (q.length : Int) < d) : Calls Try.prog 17 #[.pointer (some ⟨gq, 0, none⟩), .int .i64 d] W fun e W' => e = .returned (.tuple #[.int .u8 0, .bool false]) ∧ Drawn0 W W' := by
  obtain ⟨A, c, hc0, hc1, hcl, hC, hf⟩ := rq_cells h.out
  clear hC hf hcl hc0
  by_cases h1 : d < 1
  · have hb : decide (d < 1) = true := decide_eq_true h1
    clear hd h1
    go_enter Try.func17, Try.ntmps17
    go_wp2
    go_ret2
    exact ⟨rfl, by repeat (first | exact Drawn0.refl _ | apply Drawn0.step)⟩
  · have hb : decide (d < 1) = false := decide_eq_false h1
    have hb2 : decide ((q.length : Int) < d) = true := decide_eq_true (by omega)
    clear hd h1
    go_enter Try.func17, Try.ntmps17
    go_wp2
    go_ret2
    exact ⟨rfl, by repeat (first | exact Drawn0.refl _ | apply Drawn0.step)⟩
set_option maxHeartbeats 8000000 in
theorem rq_back (d : Nat) (h : Aside0 (RQ w W gq N ok q)) (h1 : 1 ≤ d) (hd : d ≤ q.length) (hqN : q.length ≤ 32768) : Calls Try.prog 17 #[.pointer (some ⟨gq, 0, none⟩), .int .i64 (d : Int)] W fun e W' => e = .returned (.tuple #[.int .u8 (q.getD (q.length - d) 0), .bool true]) ∧ Drawn0 W W' := by
  obtain ⟨A, c, hc0, hc1, hcl, hC, hf⟩ := rq_cells h.out
  clear hf hcl hc0
  have hb : decide ((d : Int) < 1) = false := decide_eq_false (by omega)
  have hb0 : decide (d < 1) = false := decide_eq_false (by omega)
  have hb2 : decide ((q.length : Int) < (d : Int)) = false := decide_eq_false (by omega)
  have hb3 : decide (q.length < d) = false := decide_eq_false (by omega)
  obtain ⟨K, hK⟩ : ∃ K, K = q.length - d := ⟨_, rfl⟩
  have hk : (q.length : Int) - (d : Int) = (K : Int) := by omega
  have hwk : wrap64 (K : Int) = (K : Int) := by simp [wrap64, IntKind.wrap, IntKind.bits, IntKind.signed]; omega
  have hk0 : (0 : Int) ≤ (K : Int) := by omega
  have hk1 : (K : Int) < (q.length : Int) := by omega
  obtain ⟨ad, rfl, hcb⟩ := Kd.at_int hC (K : Int) hk0 hk1
  rw [Int.toNat_natCast, show rd q (K : Int) = q.getD K 0 by simp [rd, rdOf]] at hcb
  rw [← hK]
  generalize q.getD K 0 = X at *
  clear hK hC h hqN h1 hd
  go_enter Try.func17, Try.ntmps17
  go_upto_region 3 with (fail)
  have HD : Aside0 (Drawn0 W W.drew) := ⟨Drawn0.step (Drawn0.refl W) 1⟩
  replace hc1 : W.drew.cell? ⟨gq, 1, none⟩ = some (.slice (some ad) q.length c) := hc1
  replace hcb : W.drew.cell? (ad.add K) = some (.int .u8 X) := hcb
  refine start_ (n := 15) (S := fun w' => w'.cell? ⟨gq, 1, none⟩ = some (.slice (some ad) q.length c) ∧ w'.cell? (ad.add K) = some (.int .u8 X)) (ds := []) #[false, false, false, false, false, false, false, false, false, false, false, false, false, false, false] (by kernel_rfl) rfl rfl ⟨hc1, hcb⟩ (fun hHeld => ?_)
  generalize W.drew = W2 at HD hc1 hcb hHeld ⊢
  refine pure_ (i := 0) (N := some 17) (v := ?_) (a' := ?_) #[true, false, false, false, false, false, false, false, false, false, false, false, false, false, false] rfl rfl (by kernel_rfl) (fun _ _ _ h => h) (Or.inl ⟨by rfl, ?_⟩) ?_ ?_
  rotate_left
  · intro w'
    go_simp
    with_reducible rfl
  rotate_left
  · simp only [Act.put, List.setIfInBounds_toArray, List.set_cons_zero, List.set_cons_succ, i64_w, i32_w]
    rfl
  refine pure_ (i := 1) (N := some 18) (v := ?_) (a' := ?_) #[true, true, false, false, false, false, false, false, false, false, false, false, false, false, false] rfl rfl (by kernel_rfl) (fun _ _ _ h => h) (Or.inl ⟨by rfl, ?_⟩) ?_ ?_
  rotate_left
  · intro w'
    go_simp
    with_reducible rfl
  rotate_left
  · simp only [Act.put, List.setIfInBounds_toArray, List.set_cons_zero, List.set_cons_succ, i64_w, i32_w]
    rfl
  refine pure_ (i := 2) (N := some 19) (v := ?_) (a' := ?_) #[true, true, true, false, false, false, false, false, false, false, false, false, false, false, false] rfl rfl (by kernel_rfl) (fun _ _ _ h => h) (Or.inl ⟨by rfl, ?_⟩) ?_ ?_
  rotate_left
  · intro w'
    go_simp
    with_reducible rfl
  rotate_left
  · simp only [Act.put, List.setIfInBounds_toArray, List.set_cons_zero, List.set_cons_succ, i64_w, i32_w]
    rfl
  refine pure_ (i := 4) (N := some 21) (v := ?_) (a' := ?_) #[true, true, true, false, true, false, false, false, false, false, false, false, false, false, false] rfl rfl (by kernel_rfl) (fun _ _ _ h => h) (Or.inl ⟨by rfl, ?_⟩) ?_ ?_
  rotate_left
  · intro w'
    go_simp
    with_reducible rfl
  rotate_left
  · simp only [Act.put, List.setIfInBounds_toArray, List.set_cons_zero, List.set_cons_succ, i64_w, i32_w]
    rfl
  refine pure_ (i := 5) (N := some 22) (v := ?_) (a' := ?_) #[true, true, true, false, true, true, false, false, false, false, false, false, false, false, false] rfl rfl (by kernel_rfl) (fun _ _ _ h => h) (Or.inl ⟨by rfl, ?_⟩) ?_ ?_
  rotate_left
  · intro w'
    go_simp
    with_reducible rfl
  rotate_left
  · simp only [Act.put, List.setIfInBounds_toArray, List.set_cons_zero, List.set_cons_succ, i64_w, i32_w]
    rfl
  refine pure_ (i := 6) (N := some 23) (v := ?_) (a' := ?_) #[true, true, true, false, true, true, true, false, false, false, false, false, false, false, false] rfl rfl (by kernel_rfl) (fun _ _ _ h => h) (Or.inl ⟨by rfl, ?_⟩) ?_ ?_
  rotate_left
  · intro w'
    go_simp
    with_reducible rfl
  rotate_left
  · simp only [Act.put, List.setIfInBounds_toArray, List.set_cons_zero, List.set_cons_succ, i64_w, i32_w]
    rfl
  refine pure_ (i := 9) (N := some 26) (v := ?_) (a' := ?_) #[true, true, true, false, true, true, true, false, false, true, false, false, false, false, false] rfl rfl (by kernel_rfl) (fun _ _ _ h => h) (Or.inl ⟨by rfl, ?_⟩) ?_ ?_
  rotate_left
  · intro w'
    go_simp
    with_reducible rfl
  rotate_left
  · simp only [Act.put, List.setIfInBounds_toArray, List.set_cons_zero, List.set_cons_succ, i64_w, i32_w]
    rfl
  refine take_ (i := 3) (N := some 20) (v := ?_) (a' := ?_) #[true, true, true, true, true, true, true, false, false, true, false, false, false, false, false] rfl rfl (by kernel_rfl) (fun _ _ _ h => h) (Or.inl ⟨by rfl, ?_⟩) hHeld ?_ ?_
  rotate_left
  · rintro w' ⟨s0, s1⟩
    go_simp
    with_reducible rfl
  rotate_left
  · simp only [Act.put, List.setIfInBounds_toArray, List.set_cons_zero, List.set_cons_succ, i64_w, i32_w]
    rfl
  refine take_ (i := 7) (N := some 24) (v := ?_) (a' := ?_) #[true, true, true, true, true, true, true, true, false, true, false, false, false, false, false] rfl rfl (by kernel_rfl) (fun _ _ _ h => h) (Or.inl ⟨by rfl, ?_⟩) hHeld ?_ ?_
  rotate_left
  · rintro w' ⟨s0, s1⟩
    go_simp
    with_reducible rfl
  rotate_left
  · simp only [Act.put, List.setIfInBounds_toArray, List.set_cons_zero, List.set_cons_succ, i64_w, i32_w]
    rfl
  refine pure_ (i := 8) (N := some 25) (v := ?_) (a' := ?_) #[true, true, true, true, true, true, true, true, true, true, false, false, false, false, false] rfl rfl (by kernel_rfl) (fun _ _ _ h => h) (Or.inl ⟨by rfl, ?_⟩) ?_ ?_
  rotate_left
  · intro w'
    go_simp
    with_reducible rfl
  rotate_left
  · simp only [Act.put, List.setIfInBounds_toArray, List.set_cons_zero, List.set_cons_succ, i64_w, i32_w]
    rfl
  refine pure_ (i := 10) (N := some 27) (v := ?_) (a' := ?_) #[true, true, true, true, true, true, true, true, true, true, true, false, false, false, false] rfl rfl (by kernel_rfl) (fun _ _ _ h => h) (Or.inl ⟨by rfl, ?_⟩) ?_ ?_
  rotate_left
  · intro w'
    go_simp
    with_reducible rfl
  rotate_left
  · simp only [Act.put, List.setIfInBounds_toArray, List.set_cons_zero, List.set_cons_succ, i64_w, i32_w]
    rfl
  refine pure_ (i := 11) (N := some 28) (v := ?_) (a' := ?_) #[true, true, true, true, true, true, true, true, true, true, true, true, false, false, false] rfl rfl (by kernel_rfl) (fun _ _ _ h => h) (Or.inl ⟨by rfl, ?_⟩) ?_ ?_
  rotate_left
  · intro w'
    go_simp
    with_reducible rfl
  rotate_left
  · simp only [Act.put, List.setIfInBounds_toArray, List.set_cons_zero, List.set_cons_succ, i64_w, i32_w]
    rfl
  refine take_ (i := 12) (N := some 29) (v := ?_) (a' := ?_) #[true, true, true, true, true, true, true, true, true, true, true, true, true, false, false] rfl rfl (by kernel_rfl) (fun _ _ _ h => h) (Or.inl ⟨by rfl, ?_⟩) hHeld ?_ ?_
  rotate_left
  · rintro w' ⟨s0, s1⟩
    go_simp
    with_reducible rfl
  rotate_left
  · simp only [Act.put, List.setIfInBounds_toArray, List.set_cons_zero, List.set_cons_succ, i64_w, i32_w]
    rfl
  refine pure_ (i := 13) (N := some 4) (v := ?_) (a' := ?_) #[true, true, true, true, true, true, true, true, true, true, true, true, true, true, false] rfl rfl (by kernel_rfl) (fun _ _ _ h => h) (Or.inl ⟨by rfl, ?_⟩) ?_ ?_
  rotate_left
  · intro w'
    go_simp
    with_reducible rfl
  rotate_left
  · simp only [Act.put, List.setIfInBounds_toArray, List.set_cons_zero, List.set_cons_succ, i64_w, i32_w]
    rfl
  refine pure_ (i := 14) (N := some 5) (v := ?_) (a' := ?_) #[true, true, true, true, true, true, true, true, true, true, true, true, true, true, true] rfl rfl (by kernel_rfl) (fun _ _ _ h => h) (Or.inl ⟨by rfl, ?_⟩) ?_ ?_
  rotate_left
  · intro w'
    go_simp
    with_reducible rfl
  rotate_left
  · simp only [Act.put, List.setIfInBounds_toArray, List.set_cons_zero, List.set_cons_succ, i64_w, i32_w]
    rfl
  refine done_ (by kernel_rfl) ?_
  go_wp2
  go_ret2
  exact ⟨rfl, HD.out⟩
end
end Go.Proofs.Ytcpijkckjahfdaa.PAll
