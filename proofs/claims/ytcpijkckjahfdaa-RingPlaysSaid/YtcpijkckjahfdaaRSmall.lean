/- The ring's small methods: New, Len, Size, Clear, Back. -/
import Derived.Test.YtcpijkckjahfdaaState
namespace Go.Proofs.Ytcpijkckjahfdaa.PAll
open Go.RowKit Go.Proofs.YtcpijkckjahfdaaW.PrintWords Go.Proofs.YtcpijkckjahfdaaW.PrintLast Go.Proofs.YtcpijkckjahfdaaW.PrintMore
attribute [local go_sem] max2_int min2_int max_two min_two max_three min_three max_four min_four   -- for this text's walks alone
set_option linter.unusedVariables false
set_option linter.unusedSimpArgs false
theorem info5' : (Try.prog.info? 5).map (fun i => (i.zero, i.size, i.bytes)) = some (some (.int .u8 0), 1, 1) := by kernel_rfl
theorem made_bytes (m : Nat) : madeCells #[Value.int .u8 0] m = bytesA (List.replicate m 0) := by
  apply Array.toList_inj.1
  simp [madeCells, bytesA, nums]
  exact List.ext_getElem (by simp) fun i h1 h2 => by simp [Nat.mod_one]
theorem drawn_rk {W W' : World} {g gb : Nat} (h : Drawn0 W W') : RK W W' g gb := RK.below h.below
section
variable {W : World} {g gb N p n : Nat} {bs : List Int}
theorem ring_len (h : Aside0 (RB W g gb N p n bs)) : Calls Try.prog 12 #[.pointer (some ⟨g, 0, none⟩)] W fun e W' => e = .returned (.int .i64 (n : Int)) ∧ Drawn0 W W' := by
  have hc := rb_c2 h
  go_enter Try.func12, Try.ntmps12
  go_wp2
  go_ret
  exact ⟨rfl, by repeat (first | exact Drawn0.refl _ | apply Drawn0.step)⟩
theorem ring_size (h : Aside0 (RB W g gb N p n bs)) : Calls Try.prog 21 #[.pointer (some ⟨g, 0, none⟩)] W fun e W' => e = .returned (.int .i64 (N : Int)) ∧ Drawn0 W W' := by
  have hc := rb_c0 h
  go_enter Try.func21, Try.ntmps21
  go_wp2
  go_ret
  exact ⟨rfl, by repeat (first | exact Drawn0.refl _ | apply Drawn0.step)⟩
theorem ring_clear (h : Aside0 (RB W g gb N p n bs)) : Calls Try.prog 20 #[.pointer (some ⟨g, 0, none⟩)] W fun e W' => e = .returned (.tuple #[]) ∧ RB W' g gb N 0 0 bs ∧ RK W W' g gb := by
  have hc1 := rb_c1 h
  have hc2 := rb_c2 h
  have hf1 := rb_f h 1
  have hf2 := rb_f h 2
  have HK : Aside0 (RK W ((W.setCell ⟨g, 1, none⟩ (.int .i64 0)).setCell ⟨g, 2, none⟩ (.int .i64 0)) g gb) := ⟨((RK.refl W g gb).set (.inl rfl) 1 _).set (.inl rfl) 2 _⟩
  have HS : Aside0 (RB ((W.setCell ⟨g, 1, none⟩ (.int .i64 0)).setCell ⟨g, 2, none⟩ (.int .i64 0)) g gb N 0 0 bs) := ⟨rb_set2 (rb_set1 h.out 0) 0⟩
  go_enter Try.func20, Try.ntmps20
  go_wp2
  go_end0
  exact ⟨rfl, HS.out, HK.out⟩
theorem ring_back_no (d : Int) (h : Aside0 (RB W g gb N p n bs)) (hd : d < 1 ∨ (n : Int) < d) : Calls Try.prog 13 #[.pointer (some ⟨g, 0, none⟩), .int .i64 d] W fun e W' => e = .returned (.tuple #[.int .u8 0, .bool false]) ∧ Drawn0 W W' := by
  have hc := rb_c2 h
  by_cases h1 : d < 1
  · have hb : decide (d < 1) = true := decide_eq_true h1
    clear hd h1
    go_enter Try.func13, Try.ntmps13
    go_wp2
    go_ret2
    exact ⟨rfl, by repeat (first | exact Drawn0.refl _ | apply Drawn0.step)⟩
  · have hb : decide (d < 1) = false := decide_eq_false h1
    have hb2 : decide ((n : Int) < d) = true := decide_eq_true (by omega)
    clear hd h1
    go_enter Try.func13, Try.ntmps13
    go_wp2
    go_ret2
    exact ⟨rfl, by repeat (first | exact Drawn0.refl _ | apply Drawn0.step)⟩
theorem ring_back (d : Nat) (h : Aside0 (RB W g gb N p n bs)) (h1 : 1 ≤ d) (hn : d ≤ n) (hnN : n ≤ N) (hp : p < N) (hN : N ≤ 32768) : Calls Try.prog 13 #[.pointer (some ⟨g, 0, none⟩), .int .i64 (d : Int)] W fun e W' => e = .returned (.tuple #[.int .u8 (bs.getD (if d ≤ p then p - d else p + N - d) 0), .bool true]) ∧ Drawn0 W W' := by
  have hc0 := rb_c0 h
  have hc1 := rb_c1 h
  have hc2 := rb_c2 h
  have hb : decide ((d : Int) < 1) = false := decide_eq_false (by omega)
  have hb2 : decide ((n : Int) < (d : Int)) = false := decide_eq_false (by omega)
  by_cases hdp : d ≤ p
  · rw [if_pos hdp]
    obtain ⟨K, hK⟩ : ∃ K, K = p - d := ⟨_, rfl⟩
    have hk : (p : Int) - (d : Int) = (K : Int) := by omega
    have hkb : decide ((K : Int) < 0) = false := decide_eq_false (by omega)
    have hk0 : (0 : Int) ≤ (K : Int) := by omega
    have hk1 : (K : Int) < (N : Int) := by omega
    have hcb := rb_cb h (i := K) (by omega)
    rw [← hK]
    generalize bs.getD K 0 = X at *
    clear hK
    go_enter Try.func13, Try.ntmps13
    go_wp2
    go_ret2
    exact ⟨rfl, by repeat (first | exact Drawn0.refl _ | apply Drawn0.step)⟩
  · rw [if_neg hdp]
    obtain ⟨K, hK⟩ : ∃ K, K = p + N - d := ⟨_, rfl⟩
    have hk : (p : Int) - (d : Int) + (N : Int) = (K : Int) := by omega
    have hkb : decide ((p : Int) - (d : Int) < 0) = true := decide_eq_true (by omega)
    have hk0 : (0 : Int) ≤ (K : Int) := by omega
    have hk1 : (K : Int) < (N : Int) := by omega
    have hcb := rb_cb h (i := K) (by omega)
    rw [← hK]
    generalize bs.getD K 0 = X at *
    clear hK
    go_enter Try.func13, Try.ntmps13
    go_wp2
    go_ret2
    exact ⟨rfl, by repeat (first | exact Drawn0.refl _ | apply Drawn0.step)⟩
end
set_option maxHeartbeats 8000000 in
theorem ring_new (W : World) (N : Nat) (h1 : 1 ≤ N) (hN : N ≤ 32768) : Calls Try.prog 8 #[.int .i64 (N : Int)] W fun e W' => e = .returned (.tuple #[.pointer (some ⟨W.heap.size + 1, 0, none⟩), .int .i64 0]) ∧ RB W' (W.heap.size + 1) W.heap.size N 0 0 (List.replicate N 0) ∧ Below W.heap.size W W' := by
  have hb1 : decide ((N : Int) < 1) = false := decide_eq_false (by omega)
  have hb2 : decide ((32768 : Int) < (N : Int)) = false := decide_eq_false (by omega)
  have hmk := print_make_of (P := Try.prog) 22 5 (.int .u8 0) 1 Try.underlying22 info5' rfl (by decide) N (by omega)
  have HB := Aside0.mk (((Below.refl W.heap.size W).alloc (Nat.le_refl _) (.cells (madeCells #[.int .u8 0] N) 5)).alloc (by simp) (.cells #[.slice (some ⟨W.heap.size, 0, none⟩) N N, .int .i64 0, .int .i64 0] 52))
  have HS : Aside0 (RB ((W.alloc (.cells (madeCells #[.int .u8 0] N) 5)).alloc (.cells #[.slice (some ⟨W.heap.size, 0, none⟩) N N, .int .i64 0, .int .i64 0] 52)) (W.heap.size + 1) W.heap.size N 0 0 (List.replicate N 0)) := by
    refine ⟨?_, ?_, List.length_replicate, by omega⟩
    · have := heap_alloc_new (W.alloc (.cells (madeCells #[.int .u8 0] N) 5)) (.cells #[.slice (some ⟨W.heap.size, 0, none⟩) N N, .int .i64 0, .int .i64 0] 52)
      have e : (W.alloc (.cells (madeCells #[.int .u8 0] N) 5)).heap.size = W.heap.size + 1 := by simp
      rw [e] at this
      exact this
    · rw [made_bytes]
      exact (Own.below_blk (heap_alloc_new W _) (below_alloc (Below.refl _ _) _))
  clear h1
  go_enter Try.func8, Try.ntmps8
  go_wp2
  go_ret2
  exact ⟨by first | rfl | simp, HS.out, HB.out⟩
theorem ring_new_no (W : World) (N : Int) (h : N < 1 ∨ 32768 < N) : Calls Try.prog 8 #[.int .i64 N] W fun e W' => e = .returned (.tuple #[.pointer none, .int .i64 2]) ∧ Drawn0 W W' := by
  by_cases h1 : N < 1
  · have hb1 : decide (N < 1) = true := decide_eq_true h1
    clear h h1
    go_enter Try.func8, Try.ntmps8
    go_wp2
    go_ret2
    exact ⟨rfl, by repeat (first | exact Drawn0.refl _ | apply Drawn0.step)⟩
  · have hb1 : decide (N < 1) = false := decide_eq_false h1
    have hb2 : decide (32768 < N) = true := decide_eq_true (by omega)
    clear h h1
    go_enter Try.func8, Try.ntmps8
    go_wp2
    go_ret2
    exact ⟨rfl, by repeat (first | exact Drawn0.refl _ | apply Drawn0.step)⟩
end Go.Proofs.Ytcpijkckjahfdaa.PAll
