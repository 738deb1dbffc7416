/- crc.Join: the closure that squares the step, and the loop: two sums joined are the first one, moved eight times a byte of the second one, and the second one. -/
import Derived.Test.YtlinaloemppniaaDoorBv
import Derived.OneCell
namespace Go.Proofs.YtlinaloemppniaaDoor.PAll
open Go.RowKit Go.Proofs.YtlinaloemppniaaDoor.Crc Go.Proofs.YtlinaloemppniaaDoor.CrcMath Go.Proofs.YtlinaloemppniaaDoorW.PrintWords Go.Proofs.YtlinaloemppniaaDoorW.PrintLast Go.Proofs.YtlinaloemppniaaDoorW.PrintMore
attribute [local go_sem] max2_int min2_int max_two min_two max_three min_three max_four min_four   -- for this text's walks alone
set_option linter.unusedVariables false
set_option linter.unusedSimpArgs false
/-- the step's own cell. -/
def SC (W : World) (g : Nat) (s : B) : Prop := W.heap[g]? = some (.cells #[.int .u32 (I s)] 23 (0, 0))
theorem sc_drawn {W W' : World} {g : Nat} {s : B} (h : Aside0 (SC W g s)) (hd : Drawn0 W W') : SC W' g s ∧ (∀ w0 : World, Below w0.heap.size w0 W → Below w0.heap.size w0 W') := by
  obtain ⟨n, rfl⟩ := hd
  exact ⟨h.out, fun w0 hb => pw_below_drewN hb n⟩
theorem sc_set {W : World} {g : Nat} {s s' : B} (h : SC W g s) : SC (W.setCell ⟨g, 0, none⟩ (.int .u32 (I s'))) g s' := blk_put h 0 _ rfl
theorem clos_calls (g : Nat) (s : B) (W : World) (h : Aside0 (SC W g s)) : Calls Tryd.prog 14 #[.pointer (some ⟨g, 0, none⟩)] W fun e W' => e = .returned (.tuple #[]) ∧ SC W' g (prodL 32 s s 0#32) ∧ (∀ w0 : World, Below w0.heap.size w0 W → w0.heap.size ≤ g → Below w0.heap.size w0 W') := by
  have hc : W.cell? ⟨g, 0, none⟩ = some (.int .u32 (I s)) := (blk_cell h.out 0).trans rfl
  go_enter Tryd.func14, Tryd.ntmps14
  go_wp2_with (go_at_call 15; (with_reducible refine (product_calls s s _).mono ?_); rintro e w1 ⟨rfl, hd⟩; obtain ⟨hs, hk⟩ := sc_drawn h hd; have HS := Aside0.mk hs; have HK := Aside0.mk hk; have hc1 : w1.cell? ⟨g, 0, none⟩ = some (.int .u32 (I s)) := (blk_cell hs 0).trans rfl; have hf1 := blk_frozen hs 0; clear hd hs hk)
  go_end0
  exact ⟨rfl, sc_set HS.out, fun w0 hb hg => (HK.out w0 hb).setCell hg _⟩
theorem join_odd (m n : Nat) (a : B) (h : n % 2 = 1) : mvn ((m + m) * (n / 2)) (mvn m a) = mvn (m * n) a := by
  rw [← mvn_add]
  congr 1
  have : n = 2 * (n / 2) + 1 := by omega
  conv => rhs; rw [this]
  rw [Nat.mul_add, Nat.mul_one, ← Nat.mul_assoc, Nat.mul_comm m 2, Nat.two_mul, Nat.add_comm]
theorem join_even (m n : Nat) (a : B) (h : n % 2 = 0) : mvn ((m + m) * (n / 2)) a = mvn (m * n) a := by
  congr 1
  have : n = 2 * (n / 2) := by omega
  conv => rhs; rw [this]
  rw [← Nat.mul_assoc, Nat.mul_comm m 2, Nat.two_mul]
theorem and1i (n : Nat) (h : n < 9223372036854775808) : Go.bits .and .i64 (n : Int) 1 = ((n % 2 : Nat) : Int) := by
  have e63 : (2 : Int) ^ 63 = 9223372036854775808 := by decide
  have hw : ∀ x : Int, 0 ≤ x → x < 2 ^ 63 → IntKind.i64.wrap x = x := fun x h0 h1 => by simp [IntKind.wrap, IntKind.bits, IntKind.signed]; omega
  have h2 := bits_mask .i64 63 (by decide) hw 1 (by omega) (n : Int) (by omega) (by omega)
  have e : (2 : Int) ^ 1 - 1 = 1 := by decide
  rw [e] at h2
  rw [h2]; omega
theorem jn_keep {w W W' : World} (h : Aside0 (Below w.heap.size w W)) (hk : ∀ w0 : World, Below w0.heap.size w0 W → w0.heap.size ≤ w.heap.size → Below w0.heap.size w0 W') : Below w.heap.size w W' := hk w h.out (Nat.le_refl _)
theorem jn_drawn {w W W' : World} (h : Aside0 (Below w.heap.size w W)) (hd : Drawn0 W W') : Below w.heap.size w W' := by obtain ⟨n, rfl⟩ := hd; exact pw_below_drewN h.out n
theorem jn_sq {W : World} {g m : Nat} (h : Aside0 (prodL 32 (mvn m e) (mvn m e) 0#32 = mvn (m + m) e)) (hs : SC W g (prodL 32 (mvn m e) (mvn m e) 0#32)) : SC W g (mvn (m + m) e) := by rw [← h.out]; exact hs
/-- what Join answers. -/
def joinB (a b : B) (n : Int) : B := mvn (8 * n.toNat) a ^^^ b
set_option maxHeartbeats 8000000 in
set_option maxRecDepth 100000 in
theorem join_calls (a b : B) (n : Int) (hn : n ≤ 9223372036854775807) (w : World) : Calls Tryd.prog 12 #[.int .u32 (I a), .int .u32 (I b), .int .i64 n] w fun e w' => e = .returned (.int .u32 (I (joinB a b n))) ∧ Below w.heap.size w w' := by
  have HS0 : Aside0 (SC (w.alloc (.cells #[.int .u32 8388608] 23)) w.heap.size (mvn 8 e)) := ⟨by unfold SC; rw [← step_start]; simpa [I] using heap_alloc_new w _⟩
  have HB := Aside0.mk (below_alloc (Below.refl w.heap.size w) (.cells #[.int .u32 8388608] 23))
  obtain ⟨N, hN, hNl⟩ : ∃ N : Nat, N = n.toNat ∧ N < 9223372036854775808 := ⟨_, rfl, by omega⟩
  have hmx : (if n < 0 then (0 : Int) else n) = (N : Int) := by split <;> omega
  have HN := Aside0.mk hN
  clear hN
  go_enter Tryd.func12, Tryd.ntmps12
  go_wp2
  go_loopg [0, 2] (N + 1) (fun kq v0 v2 w' => ∃ (x : B) (k m : Nat), v0 = .int .u32 (I x) ∧ v2 = .int .i64 (k : Int) ∧ k + 1 ≤ kq ∧ kq ≤ N + 1 ∧ Aside0 (mvn (m * k) x = mvn (8 * N) a) ∧ Aside0 (SC w' w.heap.size (mvn m e)) ∧ Aside0 (Below w.heap.size w w'))
  case atStart => exact ⟨a, N, 8, rfl, rfl, by omega, by omega, ⟨rfl⟩, HS0, HB⟩
  case round =>
    clear HS0 HB hmx
    obtain ⟨x, k, m, rfl, rfl, hk, hkN, HE, HS, HB⟩ := hrel
    cases gk with
    | zero => exact absurd hk (by omega)
    | succ k1 =>
    by_cases hp : 0 < k
    · have hb : decide ((0 : Int) < (k : Int)) = true := decide_eq_true (by omega)
      have hk0 : (0 : Int) ≤ (k : Int) := by omega
      have hk2 : (k : Int) < 9223372036854775808 := by omega
      have han := and1i k (by omega)
      have hc : wr.cell? ⟨w.heap.size, 0, none⟩ = some (.int .u32 (I (mvn m e))) := (blk_cell HS.out 0).trans rfl
      have hsq := Aside0.mk (step_sq m)
      rcases Nat.mod_two_eq_zero_or_one k with h2 | h2
      · rw [h2] at han
        have HE2 : Aside0 (mvn ((m + m) * (k / 2)) x = mvn (8 * N) a) := ⟨(join_even m k x h2).trans HE.out⟩
        clear h2 HE
        go_wp2_with (go_at_call 14; (with_reducible refine (clos_calls _ _ _ HS).mono ?_); rintro e w2 ⟨rfl, hs, hk⟩; have HB2 := Aside0.mk (jn_keep HB hk); have HS2 := Aside0.mk (jn_sq hsq hs); clear hs hk HS HB hc)
        go_roundg k1
        case measure => omega
        case rel => exact ⟨x, k / 2, m + m, rfl, (by first | rfl | (congr 1; omega)), by omega, by omega, HE2, HS2, HB2⟩
      · rw [h2] at han
        have HE2 : Aside0 (mvn ((m + m) * (k / 2)) (mvn m x) = mvn (8 * N) a) := ⟨(join_odd m k x h2).trans HE.out⟩
        have hmul := Aside0.mk (step_mul m x)
        clear h2 HE
        go_wp2_with (first
          | (go_at_call 15; (with_reducible refine (product_calls _ _ _).mono ?_); rintro e w2 ⟨rfl, hd⟩; have HB2 := Aside0.mk (jn_drawn HB hd); have HS2 := Aside0.mk (sc_drawn HS hd).1; clear hd HS HB hc; rw [hmul.out])
          | (go_at_call 14; (with_reducible refine (clos_calls _ _ _ HS2).mono ?_); rintro e w3 ⟨rfl, hs, hk⟩; have HB3 := Aside0.mk (jn_keep HB2 hk); have HS3 := Aside0.mk (jn_sq hsq hs); clear hs hk HS2 HB2))
        go_roundg k1
        case measure => omega
        case rel => exact ⟨mvn m x, k / 2, m + m, rfl, (by first | rfl | (congr 1; omega)), by omega, by omega, HE2, HS3, HB3⟩
    · have hb : decide ((0 : Int) < (k : Int)) = false := decide_eq_false (by omega)
      have hbn : decide (0 < k) = false := decide_eq_false hp
      have hx := HE.out
      rw [show m * k = 0 by rw [show k = 0 by omega, Nat.mul_zero]] at hx
      have hx2 : Aside0 (x ^^^ b = joinB a b n) := ⟨by unfold joinB; rw [← HN.out, ← hx]; rfl⟩
      have hxo := xorI x b
      clear hx HE
      go_wp2
      go_ret
      exact ⟨by first | rfl | (rw [hx2.out]; rfl), HB.out⟩
end Go.Proofs.YtlinaloemppniaaDoor.PAll
