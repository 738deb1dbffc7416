/- The document's window: Repeat. -/
import Derived.Test.YtcpijkckjahfdaaRQB
import Derived.Test.YtcpijkckjahfdaaRep
namespace Go.Proofs.Ytcpijkckjahfdaa.PAll
open Go.RowKit Go.Proofs.YtcpijkckjahfdaaW.PrintWords Go.Proofs.YtcpijkckjahfdaaW.PrintLast Go.Proofs.YtcpijkckjahfdaaW.PrintMore
attribute [local go_sem] max2_int min2_int max_two min_two max_three min_three max_four min_four   -- for this text's walks alone
set_option linter.unusedVariables false
set_option linter.unusedSimpArgs false
theorem w64s {i : Nat} (h : i ≤ 65536) : Value.int .i64 (wrap64 ((i : Int) + 1)) = Value.int .i64 ((i + 1 : Nat) : Int) := by congr 1; unfold wrap64; omega
def RP (w W0 W : World) (gq N : Nat) (ok : Nat → Prop) (q : List Int) (vo : Value) (o : List Int) : Prop :=
  RQ w W gq N (fun k => ok k ∧ some k ≠ vo.ownBlock) q ∧ (Kd.int .u8).R 5 W w.heap.size ok vo o ∧ Kept W0 W (fun k => k = gq ∨ ok k)
section
variable {w W0 W W' : World} {gq N : Nat} {ok ok' : Nat → Prop} {q o : List Int} {vo : Value}
theorem rp_start (h : RQ w W gq N ok q) : RP w W W gq N ok q (.slice none 0 0) [] :=
  ⟨rq_mono h (fun k hk => ⟨hk, by simp [Value.ownBlock]⟩), Kd.R_nil _ _ _ _ _, Kept.refl _ _⟩
theorem row_ne {v1 v2 : Value} {b g t : Nat} {cs : Array Value} (h1 : W.heap[g]? = some (.cells cs t (0, 0))) (ht : t ≠ 5) (h : (Kd.int .u8).R 5 W b ok vo o) : vo.ownBlock ≠ some g := by
  intro e
  obtain ⟨cells, hc⟩ := Kd.R_typed h g e
  rw [h1] at hc
  simp at hc
  exact ht hc.2
theorem row_just {b : Nat} (h : (Kd.int .u8).R 5 W b ok vo o) : (Kd.int .u8).R 5 W b (fun k => vo.ownBlock = some k) vo o := ⟨fun k hk => hk, h.2⟩
theorem row_again {b : Nat} (h : (Kd.int .u8).R 5 W b ok vo o) (hok : ∀ k, vo.ownBlock = some k → ok' k) : (Kd.int .u8).R 5 W b ok' vo o := ⟨hok, h.2⟩
theorem rp_drawn (h : RP w W0 W gq N ok q vo o) (hd : Drawn0 W W') : RP w W0 W' gq N ok q vo o :=
  ⟨rq_below h.1 hd.below, Kd.R_below h.2.1 hd.below, h.2.2.below hd.below⟩
theorem rp_back {X : Int} (d : Nat) (h : Aside0 (RP w W0 W gq N ok q vo o)) (h1 : 1 ≤ d) (hd : d ≤ q.length) (hqN : q.length ≤ 32768) (hX : q.getD (q.length - d) 0 = X) : Calls Try.prog 17 #[.pointer (some ⟨gq, 0, none⟩), .int .i64 (d : Int)] W fun e W' => e = .returned (.tuple #[.int .u8 X, .bool true]) ∧ RP w W0 W' gq N ok q vo o :=
  (rq_back d ⟨h.out.1⟩ h1 hd hqN).mono fun e W' ⟨he, hw⟩ => ⟨by rw [he, hX], rp_drawn h.out hw⟩
theorem rp_put {q' : List Int} (X : Int) (h : Aside0 (RP w W0 W gq N ok q vo o)) (hfresh : ∀ k, W0.heap.size ≤ k → ok k) (hqN : q.length ≤ N) (hN : N ≤ 32768) (hq : (q ++ [X]).drop (q.length + 1 - N) = q') :
    Calls Try.prog 16 #[.pointer (some ⟨gq, 0, none⟩), .int .u8 X] W fun e W' => e = .returned (.tuple #[]) ∧ RP w W0 W' gq N ok q' vo o := by
  obtain ⟨h1, h2, h3⟩ := h.out
  have hb := Kd.R_bound h2
  refine (rq_put X ⟨h1⟩ (fun k hk => ⟨hfresh k (Nat.le_trans h3.1 hk), fun e => ?_⟩) hqN hN).mono fun e W' ⟨he, hr, hk⟩ => ⟨he, hq ▸ hr, ?_, ?_⟩
  · have := (hb.1 k e.symm).2.2.1; omega
  · refine row_again (Kd.R_kept (row_just h2) hk (fun k hk1 => ?_)) h2.1
    rintro (rfl | hk2)
    · obtain ⟨v, g1, _⟩ := h1
      exact row_ne (v1 := vo) (v2 := vo) g1 (by omega) h2 hk1
    · exact hk2.2 hk1.symm
  · exact h3.then_ hk (fun k hk => .inl (hk.imp_right (fun h => h.1)))
theorem rp_app {vo1 : Value} {o1 : List Int} (h : RP w W0 W gq N ok q vo o) (hr : (Kd.int .u8).R 5 W' w.heap.size ok vo1 o1) (hB : Below w.heap.size w W') (hg : W.grownBy W' vo.ownBlock) (hat : vo1.ownBlock = vo.ownBlock ∨ ∃ b, vo1.ownBlock = some b ∧ W.heap.size ≤ b) : RP w W0 W' gq N ok q vo1 o1 := by
  obtain ⟨h1, h2, h3⟩ := h
  have hk : Kept W W' (fun k => vo.ownBlock = some k) := ⟨hg.size, fun i hi hn => hg.block i hi (fun e => hn e.symm)⟩
  refine ⟨?_, hr, h3.then_ hk (fun k hk => .inl (.inr (h2.1 k hk)))⟩
  have h4 := rq_bound h1
  refine rq_mono (rq_kept h4 hk ?_ (fun k hk => fun e => hk.1.2 e.symm) hB) (fun k hk => ⟨hk.1.1, ?_⟩)
  · obtain ⟨v, g1, _⟩ := h1
    exact row_ne (v1 := vo) (v2 := vo) g1 (by omega) h2
  · rcases hat with hat | ⟨b, hb, hle⟩
    · rw [hat]; exact hk.1.2
    · rw [hb]; intro e; injection e with e; have := hk.2; omega
end
set_option maxHeartbeats 8000000 in
set_option maxRecDepth 100000 in
theorem rq_repeat {w W : World} {gq N : Nat} {ok : Nat → Prop} (l : List Int) (d n : Nat) (h : Aside0 (RQ w W gq N ok (lastN N l))) (hfresh : ∀ k, W.heap.size ≤ k → ok k) (h1 : 1 ≤ d) (h2 : d ≤ min N l.length) (hn : n ≤ 65536) (hN : N ≤ 32768) :
    Calls Try.prog 18 #[.pointer (some ⟨gq, 0, none⟩), .int .i64 (d : Int), .int .i64 (n : Int)] W fun e W' => ∃ vo, e = .returned (.tuple #[vo, .bool true]) ∧ RP w W W' gq N ok (lastN N (l ++ rep l d n)) vo (rep l d n) := by
  obtain ⟨A, c, hc0, hc1, hcl, hC, hf⟩ := rq_cells h.out
  have HD := Aside0.mk (show d ≤ (lastN N l).length by rw [lastN_len]; omega)
  have H12 := Aside0.mk (And.intro h1 h2)
  have HFr := Aside0.mk hfresh
  have HN := Aside0.mk hN
  have HW0 : Aside0 (RP w W W gq N ok (lastN N (l ++ rep l d 0)) (.slice none 0 0) (rep l d 0)) := by
    rw [show rep l d 0 = [] from rfl, List.append_nil]; exact ⟨rp_start h.out⟩
  have hd1 : decide ((d : Int) < 1) = false := decide_eq_false (by omega)
  have hd2 : decide (d < 1) = false := decide_eq_false (by omega)
  have hd3 : decide (((lastN N l).length : Int) < (d : Int)) = false := decide_eq_false (by have := HD.out; omega)
  have hd4 : decide ((lastN N l).length < d) = false := decide_eq_false (by have := HD.out; omega)
  have hb0 : decide ((n : Int) < 0) = false := decide_eq_false (by omega)
  have hb1 : decide (65536 < (n : Int)) = false := decide_eq_false (by omega)
  have HNn := Aside0.mk hn
  clear h2 hc0 hcl hC hf hfresh hN hn
  go_enter Try.func18, Try.ntmps18
  go_wp2
  clear hc1 hd1 hd2 hd3 hd4 hb0 hb1 HD h
  go_loopg [8, 9] (n + 1) (fun kq v8 v9 w' => ∃ (i : Nat) (vo : Value), v9 = .int .i64 (i : Int) ∧ vo = v8 ∧ i ≤ n ∧ i + kq = n + 1 ∧ Aside0 (RP w W w' gq N ok (lastN N (l ++ rep l d i)) vo (rep l d i)))
  case atStart => exact ⟨0, _, rfl, rfl, by omega, by omega, HW0⟩
  case round =>
    clear HW0
    obtain ⟨i, vo, rfl, rfl, hin, hik, HW⟩ := hrel
    cases gk with
    | zero => exact absurd hik (by omega)
    | succ k1 =>
    by_cases hlt : i < n
    · have hb : decide ((i : Int) < (n : Int)) = true := decide_eq_true (by omega)
      have hbb : decide (i < n) = true := decide_eq_true (by omega)
      obtain ⟨hf1, hf2, hf3⟩ := rep_facts (i := i) H12.out.1 H12.out.2
      have HF1 := Aside0.mk hf1
      obtain ⟨X, HX⟩ : ∃ X, Aside0 (X = l.getD (l.length - d + i % d) 0) := ⟨_, ⟨rfl⟩⟩
      rw [← HX.out] at hf2 hf3
      have HF2 := Aside0.mk hf2
      have HF3 := Aside0.mk hf3
      have HLL := Aside0.mk (show (lastN N (l ++ rep l d i)).length ≤ N by rw [lastN_len]; omega)
      have HLR := Aside0.mk (show ((rep l d i).length + 1) * 1 ≤ 140737488355328 by rw [rep_len]; have := HNn.out; omega)
      clear hf1 hf2 hf3
      go_wp2_with (first
        | (go_at_call 17; (with_reducible refine (rp_back d HW H12.out.1 HF1.out (Nat.le_trans HLL.out HN.out) HF2.out).mono ?_); rintro e w2 ⟨rfl, hs⟩; have HW2 := Aside0.mk hs; clear HW hs)
        | (go_at_call 16; (with_reducible refine (rp_put X HW2 HFr.out HLL.out HN.out HF3.out).mono ?_); rintro e w3 ⟨rfl, hs⟩; have HW3 := Aside0.mk hs; have HB3 := Aside0.mk hs.1.choose_spec.2.2.2; clear hs HW2)
        | ((refine Kd.R_append (P := Try.prog) (Kd.int .u8) (w0 := w) (W := w3) w.heap.size ?_ (.tmp 45) (.tmp 47) 22 5 (.int .u8 0) 1 ?_ Try.underlying22 info5q rfl (by decide) (by decide) vo (rep l d i) X [.int .u8 X] ok (fun k => False) ?_ ?_ (show (Kd.int .u8).M w3 w.heap.size (fun k => False) X [.int .u8 X] from rfl) (fun k hk => hk.elim) (fun k hk => HFr.out k (Nat.le_trans HW3.out.2.2.1 hk)) HW3.out.2.1 HB3.out HB3.out.size HLR.out ?_); (· rfl); (· rfl); (· rfl); (· rfl); intro v1 w4 hq hb hgr hat; have HW4 := Aside0.mk (rp_app HW3.out hq hb hgr hat); clear hq hb hgr hat HW3 HB3))
      go_roundg k1
      case measure => omega
      case rel => exact ⟨i + 1, _, w64s (Nat.le_trans hin HNn.out), rfl, by omega, by omega, by rw [rep_succ, ← HX.out]; rw [rep_succ, ← HX.out] at HW4; exact HW4⟩
    · obtain rfl : i = n := by omega
      have hb : decide ((i : Int) < (i : Int)) = false := decide_eq_false (by omega)
      have hbb : decide (i < i) = false := decide_eq_false (by omega)
      go_wp2
      go_ret2
      exact ⟨_, rfl, HW.out⟩
end Go.Proofs.Ytcpijkckjahfdaa.PAll
