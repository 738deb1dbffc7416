/- Repeat: the bytes at the end, again and again, in a row of one's own, and behind the others. -/
import Derived.Test.YtcpijkckjahfdaaRTail
namespace Go.Proofs.Ytcpijkckjahfdaa.PAll
open Go.RowKit Go.Proofs.YtcpijkckjahfdaaW.PrintWords Go.Proofs.YtcpijkckjahfdaaW.PrintLast Go.Proofs.YtcpijkckjahfdaaW.PrintMore
attribute [local go_sem] max2_int min2_int max_two min_two max_three min_three max_four min_four   -- for this text's walks alone
set_option linter.unusedVariables false
set_option linter.unusedSimpArgs false
/-- what is repeated from d back behind l. -/
def rep (l : List Int) (d n : Nat) : List Int := (List.range n).map (fun i => l.getD (l.length - d + i % d) 0)
theorem rep_len (l : List Int) (d n : Nat) : (rep l d n).length = n := by simp [rep]
theorem rep_succ (l : List Int) (d n : Nat) : rep l d (n + 1) = rep l d n ++ [l.getD (l.length - d + n % d) 0] := by simp [rep, List.range_succ]
theorem rep_get (l : List Int) (d n i : Nat) (h : i < n) : (rep l d n).getD i 0 = l.getD (l.length - d + i % d) 0 := by simp [rep, List.getD, h]
theorem rep_back (l : List Int) (d n : Nat) (h1 : 1 ≤ d) (h2 : d ≤ l.length) : (l ++ rep l d n).getD (l.length + n - d) 0 = l.getD (l.length - d + n % d) 0 := by
  rw [List.getD_eq_getElem?_getD]
  by_cases h : n < d
  · rw [List.getElem?_append_left (by omega), ← List.getD_eq_getElem?_getD, Nat.mod_eq_of_lt h]
    congr 1; omega
  · rw [List.getElem?_append_right (by omega), ← List.getD_eq_getElem?_getD, rep_get _ _ _ _ (by omega)]
    rw [show l.length + n - d - l.length = n - d by omega, Nat.mod_eq_sub_mod (a := n) (b := d) (by omega)]
theorem rep_set (l : List Int) (d n i : Nat) (h : i < n) (X : Int) (hX : X = l.getD (l.length - d + i % d) 0) : (rep l d i ++ List.replicate (n - i) 0).set i X = rep l d (i + 1) ++ List.replicate (n - (i + 1)) 0 := by
  rw [List.set_append_right _ _ (by rw [rep_len]; omega), rep_len, Nat.sub_self, rep_succ, hX, show n - i = (n - (i + 1)) + 1 by omega, List.replicate_succ, List.set_cons_zero, List.append_assoc]
  rfl
/-- a window, and a row of the call's own. -/
def RS (w W : World) (g gb gd N : Nat) (q zs : List Int) : Prop :=
  Win W g gb N q ∧ W.heap[gd]? = some (.cells (bytesA zs) 5 (0, 0)) ∧ gd ≠ g ∧ gd ≠ gb ∧ RK w W g gb ∧ w.heap.size ≤ gd
theorem rk_fresh {w W : World} {g gb gd : Nat} (h : RK w W g gb) (hg : w.heap.size ≤ gd) (i : Nat) (u : Value) : RK w (W.setCell ⟨gd, i, none⟩ u) g gb :=
  ⟨by simpa using h.1, fun w0 hb h1 h2 => (h.2.1 w0 hb h1 h2).setCell (by show w0.heap.size ≤ gd; have := hb.size; omega) _, fun j o hj h1 h2 => by
    rw [Below.heap_setCell W ⟨gd, i, none⟩ u j (by show j ≠ gd; have := blk_lt hj; omega)]; exact h.2.2 j o hj h1 h2⟩
theorem win_gs {W : World} {g gb N : Nat} {q : List Int} (h : Win W g gb N q) : g < W.heap.size ∧ gb < W.heap.size ∧ N ≤ 32768 := by
  obtain ⟨p, n, bs, hR, hr⟩ := h
  exact ⟨blk_lt hR.1, blk_lt hR.2.1, hr.2.2.1⟩
theorem win_far {W : World} {g gb N gd : Nat} {q : List Int} (h : Win W g gb N q) (h1 : gd ≠ g) (h2 : gd ≠ gb) (i : Nat) (u : Value) : Win (W.setCell ⟨gd, i, none⟩ u) g gb N q := by
  obtain ⟨p, n, bs, hR, hr⟩ := h
  exact ⟨p, n, bs, ⟨blk_far hR.1 (by exact h1.symm) _, blk_far hR.2.1 (by exact h2.symm) _, hR.2.2⟩, hr⟩
theorem rs_start {W : World} {g gb N : Nat} {q : List Int} (h : Win W g gb N q) (m : Nat) : RS W (W.alloc (.cells (madeCells #[.int .u8 0] m) 5)) g gb W.heap.size N q (List.replicate m 0) :=
  ⟨win_below h (below_alloc (Below.refl _ _) _), by rw [made_bytes]; exact heap_alloc_new W _, fun e => by have := (win_gs h).1; omega, fun e => by have := (win_gs h).2.1; omega, RK.below (below_alloc (Below.refl _ _) _), Nat.le_refl _⟩
theorem rs_store {w W : World} {g gb gd N i : Nat} {q zs : List Int} (x : Int) (h : Aside0 (RS w W g gb gd N q zs)) : Aside0 (RS w (W.setCell ⟨gd, i, none⟩ (.int .u8 x)) g gb gd N q (zs.set i x)) := by
  obtain ⟨h1, h2, h3, h4, h5, h6⟩ := h.out
  refine ⟨win_far h1 h3 h4 _ _, ?_, h3, h4, rk_fresh h5 h6 _ _, h6⟩
  have := blk_set h2 i (.int .u8 x)
  rw [this]
  congr 2
  simp [bytesA, nums, List.map_set]
theorem rs_cell {w W : World} {g gb gd N i : Nat} {q zs : List Int} (h : Aside0 (RS w W g gb gd N q zs)) (hi : i < zs.length) : W.cell? ⟨gd, i, none⟩ = some (.int .u8 (zs.getD i 0)) := by
  rw [blk_cell h.out.2.1 i]
  simp [bytesA, nums, hi, List.getD]
theorem rs_frozen {w W : World} {g gb gd N : Nat} {q zs : List Int} (h : Aside0 (RS w W g gb gd N q zs)) (i : Nat) : W.frozen? ⟨gd, i, none⟩ = false := blk_frozen h.out.2.1 i
theorem rs_drawn {w W W' : World} {g gb gd N : Nat} {q zs : List Int} (h : RS w W g gb gd N q zs) (hd : Drawn0 W W') : RS w W' g gb gd N q zs :=
  ⟨win_drawn h.1 hd, (hd.below.block gd (blk_lt h.2.1)).trans h.2.1, h.2.2.1, h.2.2.2.1, h.2.2.2.2.1.trans (RK.below hd.below), h.2.2.2.2.2⟩
theorem rs_back {w W : World} {g gb gd N : Nat} {q zs : List Int} {X : Int} (d : Nat) (h : Aside0 (RS w W g gb gd N q zs)) (h1 : 1 ≤ d) (hd : d ≤ q.length) (hX : q.getD (q.length - d) 0 = X) : Calls Try.prog 13 #[.pointer (some ⟨g, 0, none⟩), .int .i64 (d : Int)] W fun e W' => e = .returned (.tuple #[.int .u8 X, .bool true]) ∧ RS w W' g gb gd N q zs :=
  (win_back d ⟨h.out.1⟩ h1 hd).mono fun e W' ⟨he, hdr⟩ => ⟨by rw [← hX]; exact he, rs_drawn h.out hdr⟩
theorem rs_put {w W : World} {g gb gd N : Nat} {q q' zs : List Int} (X : Int) (h : Aside0 (RS w W g gb gd N q zs)) (hq : (q ++ [X]).drop (q.length + 1 - N) = q') : Calls Try.prog 9 #[.pointer (some ⟨g, 0, none⟩), .int .u8 X] W fun e W' => e = .returned (.tuple #[]) ∧ RS w W' g gb gd N q' zs :=
  (win_put X ⟨h.out.1⟩).mono fun e W' ⟨he, hw, hk⟩ => ⟨he, by rw [← hq]; exact hw, hk.2.2 gd _ h.out.2.1 h.out.2.2.1 h.out.2.2.2.1, h.out.2.2.1, h.out.2.2.2.1, h.out.2.2.2.2.1.trans hk, h.out.2.2.2.2.2⟩
theorem rep_facts {l : List Int} {d N i : Nat} (h1 : 1 ≤ d) (h2 : d ≤ min N l.length) : d ≤ (lastN N (l ++ rep l d i)).length ∧ (lastN N (l ++ rep l d i)).getD ((lastN N (l ++ rep l d i)).length - d) 0 = l.getD (l.length - d + i % d) 0 ∧ (lastN N (l ++ rep l d i) ++ [l.getD (l.length - d + i % d) 0]).drop ((lastN N (l ++ rep l d i)).length + 1 - N) = lastN N (l ++ rep l d (i + 1)) := by
  have hl : (l ++ rep l d i).length = l.length + i := by rw [List.length_append, rep_len]
  refine ⟨by rw [lastN_len, hl]; omega, ?_, ?_⟩
  · rw [lastN_len, lastN_back _ _ _ h1 (by rw [hl]; omega), hl, rep_back _ _ _ h1 (by omega)]
  · rw [lastN_put, rep_succ, List.append_assoc]
theorem drawn_size {W W' : World} (h : Drawn0 W W') : W'.heap.size = W.heap.size := by obtain ⟨⟨k, rfl⟩⟩ := h; rfl
set_option maxHeartbeats 8000000 in
set_option maxRecDepth 100000 in
/-- Repeat. -/
theorem win_repeat {W : World} {g gb N : Nat} (l : List Int) (d n : Nat) (h : Aside0 (Win W g gb N (lastN N l))) (h1 : 1 ≤ d) (h2 : d ≤ min N l.length) (hn : n ≤ 65536) :
    Calls Try.prog 14 #[.pointer (some ⟨g, 0, none⟩), .int .i64 (d : Int), .int .i64 (n : Int)] W fun e W' => e = .returned (.tuple #[.slice (some ⟨W.heap.size, 0, none⟩) n n, .bool true]) ∧ RS W W' g gb W.heap.size N (lastN N (l ++ rep l d n)) (rep l d n) := by
  have hmk := print_make_of (P := Try.prog) 22 5 (.int .u8 0) 1 Try.underlying22 info5' rfl (by decide) n (by omega)
  have HD := Aside0.mk (show d ≤ (lastN N l).length by rw [lastN_len]; omega)
  have H12 := Aside0.mk (And.intro h1 h2)
  have hb0 : decide ((n : Int) < 0) = false := decide_eq_false (by omega)
  have hb1 : decide (65536 < (n : Int)) = false := decide_eq_false (by omega)
  clear h2
  go_enter Try.func14, Try.ntmps14
  go_wp2_with (go_at_call 13; (with_reducible refine (win_back d h h1 HD.out).mono ?_); rintro e w1 ⟨rfl, hd⟩; have HW := Aside0.mk (rs_start (win_drawn h.out hd) n); have HK := Aside0.mk (RK.below (g := g) (gb := gb) hd.below); have HSZ := Aside0.mk (drawn_size hd); clear hd)
  generalize w1.alloc (.cells (madeCells #[.int .u8 0] n) 5) = W1 at *
  generalize (lastN N l)[(lastN N l).length - d]?.getD 0 = y0
  have HW0 : Aside0 (RS w1 W1 g gb w1.heap.size N (lastN N (l ++ rep l d 0)) (rep l d 0 ++ List.replicate (n - 0) 0)) := by
    rw [show rep l d 0 = [] from rfl, List.append_nil, List.nil_append, Nat.sub_zero]; exact HW
  clear hmk HD hb0 hb1 h HW
  go_loopg [32] (n + 1) (fun kq v32 w' => ∃ i : Nat, v32 = .int .i64 (i : Int) ∧ i ≤ n ∧ i + kq = n + 1 ∧ Aside0 (RS w1 w' g gb w1.heap.size N (lastN N (l ++ rep l d i)) (rep l d i ++ List.replicate (n - i) 0)))
  case atStart => exact ⟨0, rfl, by omega, by omega, HW0⟩
  case round =>
    clear HW0
    obtain ⟨i, rfl, hin, hik, HW⟩ := hrel
    cases gk with
    | zero => exact absurd hik (by omega)
    | succ k1 =>
    by_cases hlt : i < n
    · have hb : decide ((i : Int) < (n : Int)) = true := decide_eq_true (by omega)
      have hi0 : (0 : Int) ≤ (i : Int) := by omega
      have hi1 : (i : Int) < (n : Int) := by omega
      obtain ⟨hf1, hf2, hf3⟩ := rep_facts (i := i) H12.out.1 H12.out.2
      have HF1 := Aside0.mk hf1
      have HST := Aside0.mk (rep_set l d n i hlt)
      obtain ⟨X, HX⟩ : ∃ X, Aside0 (X = l.getD (l.length - d + i % d) 0) := ⟨_, ⟨rfl⟩⟩
      rw [← HX.out] at hf2 hf3
      have HF2 := Aside0.mk hf2
      have HF3 := Aside0.mk hf3
      replace HST := Aside0.mk (HST.out X HX.out)
      have hzl : (rep l d i ++ List.replicate (n - i) 0).length = n := by rw [List.length_append, rep_len, List.length_replicate]; omega
      have HZL := Aside0.mk hzl
      have hfz := rs_frozen HW i
      have hcl := rs_cell HW (i := i) (by omega)
      clear hf1 hf2 hf3 hzl
      go_wp2_with (first
        | (go_at_call 13; (with_reducible refine (rs_back d HW h1 HF1.out HF2.out).mono ?_); rintro e w2 ⟨rfl, hs⟩; have HW2 := Aside0.mk hs; clear HW hs hfz hcl; have hfz := rs_frozen HW2 i; have hcl := rs_cell HW2 (i := i) (by have := HZL.out; omega))
        | (go_at_call 9; (with_reducible refine (rs_put X (rs_store X HW2) HF3.out).mono ?_); rintro e w3 ⟨rfl, hs⟩; rw [HST.out] at hs; have HW3 := Aside0.mk hs; clear hs HW2))
      go_roundg k1
      case measure => omega
      case rel => exact ⟨i + 1, rfl, by omega, by omega, HW3⟩
    · obtain rfl : i = n := by omega
      have hb : decide ((i : Int) < (i : Int)) = false := decide_eq_false (by omega)
      go_wp2
      go_ret2
      have hs := HW.out
      rw [Nat.sub_self, List.replicate_zero, List.append_nil, HSZ.out] at hs
      exact ⟨by rw [HSZ.out]; rfl, hs.1, hs.2.1, hs.2.2.1, hs.2.2.2.1, HK.out.trans hs.2.2.2.2.1, Nat.le_refl _⟩
set_option maxHeartbeats 8000000 in
set_option maxRecDepth 100000 in
/-- Repeat from where nothing is, or of too many. -/
theorem win_repeat_no {W : World} {g gb N : Nat} {q : List Int} (d n : Int) (h : Aside0 (Win W g gb N q)) (hd : ¬ (1 ≤ d ∧ d ≤ q.length ∧ 0 ≤ n ∧ n ≤ 65536)) :
    Calls Try.prog 14 #[.pointer (some ⟨g, 0, none⟩), .int .i64 d, .int .i64 n] W fun e W' => e = .returned (.tuple #[.slice none 0 0, .bool false]) ∧ Drawn0 W W' := by
  by_cases h1 : 1 ≤ d ∧ d ≤ q.length
  · obtain ⟨k, rfl⟩ : ∃ k : Nat, d = (k : Int) := ⟨d.toNat, by omega⟩
    have H1 := Aside0.mk (show 1 ≤ k ∧ k ≤ q.length by omega)
    by_cases h0 : n < 0
    · have hb0 : decide (n < 0) = true := decide_eq_true h0
      clear hd h1 h0
      go_enter Try.func14, Try.ntmps14
      go_wp2_with (go_at_call 13; (with_reducible refine (win_back k h H1.out.1 H1.out.2).mono ?_); rintro e w1 ⟨rfl, hd⟩; have HD := Aside0.mk hd; clear hd)
      go_ret2
      exact ⟨rfl, HD.out⟩
    · have hb0 : decide (n < 0) = false := decide_eq_false h0
      have hb1 : decide (65536 < n) = true := decide_eq_true (by omega)
      clear hd h1 h0
      go_enter Try.func14, Try.ntmps14
      go_wp2_with (go_at_call 13; (with_reducible refine (win_back k h H1.out.1 H1.out.2).mono ?_); rintro e w1 ⟨rfl, hd⟩; have HD := Aside0.mk hd; clear hd)
      go_ret2
      exact ⟨rfl, HD.out⟩
  · have H1 := Aside0.mk (show d < 1 ∨ (q.length : Int) < d by omega)
    clear hd h1
    go_enter Try.func14, Try.ntmps14
    go_wp2_with (go_at_call 13; (with_reducible refine (win_back_no d h H1.out).mono ?_); rintro e w1 ⟨rfl, hd⟩; have HD := Aside0.mk hd; clear hd)
    go_ret2
    exact ⟨rfl, HD.out⟩
end Go.Proofs.Ytcpijkckjahfdaa.PAll
