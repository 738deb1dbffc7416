/- The document's window: Repeat's no, Clear; what is the same; what is spoilt. -/
import Derived.Test.YtcpijkckjahfdaaRQR
import Derived.Test.YtcpijkckjahfdaaPAllx1
namespace Go.Proofs.Ytcpijkckjahfdaa.PAll
open Go.RowKit Go.Proofs.YtcpijkckjahfdaaW.PrintWords Go.Proofs.YtcpijkckjahfdaaW.PrintLast Go.Proofs.YtcpijkckjahfdaaW.PrintMore
attribute [local go_sem] max2_int min2_int max_two min_two max_three min_three max_four min_four   -- for this text's walks alone
set_option linter.unusedVariables false
set_option linter.unusedSimpArgs false
section
variable {w W W' : World} {gq g gb N : Nat} {ok : Nat → Prop} {q : List Int}
set_option maxHeartbeats 8000000 in
set_option maxRecDepth 100000 in
theorem rq_repeat_no (d n : Int) (h : Aside0 (RQ w W gq N ok q)) (hd : ¬ (1 ≤ d ∧ d ≤ q.length ∧ 0 ≤ n ∧ n ≤ 65536)) :
    Calls Try.prog 18 #[.pointer (some ⟨gq, 0, none⟩), .int .i64 d, .int .i64 n] W fun e W' => e = .returned (.tuple #[.slice none 0 0, .bool false]) ∧ Drawn0 W W' := by
  obtain ⟨A, c, hc0, hc1, hcl, hC, hf⟩ := rq_cells h.out
  clear hC hf hcl hc0 h
  by_cases h1 : d < 1
  · have hb : decide (d < 1) = true := decide_eq_true h1
    clear hd h1
    go_enter Try.func18, Try.ntmps18
    go_wp2
    go_ret2
    exact ⟨rfl, by repeat (first | exact Drawn0.refl _ | apply Drawn0.step)⟩
  · have hb : decide (d < 1) = false := decide_eq_false h1
    by_cases h2 : (q.length : Int) < d
    · have hb2 : decide ((q.length : Int) < d) = true := decide_eq_true h2
      clear hd h1 h2
      go_enter Try.func18, Try.ntmps18
      go_wp2
      go_ret2
      exact ⟨rfl, by repeat (first | exact Drawn0.refl _ | apply Drawn0.step)⟩
    · have hb2 : decide ((q.length : Int) < d) = false := decide_eq_false h2
      by_cases h3 : n < 0
      · have hb3 : decide (n < 0) = true := decide_eq_true h3
        clear hd h1 h2 h3
        go_enter Try.func18, Try.ntmps18
        go_wp2
        go_ret2
        exact ⟨rfl, by repeat (first | exact Drawn0.refl _ | apply Drawn0.step)⟩
      · have hb3 : decide (n < 0) = false := decide_eq_false h3
        have hb4 : decide (65536 < n) = true := decide_eq_true (by omega)
        clear hd h1 h2 h3
        go_enter Try.func18, Try.ntmps18
        go_wp2
        go_ret2
        exact ⟨rfl, by repeat (first | exact Drawn0.refl _ | apply Drawn0.step)⟩
theorem rq_clear (h : RQ w W gq N ok q) : RQ w (W.setCell ⟨gq, 1, none⟩ (.slice none 0 0)) gq N ok [] := by
  obtain ⟨v, h1, h2, h3, h4⟩ := h
  exact rq_set h1 h2 (Kd.Q_nil _ _ _ _ _) h4
/-- the window's blocks under what is done elsewhere. -/
theorem rb_kept {S : Nat → Prop} {p n : Nat} {bs : List Int} (h : RB W g gb N p n bs) (hk : Kept W W' S) (h1 : ¬ S g) (h2 : ¬ S gb) : RB W' g gb N p n bs := ⟨blk_kept h.1 hk h1, blk_kept h.2.1 hk h2, h.2.2⟩
theorem win_kept {S : Nat → Prop} (h : Win W g gb N q) (hk : Kept W W' S) (h1 : ¬ S g) (h2 : ¬ S gb) : Win W' g gb N q := by
  obtain ⟨p, n, bs, hR, h⟩ := h
  exact ⟨p, n, bs, rb_kept hR hk h1 h2, h⟩
theorem rk_kept (h : RK W W' g gb) : Kept W W' (fun k => k = g ∨ k = gb) :=
  ⟨h.1, fun i hi hn => by
    obtain ⟨o, ho⟩ : ∃ o, W.heap[i]? = some o := ⟨_, Array.getElem?_eq_getElem hi⟩
    rw [ho]
    exact h.2.2 i o ho (fun e => hn (.inl e)) (fun e => hn (.inr e))⟩
end
theorem w64i {i n : Nat} (h : i < n) (hn : n < 140737488355328) : wrap64 ((i : Int) + 1) = ((i + 1 : Nat) : Int) := by unfold wrap64; omega
theorem spoil_l (a : Int) (m : Nat) : ∀ (l : List Int) (i : Nat), i + m = l.length → l.length < 140737488355328 → winklelaw03_spoil.l0 (m + 1) l a (i : Int) = some () := by
  induction m with
  | zero =>
    intro l i hi hl
    unfold winklelaw03_spoil.l0
    rw [if_neg (by omega), if_pos hl, if_pos (by omega), if_pos (by rw [List.length_append, List.length_singleton]; omega)]
  | succ m ih =>
    intro l i hi hl
    unfold winklelaw03_spoil.l0
    rw [if_pos (by omega), if_pos (by omega), w64i (n := l.length) (by omega) hl]
    exact ih _ (i + 1) (by rw [List.length_set]; omega) (by rw [List.length_set]; omega)
theorem spoil_ok (l : List Int) (a : Int) (hl : l.length < 140737488355328) : ∃ k, winklelaw03_spoil.f k l a = some () := ⟨l.length + 1, spoil_l a l.length l 0 (by omega) hl⟩
theorem same_lq (l : List Int) (hl : l.length < 140737488355328) (m : Nat) : ∀ (i : Nat), i + m = l.length → winkleref03_Same.l0 (m + 1) l l (i : Int) = some true := by
  induction m with
  | zero =>
    intro i hi
    unfold winkleref03_Same.l0
    rw [if_neg (by omega)]
  | succ m ih =>
    intro i hi
    unfold winkleref03_Same.l0
    rw [if_pos (by omega), if_pos (by omega), if_pos (by omega), if_pos rfl, w64i (n := l.length) (by omega) hl]
    exact ih (i + 1) (by omega)
theorem same_ok (l : List Int) (hl : l.length < 140737488355328) : ∃ k, winkleref03_Same.f k l l = some true := ⟨l.length + 1, by unfold winkleref03_Same.f; rw [if_pos rfl]; exact same_lq l hl l.length 0 (by omega)⟩
end Go.Proofs.Ytcpijkckjahfdaa.PAll
