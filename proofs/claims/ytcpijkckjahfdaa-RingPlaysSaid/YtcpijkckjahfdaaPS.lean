/- Both windows side by side. -/
import Derived.Test.YtcpijkckjahfdaaRQS
namespace Go.Proofs.Ytcpijkckjahfdaa.PAll
open Go.RowKit Go.Proofs.YtcpijkckjahfdaaW.PrintWords Go.Proofs.YtcpijkckjahfdaaW.PrintLast Go.Proofs.YtcpijkckjahfdaaW.PrintMore
set_option linter.unusedVariables false
set_option linter.unusedSimpArgs false
def PS (w W : World) (g gb gq N : Nat) (F : Nat → Prop) (q1 q2 : List Int) : Prop :=
  Win W g gb N q1 ∧ RQ w W gq N (fun k => k ≠ g ∧ k ≠ gb ∧ ¬ F k) q2 ∧ (w.heap.size ≤ g ∧ w.heap.size ≤ gb ∧ gq ≠ g ∧ gq ≠ gb) ∧ ∀ k, F k → w.heap.size ≤ k ∧ k < W.heap.size ∧ k ≠ g ∧ k ≠ gb ∧ k ≠ gq
/-- the blocks of F stay. -/
def FK (W W' : World) (F : Nat → Prop) : Prop := Kept W W' (fun k => ¬ F k)
section
variable {w W W' : World} {g gb gq N : Nat} {F : Nat → Prop} {q1 q2 : List Int}
theorem rq_below0 {ok : Nat → Prop} (h : RQ w W gq N ok q2) : Below w.heap.size w W := by obtain ⟨_, _, _, _, h4⟩ := h; exact h4
theorem rq_lt {ok : Nat → Prop} (h : RQ w W gq N ok q2) : gq < W.heap.size := by obtain ⟨_, h1, _⟩ := h; exact blk_lt h1
theorem ps_below (h : PS w W g gb gq N F q1 q2) (hb : Below W.heap.size W W') : PS w W' g gb gq N F q1 q2 :=
  ⟨win_below h.1 hb, rq_below h.2.1 hb, h.2.2.1, fun k hk => ⟨(h.2.2.2 k hk).1, Nat.lt_of_lt_of_le (h.2.2.2 k hk).2.1 hb.size, (h.2.2.2 k hk).2.2⟩⟩
theorem ps_drawn (h : PS w W g gb gq N F q1 q2) (hd : Drawn0 W W') : PS w W' g gb gq N F q1 q2 := ps_below h hd.below
theorem ps_base (h : PS w W g gb gq N F q1 q2) : Below w.heap.size w W := rq_below0 h.2.1
/-- fewer blocks to be kept. -/
theorem ps_drop {F' : Nat → Prop} (h : PS w W g gb gq N F q1 q2) (hF : ∀ k, F' k → F k) : PS w W g gb gq N F' q1 q2 :=
  ⟨h.1, rq_mono h.2.1 (fun k hk => ⟨hk.1, hk.2.1, fun e => hk.2.2 (hF k e)⟩), h.2.2.1, fun k hk => h.2.2.2 k (hF k hk)⟩
/-- one more block to be kept: a fresh one. -/
theorem ps_more {ga : Nat} (h : PS w W g gb gq N F q1 q2) (hb : Below W.heap.size W W') (h1 : W.heap.size ≤ ga) (h2 : ga < W'.heap.size) : PS w W' g gb gq N (fun k => F k ∨ k = ga) q1 q2 := by
  have hg := win_gs h.1
  have hq := rq_lt h.2.1
  have h' := ps_below h hb
  have hw := (ps_base h).size
  refine ⟨h'.1, rq_mono (rq_below (rq_bound h.2.1) hb) (fun k hk => ⟨hk.1.1, hk.1.2.1, fun e => ?_⟩), h.2.2.1, fun k hk => ?_⟩
  · rcases e with e | rfl
    · exact hk.1.2.2 e
    · have := hk.2; omega
  · rcases hk with hk | rfl
    · exact h'.2.2.2 k hk
    · exact ⟨by omega, h2, by omega, by omega, by omega⟩
/-- what changes no more than the first window. -/
theorem ps_one {q1' : List Int} (h : PS w W g gb gq N F q1 q2) (hw : Win W' g gb N q1') (hk : RK W W' g gb) : PS w W' g gb gq N F q1' q2 ∧ FK W W' F := by
  obtain ⟨h1, h2, h3, h4⟩ := h
  refine ⟨⟨hw, rq_kept h2 (rk_kept hk) ?_ (fun k hk e => ?_) (hk.2.1 w (rq_below0 h2) h3.1 h3.2.1), h3, fun k hk' => ⟨(h4 k hk').1, Nat.lt_of_lt_of_le (h4 k hk').2.1 hk.1, (h4 k hk').2.2⟩⟩, (rk_kept hk).mono (fun k e hF => e.elim (h4 k hF).2.2.1 (h4 k hF).2.2.2.1)⟩
  · exact fun e => e.elim (fun e => h3.2.2.1 e) (fun e => h3.2.2.2 e)
  · exact e.elim (fun e => hk.1 e) (fun e => hk.2.1 e)
/-- what changes no more than the second. -/
theorem ps_two {q2' : List Int} (h : PS w W g gb gq N F q1 q2) (hw : RQ w W' gq N (fun k => k ≠ g ∧ k ≠ gb ∧ ¬ F k) q2') (hk : Kept W W' (fun k => k = gq ∨ (k ≠ g ∧ k ≠ gb ∧ ¬ F k))) : PS w W' g gb gq N F q1 q2' ∧ FK W W' F := by
  obtain ⟨h1, h2, h3, h4⟩ := h
  refine ⟨⟨win_kept h1 hk ?_ ?_, hw, h3, fun k hk' => ⟨(h4 k hk').1, Nat.lt_of_lt_of_le (h4 k hk').2.1 hk.1, (h4 k hk').2.2⟩⟩, hk.mono (fun k e hF => e.elim (fun e => (h4 k hF).2.2.2.2 e) (fun e => e.2.2 hF))⟩
  · exact fun e => e.elim (fun e => h3.2.2.1 e.symm) (fun e => e.1 rfl)
  · exact fun e => e.elim (fun e => h3.2.2.2 e.symm) (fun e => e.2.1 rfl)
theorem ps_fresh (h : PS w W g gb gq N F q1 q2) (k : Nat) (hk : W.heap.size ≤ k) : k ≠ g ∧ k ≠ gb ∧ ¬ F k := by
  have hg := win_gs h.1
  exact ⟨by omega, by omega, fun e => by have := (h.2.2.2 k e).2.1; omega⟩
theorem ps_put (x : Int) (h : Aside0 (PS w W g gb gq N F q1 q2)) : Calls Try.prog 9 #[.pointer (some ⟨g, 0, none⟩), .int .u8 x] W fun e W' => e = .returned (.tuple #[]) ∧ PS w W' g gb gq N F ((q1 ++ [x]).drop (q1.length + 1 - N)) q2 ∧ FK W W' F :=
  (win_put x ⟨h.out.1⟩).mono fun e W' ⟨he, hw, hk⟩ => ⟨he, ps_one h.out hw hk⟩
theorem ps_qput (x : Int) (h : Aside0 (PS w W g gb gq N F q1 q2)) (hq : q2.length ≤ N) : Calls Try.prog 16 #[.pointer (some ⟨gq, 0, none⟩), .int .u8 x] W fun e W' => e = .returned (.tuple #[]) ∧ PS w W' g gb gq N F q1 ((q2 ++ [x]).drop (q2.length + 1 - N)) ∧ FK W W' F :=
  (rq_put x ⟨h.out.2.1⟩ (ps_fresh h.out) hq (win_gs h.out.1).2.2).mono fun e W' ⟨he, hw, hk⟩ => ⟨he, ps_two h.out hw hk⟩
theorem ps_clear (h : Aside0 (PS w W g gb gq N F q1 q2)) : Calls Try.prog 20 #[.pointer (some ⟨g, 0, none⟩)] W fun e W' => e = .returned (.tuple #[]) ∧ PS w W' g gb gq N F [] q2 ∧ FK W W' F := by
  obtain ⟨p, n, bs, hR, hp, hn, hN, ht, _⟩ := h.out.1
  exact (ring_clear ⟨hR⟩).mono fun e W' ⟨he, hw, hk⟩ => ⟨he, ps_one h.out ⟨0, 0, bs, hw, by omega, by omega, hN, fun _ => rfl, by unfold content; rw [if_pos (by omega)]; rfl⟩ hk⟩
theorem ps_qclear (h : PS w W g gb gq N F q1 q2) : PS w (W.setCell ⟨gq, 1, none⟩ (.slice none 0 0)) g gb gq N F q1 [] :=
  (ps_two h (rq_clear h.2.1) (kept_set (Kept.refl W _) (.inl rfl) 1 _)).1
theorem ps_len (h : Aside0 (PS w W g gb gq N F q1 q2)) : Calls Try.prog 12 #[.pointer (some ⟨g, 0, none⟩)] W fun e W' => e = .returned (.int .i64 (q1.length : Int)) ∧ PS w W' g gb gq N F q1 q2 ∧ Drawn0 W W' :=
  (win_len ⟨h.out.1⟩).mono fun e W' ⟨he, hd⟩ => ⟨he, ps_drawn h.out hd, hd⟩
theorem ps_size (h : Aside0 (PS w W g gb gq N F q1 q2)) : Calls Try.prog 21 #[.pointer (some ⟨g, 0, none⟩)] W fun e W' => e = .returned (.int .i64 (N : Int)) ∧ PS w W' g gb gq N F q1 q2 ∧ Drawn0 W W' := by
  obtain ⟨p, n, bs, hR, _⟩ := h.out.1
  exact (ring_size ⟨hR⟩).mono fun e W' ⟨he, hd⟩ => ⟨he, ps_drawn h.out hd, hd⟩
end
end Go.Proofs.Ytcpijkckjahfdaa.PAll
