/- Both windows side by side: what answers. -/
import Derived.Test.YtcpijkckjahfdaaPS
namespace Go.Proofs.Ytcpijkckjahfdaa.PAll
open Go.RowKit Go.Proofs.YtcpijkckjahfdaaW.PrintWords Go.Proofs.YtcpijkckjahfdaaW.PrintLast Go.Proofs.YtcpijkckjahfdaaW.PrintMore
set_option linter.unusedVariables false
set_option linter.unusedSimpArgs false
/-- a list that was answered. -/
def XR (w W : World) (v : Value) (l : List Int) : Prop := (Kd.int .u8).R 5 W w.heap.size (fun k => v.ownBlock = some k) v l
/-- F and a list's block. -/
def Fx (F : Nat → Prop) (v : Value) : Nat → Prop := fun k => F k ∨ v.ownBlock = some k
section
variable {w W W' : World} {g gb gq N : Nat} {F : Nat → Prop} {q q1 q2 l : List Int} {v : Value}
theorem xr_nil (w W : World) : XR w W (.slice none 0 0) [] := Kd.R_nil _ _ _ _ _
theorem xr_fk (h : XR w W v l) (hk : FK W W' (Fx F v)) : XR w W' v l := Kd.R_kept h hk (fun k e hn => hn (.inr e))
theorem xr_drawn (h : XR w W v l) (hd : Drawn0 W W') : XR w W' v l := Kd.R_below h hd.below
theorem xr_block {gd n : Nat} (h : W.heap[gd]? = some (.cells (bytesA l) 5 (0, 0))) (hb : w.heap.size ≤ gd) (hn : n = l.length) (hl : n ≤ maxLen) : XR w W (.slice (some ⟨gd, 0, none⟩) n n) l := by
  subst hn
  refine Kd.R_of_own ⟨by simp [encs], .inr ⟨gd, _, _, rfl, hb, h, Nat.le_refl _, hl, by simp [bytesA, nums], by rw [Nat.mul_one]; simp only [bytesA, nums, encs]; rw [List.take_of_length_le (by simp)]⟩⟩ (fun k hk => hk)
theorem xr_slice (h : XR w W v l) : ∃ A c, v = .slice A l.length c ∧ l.length ≤ c ∧ (Kd.int .u8).C W A l.length l := Kd.R_reads h
theorem ps_one' {F' : Nat → Prop} {q1' : List Int} (h : PS w W g gb gq N F q1 q2) (hw : Win W' g gb N q1') (hk : RK W W' g gb) (hF : ∀ k, F' k → F k ∨ (W.heap.size ≤ k ∧ k < W'.heap.size)) : PS w W' g gb gq N F' q1' q2 := by
  have hb := (ps_base h).size
  have hq := rq_lt h.2.1
  have hg := win_gs h.1
  obtain ⟨h1, h2, h3, h4⟩ := h
  refine ⟨hw, rq_mono (rq_kept (rq_bound h2) (rk_kept hk) ?_ (fun k hk e => ?_) (hk.2.1 w (rq_below0 h2) h3.1 h3.2.1)) (fun k hk => ⟨hk.1.1, hk.1.2.1, fun e => ?_⟩), h3, fun k hk' => ?_⟩
  · exact fun e => e.elim (fun e => h3.2.2.1 e) (fun e => h3.2.2.2 e)
  · exact e.elim (fun e => hk.1.1 e) (fun e => hk.1.2.1 e)
  · rcases hF k e with e | e
    · exact hk.1.2.2 e
    · have := hk.2; omega
  · rcases hF k hk' with e | e
    · exact ⟨(h4 k e).1, Nat.lt_of_lt_of_le (h4 k e).2.1 hk.1, (h4 k e).2.2⟩
    · exact ⟨by omega, e.2, by omega, by omega, by omega⟩
/-- what Back answers. -/
def backV (q : List Int) (d : Int) : Int := if 1 ≤ d ∧ d ≤ q.length then q.getD (q.length - d.toNat) 0 else 0
def backO (q : List Int) (d : Int) : Bool := decide (1 ≤ d ∧ d ≤ q.length)
theorem ps_back (d : Int) (h : Aside0 (PS w W g gb gq N F q1 q2)) : Calls Try.prog 13 #[.pointer (some ⟨g, 0, none⟩), .int .i64 d] W fun e W' => e = .returned (.tuple #[.int .u8 (backV q1 d), .bool (backO q1 d)]) ∧ PS w W' g gb gq N F q1 q2 ∧ Drawn0 W W' := by
  by_cases hd : 1 ≤ d ∧ d ≤ q1.length
  · obtain ⟨k, rfl⟩ : ∃ k : Nat, d = (k : Int) := ⟨d.toNat, by omega⟩
    refine (win_back k ⟨h.out.1⟩ (by omega) (by omega)).mono fun e W' ⟨he, hw⟩ => ⟨?_, ps_drawn h.out hw, hw⟩
    rw [he]; unfold backV backO; rw [if_pos hd, decide_eq_true hd, Int.toNat_natCast]
  · refine (win_back_no d ⟨h.out.1⟩ (by omega)).mono fun e W' ⟨he, hw⟩ => ⟨?_, ps_drawn h.out hw, hw⟩
    rw [he]; unfold backV backO; rw [if_neg hd, decide_eq_false hd]
theorem ps_qback (d : Int) (h : Aside0 (PS w W g gb gq N F q1 q2)) (hq : q2.length ≤ N) : Calls Try.prog 17 #[.pointer (some ⟨gq, 0, none⟩), .int .i64 d] W fun e W' => e = .returned (.tuple #[.int .u8 (backV q2 d), .bool (backO q2 d)]) ∧ PS w W' g gb gq N F q1 q2 ∧ Drawn0 W W' := by
  have hN := (win_gs h.out.1).2.2
  by_cases hd : 1 ≤ d ∧ d ≤ q2.length
  · obtain ⟨k, rfl⟩ : ∃ k : Nat, d = (k : Int) := ⟨d.toNat, by omega⟩
    refine (rq_back k ⟨h.out.2.1⟩ (by omega) (by omega) (by omega)).mono fun e W' ⟨he, hw⟩ => ⟨?_, ps_drawn h.out hw, hw⟩
    rw [he]; unfold backV backO; rw [if_pos hd, decide_eq_true hd, Int.toNat_natCast]
  · refine (rq_back_no d ⟨h.out.2.1⟩ (by omega)).mono fun e W' ⟨he, hw⟩ => ⟨?_, ps_drawn h.out hw, hw⟩
    rw [he]; unfold backV backO; rw [if_neg hd, decide_eq_false hd]
/-- what Repeat answers, and leaves. -/
def repC (q : List Int) (d n : Int) : Prop := 1 ≤ d ∧ d ≤ q.length ∧ 0 ≤ n ∧ n ≤ 65536
instance (q : List Int) (d n : Int) : Decidable (repC q d n) := inferInstanceAs (Decidable (_ ∧ _))
def repV (q : List Int) (d n : Int) : List Int := if repC q d n then rep q d.toNat n.toNat else []
def repQ (N : Nat) (q : List Int) (d n : Int) : List Int := if repC q d n then lastN N (q ++ rep q d.toNat n.toNat) else q
theorem lastN_id (hq : q.length ≤ N) : lastN N q = q := by unfold lastN; rw [show q.length - N = 0 by omega]; rfl
theorem repV_len (q : List Int) (d n : Int) : (repV q d n).length ≤ 65536 := by
  unfold repV
  split
  · rename_i h; unfold repC at h; rw [rep_len]; omega
  · simp
theorem ps_rep (d n : Int) (h : Aside0 (PS w W g gb gq N F q1 q2)) : Calls Try.prog 14 #[.pointer (some ⟨g, 0, none⟩), .int .i64 d, .int .i64 n] W fun e W' => ∃ vx, e = .returned (.tuple #[vx, .bool (decide (repC q1 d n))]) ∧ PS w W' g gb gq N (Fx F vx) (repQ N q1 d n) q2 ∧ XR w W' vx (repV q1 d n) ∧ FK W W' F := by
  have hl := win_len_le h.out.1
  have hN := (win_gs h.out.1).2.2
  by_cases hd : repC q1 d n
  · have hd' := hd
    unfold repC at hd'
    obtain ⟨k, rfl⟩ : ∃ k : Nat, d = (k : Int) := ⟨d.toNat, by omega⟩
    obtain ⟨m, rfl⟩ : ∃ m : Nat, n = (m : Int) := ⟨n.toNat, by omega⟩
    have hh : Win W g gb N (lastN N q1) := by rw [lastN_id hl]; exact h.out.1
    refine (win_repeat q1 k m ⟨hh⟩ (by omega) (by omega) (by omega)).mono fun e W' ⟨he, hr⟩ => ⟨.slice (some ⟨W.heap.size, 0, none⟩) m m, ?_, ?_, ?_, ?_⟩
    · rw [he, decide_eq_true hd]
    · refine ps_one' h.out ?_ hr.2.2.2.2.1 (fun j hj => hj.imp_right (fun e => ?_))
      · unfold repQ; rw [if_pos hd]; exact hr.1
      · have : W.heap.size = j := by simpa [Value.ownBlock] using e
        subst this; exact ⟨Nat.le_refl _, blk_lt hr.2.1⟩
    · unfold repV; rw [if_pos hd]; exact xr_block hr.2.1 (ps_base h.out).size (by simp [rep_len]) (by simp [maxLen]; omega)
    · exact (ps_one h.out hr.1 hr.2.2.2.2.1).2
  · refine (win_repeat_no d n ⟨h.out.1⟩ hd).mono fun e W' ⟨he, hw⟩ => ⟨.slice none 0 0, ?_, ?_, ?_, ?_⟩
    · rw [he, decide_eq_false hd]
    · unfold repQ; rw [if_neg hd]; exact ps_drop (ps_drawn h.out hw) (fun k hk => hk.elim id (fun e => by simp [Value.ownBlock] at e))
    · unfold repV; rw [if_neg hd]; exact xr_nil _ _
    · exact Kept.of_below hw.below _
theorem ps_qrep (d n : Int) (h : Aside0 (PS w W g gb gq N F q1 q2)) (hq : q2.length ≤ N) : Calls Try.prog 18 #[.pointer (some ⟨gq, 0, none⟩), .int .i64 d, .int .i64 n] W fun e W' => ∃ A c, e = .returned (.tuple #[.slice A (repV q2 d n).length c, .bool (decide (repC q2 d n))]) ∧ PS w W' g gb gq N F q1 (repQ N q2 d n) ∧ (repV q2 d n).length ≤ c ∧ (Kd.int .u8).C W' A (repV q2 d n).length (repV q2 d n) ∧ FK W W' F := by
  have hN := (win_gs h.out.1).2.2
  by_cases hd : repC q2 d n
  · have hd' := hd
    unfold repC at hd'
    obtain ⟨k, rfl⟩ : ∃ k : Nat, d = (k : Int) := ⟨d.toNat, by omega⟩
    obtain ⟨m, rfl⟩ : ∃ m : Nat, n = (m : Int) := ⟨n.toNat, by omega⟩
    have hh : RQ w W gq N (fun k => k ≠ g ∧ k ≠ gb ∧ ¬ F k) (lastN N q2) := by rw [lastN_id hq]; exact h.out.2.1
    refine (rq_repeat q2 k m ⟨hh⟩ (ps_fresh h.out) (by omega) (by omega) (by omega) hN).mono fun e W' ⟨vo, he, hr1, hr2, hr3⟩ => ?_
    obtain ⟨A, c, rfl, hc, hC⟩ := Kd.R_reads hr2
    obtain ⟨h1, h2⟩ := ps_two h.out (rq_mono hr1 (fun k hk => hk.1)) hr3
    have hv : repV q2 (k : Int) (m : Int) = rep q2 k m := by unfold repV; rw [if_pos hd]; rfl
    rw [hv]
    exact ⟨A, c, by rw [he, decide_eq_true hd], by unfold repQ; rw [if_pos hd]; exact h1, hc, hC, h2⟩
  · refine (rq_repeat_no d n ⟨h.out.2.1⟩ hd).mono fun e W' ⟨he, hw⟩ => ?_
    have hv : repV q2 d n = [] := by unfold repV; rw [if_neg hd]
    obtain ⟨A, c, h1, hc, hC⟩ := xr_slice (xr_nil w W')
    injection h1 with h1 h2 h3
    subst h1; subst h3
    rw [hv]
    exact ⟨none, 0, by rw [he, decide_eq_false hd]; rfl, by unfold repQ; rw [if_neg hd]; exact ps_drawn h.out hw, Nat.le_refl _, hC, Kept.of_below hw.below _⟩
theorem ps_tail (h : Aside0 (PS w W g gb gq N F q1 q2)) : Calls Try.prog 11 #[.pointer (some ⟨g, 0, none⟩)] W fun e W' => ∃ vx, e = .returned vx ∧ PS w W' g gb gq N (Fx F vx) q1 q2 ∧ XR w W' vx q1 ∧ Below W.heap.size W W' := by
  have hl := win_len_le h.out.1
  have hN := (win_gs h.out.1).2.2
  refine (win_tail ⟨h.out.1⟩).mono fun e W' ⟨he, hw, hb, hB⟩ => ⟨.slice (some ⟨W.heap.size, 0, none⟩) q1.length q1.length, he, ?_, xr_block hb (ps_base h.out).size rfl (by simp [maxLen]; omega), hB⟩
  refine ps_one' h.out hw (RK.below hB) (fun j hj => hj.imp_right (fun e => ?_))
  have : W.heap.size = j := by simpa [Value.ownBlock] using e
  subst this; exact ⟨Nat.le_refl _, blk_lt hb⟩
theorem ps_same {A0 A1 : Option Addr} {c0 c1 : Nat} (l : List Int) (hl : l.length < 140737488355328) (hr0 : (Kd.int .u8).C W A0 l.length l) (hc0 : l.length ≤ c0) (hr1 : (Kd.int .u8).C W A1 l.length l) (hc1 : l.length ≤ c1) : Calls Try.prog 10 #[.slice A0 l.length c0, .slice A1 l.length c1] W fun e W' => e = .returned (.bool true) ∧ Drawn0 W W' := by
  obtain ⟨k, hk⟩ := same_ok l hl
  exact winkleref03_Same.calls k A0 c0 l A1 c1 l true W hr0 hc0 hr1 hc1 hk
/-- what was answered is the asker's own. -/
theorem ps_spoil (a : Int) (h : Aside0 (PS w W g gb gq N (Fx F v) q1 q2)) (hx : XR w W v l) (hl : l.length < 140737488355328) : Calls Try.prog 19 #[v, .int .u8 a] W fun e W' => e = .returned (.tuple #[]) ∧ PS w W' g gb gq N F q1 q2 := by
  obtain ⟨k, hk⟩ := spoil_ok l a hl
  refine (winklelaw03_spoil.calls k _ v l a w W (ps_base h.out) hx hk).mono fun e W' ⟨he, hB, hK⟩ => ⟨he, ?_⟩
  obtain ⟨h1, h2, h3, h4⟩ := h.out
  have h5 := h4
  refine ⟨win_kept h1 hK (fun e => (h4 _ (.inr e)).2.2.1 rfl) (fun e => (h4 _ (.inr e)).2.2.2.1 rfl), rq_mono (rq_kept h2 hK (fun e => (h4 _ (.inr e)).2.2.2.2 rfl) (fun k hk e => hk.2.2 (.inr e)) hB) (fun k hk => ⟨hk.1, hk.2.1, fun e => hk.2.2 (.inl e)⟩), h3, fun k hk => ⟨(h4 k (.inl hk)).1, Nat.lt_of_lt_of_le (h4 k (.inl hk)).2.1 hK.1, (h4 k (.inl hk)).2.2⟩⟩
end
end Go.Proofs.Ytcpijkckjahfdaa.PAll
