/- Both windows side by side: with the act's box; with a list and the document's bytes. -/
import Derived.Test.YtcpijkckjahfdaaPT
import Derived.Test.YtcpijkckjahfdaaActs
namespace Go.Proofs.Ytcpijkckjahfdaa.PAll
open Go.RowKit Go.Proofs.YtcpijkckjahfdaaW.PrintWords Go.Proofs.YtcpijkckjahfdaaW.PrintLast Go.Proofs.YtcpijkckjahfdaaW.PrintMore
set_option linter.unusedVariables false
set_option linter.unusedSimpArgs false
def NoF : Nat → Prop := fun _ => False
def Just (gA : Nat) : Nat → Prop := fun k => k = gA
def PA (w W : World) (g gb gq N : Nat) (F : Nat → Prop) (q1 q2 : List Int) (gA : Nat) (x0 x1 x2 x3 : Int) : Prop :=
  PS w W g gb gq N F q1 q2 ∧ F gA ∧ W.heap[gA]? = some (.cells #[.int .u8 x0, .int .u8 x1, .int .i64 x2, .int .i64 x3] 45 (0, 0))
section
variable {w W W' : World} {g gb gq N gA : Nat} {F F' : Nat → Prop} {q q1 q2 q1' q2' l : List Int} {v : Value} {x0 x1 x2 x3 : Int}
theorem ps_new {w W W' : World} {g gb gq N : Nat} (h1 : Win W g gb N []) (hb : Below w.heap.size w W) (hg : w.heap.size ≤ g) (hgb : w.heap.size ≤ gb) (hq : RQ w W' W.heap.size N (fun k => k ≠ g ∧ k ≠ gb ∧ ¬ NoF k) []) (hB : Below W.heap.size W W') : PS w W' g gb W.heap.size N NoF [] [] := by
  have := win_gs h1
  exact ⟨win_below h1 hB, hq, ⟨hg, hgb, by omega, by omega⟩, fun k hk => hk.elim⟩
theorem pa_start (h : Aside0 (PS w W g gb gq N NoF q1 q2)) (x0 x1 x2 x3 : Int) : Aside0 (PA w (W.alloc (.cells #[.int .u8 x0, .int .u8 x1, .int .i64 x2, .int .i64 x3] 45)) g gb gq N (Just W.heap.size) q1 q2 W.heap.size x0 x1 x2 x3) := by
  have hb := below_alloc (Below.refl W.heap.size W) (.cells #[.int .u8 x0, .int .u8 x1, .int .i64 x2, .int .i64 x3] 45)
  exact ⟨ps_drop (ps_more h.out hb (Nat.le_refl _) (by simp)) (fun k hk => .inr hk), rfl, heap_alloc_new W _⟩
theorem pa_step (h : Aside0 (PA w W g gb gq N F q1 q2 gA x0 x1 x2 x3)) (hs : PS w W' g gb gq N F' q1' q2') (hF : F' gA) (hk : FK W W' F) : Aside0 (PA w W' g gb gq N F' q1' q2' gA x0 x1 x2 x3) :=
  ⟨⟨hs, hF, blk_kept h.out.2.2 hk (fun hn => hn h.out.2.1)⟩⟩
theorem pa_drawn (h : Aside0 (PA w W g gb gq N F q1 q2 gA x0 x1 x2 x3)) (hs : PS w W' g gb gq N F q1' q2') (hd : Drawn0 W W') : Aside0 (PA w W' g gb gq N F q1' q2' gA x0 x1 x2 x3) :=
  ⟨⟨hs, h.out.2.1, Own.below_blk h.out.2.2 hd.below⟩⟩
theorem pa_ps (h : Aside0 (PA w W g gb gq N F q1 q2 gA x0 x1 x2 x3)) : Aside0 (PS w W g gb gq N F q1 q2) := ⟨h.out.1⟩
theorem pa_no (h : Aside0 (PA w W g gb gq N F q1 q2 gA x0 x1 x2 x3)) : Aside0 (PS w W g gb gq N NoF q1 q2) := ⟨ps_drop h.out.1 (fun k hk => hk.elim)⟩
theorem ps_no (h : PS w W g gb gq N F q1 q2) : PS w W g gb gq N NoF q1 q2 := ps_drop h (fun k hk => hk.elim)
theorem pa_c0 (h : Aside0 (PA w W g gb gq N F q1 q2 gA x0 x1 x2 x3)) : W.cell? ⟨gA, 0, none⟩ = some (.int .u8 x0) := blk_c h.out.2.2 rfl
theorem pa_c1 (h : Aside0 (PA w W g gb gq N F q1 q2 gA x0 x1 x2 x3)) : W.cell? ⟨gA, 1, none⟩ = some (.int .u8 x1) := blk_c h.out.2.2 rfl
theorem pa_c2 (h : Aside0 (PA w W g gb gq N F q1 q2 gA x0 x1 x2 x3)) : W.cell? ⟨gA, 2, none⟩ = some (.int .i64 x2) := blk_c h.out.2.2 rfl
theorem pa_c3 (h : Aside0 (PA w W g gb gq N F q1 q2 gA x0 x1 x2 x3)) : W.cell? ⟨gA, 3, none⟩ = some (.int .i64 x3) := blk_c h.out.2.2 rfl
theorem kinds4 (y : Int) (h : y = 0 ∨ y = 1 ∨ y = 2 ∨ y = 3) : (y == 0) = true ∨ ((y == 0) = false ∧ (y == 1) = true) ∨ ((y == 0) = false ∧ (y == 1) = false ∧ (y == 2) = true) ∨ ((y == 0) = false ∧ (y == 1) = false ∧ (y == 2) = false) := by
  rcases h with rfl | rfl | rfl | rfl <;> decide
/-- the document's bytes, as they lie. -/
def PB (w W : World) (g gb gq N : Nat) (F : Nat → Prop) (q : List Int) (A : Option Addr) (c : Nat) : Prop :=
  PS w W g gb gq N F q q ∧ W.cell? ⟨gq, 1, none⟩ = some (.slice A q.length c) ∧ q.length ≤ c ∧ (Kd.int .u8).C W A q.length q
theorem pb_open (h : PS w W g gb gq N F q q) : ∃ A c, PB w W g gb gq N F q A c := by
  obtain ⟨A, c, _, h1, h2, h3, _⟩ := rq_cells h.2.1
  exact ⟨A, c, h, h1, h2, h3⟩
theorem pb_below {A : Option Addr} {c : Nat} (h : PB w W g gb gq N F q A c) (hs : PS w W' g gb gq N F' q q) (hb : Below W.heap.size W W') : PB w W' g gb gq N F' q A c :=
  ⟨hs, pw_cell_below hb h.2.1, h.2.2.1, Kd.C_below h.2.2.2 hb⟩
/-- and a list. -/
def PQ (w W : World) (g gb gq N : Nat) (F : Nat → Prop) (q : List Int) (A : Option Addr) (c : Nat) (v : Value) : Prop := PB w W g gb gq N (Fx F v) q A c ∧ XR w W v q
theorem pq_drawn {A : Option Addr} {c : Nat} (h : PQ w W g gb gq N F q A c v) (hd : Drawn0 W W') : PQ w W' g gb gq N F q A c v := ⟨pb_below h.1 (ps_drawn h.1.1 hd) hd.below, xr_drawn h.2 hd⟩
theorem pq_drew {A : Option Addr} {c : Nat} (h : Aside0 (PQ w W g gb gq N F q A c v)) : Aside0 (PQ w W.drew g gb gq N F q A c v) := ⟨pq_drawn h.out (Drawn0.step (Drawn0.refl W) 1)⟩
theorem pq_c {A : Option Addr} {c : Nat} (h : Aside0 (PQ w W g gb gq N F q A c v)) : W.cell? ⟨gq, 1, none⟩ = some (.slice A q.length c) := h.out.1.2.1
theorem pb_c {A : Option Addr} {c : Nat} (h : Aside0 (PB w W g gb gq N F q A c)) : W.cell? ⟨gq, 1, none⟩ = some (.slice A q.length c) := h.out.2.1
theorem pb_drew {A : Option Addr} {c : Nat} (h : Aside0 (PB w W g gb gq N F q A c)) : Aside0 (PB w W.drew g gb gq N F q A c) := ⟨pb_below h.out (ps_drawn h.out.1 (Drawn0.step (Drawn0.refl W) 1)) (Drawn0.step (Drawn0.refl W) 1).below⟩
theorem pb_tail {A : Option Addr} {c : Nat} (h : Aside0 (PB w W g gb gq N F q A c)) : Calls Try.prog 11 #[.pointer (some ⟨g, 0, none⟩)] W fun e W' => ∃ At ct, e = .returned (.slice At q.length ct) ∧ PQ w W' g gb gq N F q A c (.slice At q.length ct) :=
  (ps_tail ⟨h.out.1⟩).mono fun e W' ⟨vx, he, hs, hx, hb⟩ => by
    obtain ⟨At, ct, rfl, _, _⟩ := xr_slice hx
    exact ⟨At, ct, he, pb_below h.out hs hb, hx⟩
theorem pq_len_lt {A : Option Addr} {c : Nat} (h : PB w W g gb gq N F q A c) : q.length < 140737488355328 := by
  have h1 := win_len_le h.1.1; have h2 := (win_gs h.1.1).2.2; omega
theorem pq_same {A At : Option Addr} {c ct : Nat} (h : Aside0 (PQ w W g gb gq N F q A c (.slice At q.length ct))) : Calls Try.prog 10 #[.slice At q.length ct, .slice A q.length c] W fun e W' => e = .returned (.bool true) ∧ PQ w W' g gb gq N F q A c (.slice At q.length ct) := by
  obtain ⟨A2, c2, he, h1, h2⟩ := xr_slice h.out.2
  injection he with e1 e2 e3
  subst e1; subst e3
  exact (ps_same q (pq_len_lt h.out.1) h2 h1 h.out.1.2.2.2 h.out.1.2.2.1).mono fun e W' ⟨he, hd⟩ => ⟨he, pq_drawn h.out hd⟩
theorem pq_len {A : Option Addr} {c : Nat} (h : Aside0 (PQ w W g gb gq N F q A c v)) : Calls Try.prog 12 #[.pointer (some ⟨g, 0, none⟩)] W fun e W' => e = .returned (.int .i64 (q.length : Int)) ∧ PQ w W' g gb gq N F q A c v :=
  (ps_len ⟨h.out.1.1⟩).mono fun e W' ⟨he, hs, hd⟩ => ⟨he, pq_drawn h.out hd⟩
theorem pq_size {A : Option Addr} {c : Nat} (h : Aside0 (PQ w W g gb gq N F q A c v)) : Calls Try.prog 21 #[.pointer (some ⟨g, 0, none⟩)] W fun e W' => e = .returned (.int .i64 (N : Int)) ∧ PQ w W' g gb gq N F q A c v :=
  (ps_size ⟨h.out.1.1⟩).mono fun e W' ⟨he, hs, hd⟩ => ⟨he, pq_drawn h.out hd⟩
theorem pq_spoil {A : Option Addr} {c : Nat} (a : Int) (h : Aside0 (PQ w W g gb gq N F q A c v)) : Calls Try.prog 19 #[v, .int .u8 a] W fun e W' => e = .returned (.tuple #[]) ∧ PS w W' g gb gq N F q q :=
  ps_spoil a ⟨h.out.1.1⟩ h.out.2 (pq_len_lt h.out.1)
end
end Go.Proofs.Ytcpijkckjahfdaa.PAll
