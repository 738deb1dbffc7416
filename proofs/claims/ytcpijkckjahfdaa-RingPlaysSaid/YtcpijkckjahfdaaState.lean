/- A window: a struct's block and its bytes' block, as the program keeps them. -/
import Derived.Test.YtcpijkckjahfdaaPAllx1
import Derived.Test.YtcpijkckjahfdaaOwn
namespace Go.Proofs.Ytcpijkckjahfdaa.PAll
open Go.RowKit Go.Proofs.YtcpijkckjahfdaaW.PrintWords Go.Proofs.YtcpijkckjahfdaaW.PrintLast Go.Proofs.YtcpijkckjahfdaaW.PrintMore
set_option linter.unusedVariables false
set_option linter.unusedSimpArgs false
abbrev bytesA (bs : List Int) : Array Value := (nums .u8 bs).toArray
/-- a ring in memory: N places, the next byte goes to place p, n bytes are there. -/
def RB (W : World) (g gb N p n : Nat) (bs : List Int) : Prop :=
  W.heap[g]? = some (.cells #[.slice (some ⟨gb, 0, none⟩) N N, .int .i64 (p : Int), .int .i64 (n : Int)] 52 (0, 0)) ∧ W.heap[gb]? = some (.cells (bytesA bs) 5 (0, 0)) ∧ bs.length = N ∧ g ≠ gb
section
variable {W W' : World} {g gb N p n : Nat} {bs : List Int}
theorem rb_c0 (h : Aside0 (RB W g gb N p n bs)) : W.cell? ⟨g, 0, none⟩ = some (.slice (some ⟨gb, 0, none⟩) N N) := (blk_cell h.out.1 0).trans rfl
theorem rb_c1 (h : Aside0 (RB W g gb N p n bs)) : W.cell? ⟨g, 1, none⟩ = some (.int .i64 (p : Int)) := (blk_cell h.out.1 1).trans rfl
theorem rb_c2 (h : Aside0 (RB W g gb N p n bs)) : W.cell? ⟨g, 2, none⟩ = some (.int .i64 (n : Int)) := (blk_cell h.out.1 2).trans rfl
theorem rb_f (h : Aside0 (RB W g gb N p n bs)) (i : Nat) : W.frozen? ⟨g, i, none⟩ = false := blk_frozen h.out.1 i
theorem rb_fb (h : Aside0 (RB W g gb N p n bs)) (i : Nat) : W.frozen? ⟨gb, i, none⟩ = false := blk_frozen h.out.2.1 i
theorem rb_cb (h : Aside0 (RB W g gb N p n bs)) {i : Nat} (hi : i < N) : W.cell? ⟨gb, i, none⟩ = some (.int .u8 (bs.getD i 0)) := by
  rw [blk_cell h.out.2.1 i]
  have hl : i < bs.length := by rw [h.out.2.2.1]; exact hi
  simp [bytesA, nums, hl, List.getD]
theorem rb_drew (h : RB W g gb N p n bs) : RB W.drew g gb N p n bs := h
theorem rb_below (h : RB W g gb N p n bs) (hb : Below W.heap.size W W') : RB W' g gb N p n bs := ⟨(hb.block g (blk_lt h.1)).trans h.1, (hb.block gb (blk_lt h.2.1)).trans h.2.1, h.2.2⟩
theorem rb_setb (h : RB W g gb N p n bs) (i : Nat) (x : Int) : RB (W.setCell ⟨gb, i, none⟩ (.int .u8 x)) g gb N p n (bs.set i x) := by
  refine ⟨blk_far h.1 (by exact h.2.2.2) _, ?_, by rw [List.length_set]; exact h.2.2.1, h.2.2.2⟩
  have := blk_set h.2.1 i (.int .u8 x)
  rw [this]
  congr 2
  simp [bytesA, nums, List.map_set]
theorem rb_set1 (h : RB W g gb N p n bs) (q : Nat) : RB (W.setCell ⟨g, 1, none⟩ (.int .i64 (q : Int))) g gb N q n bs :=
  ⟨blk_put h.1 1 _ rfl, blk_far h.2.1 (by exact h.2.2.2.symm) _, h.2.2⟩
theorem rb_set2 (h : RB W g gb N p n bs) (q : Nat) : RB (W.setCell ⟨g, 2, none⟩ (.int .i64 (q : Int))) g gb N p q bs :=
  ⟨blk_put h.1 2 _ rfl, blk_far h.2.1 (by exact h.2.2.2.symm) _, h.2.2⟩
end
/-- what a method of a ring leaves as it was: all but the ring's own two blocks. -/
def RK (W W' : World) (g gb : Nat) : Prop := W.heap.size ≤ W'.heap.size ∧ (∀ w : World, Below w.heap.size w W → w.heap.size ≤ g → w.heap.size ≤ gb → Below w.heap.size w W') ∧ ∀ k o, W.heap[k]? = some o → k ≠ g → k ≠ gb → W'.heap[k]? = some o
theorem RK.refl (W : World) (g gb : Nat) : RK W W g gb := ⟨Nat.le_refl _, fun _ h _ _ => h, fun _ _ h _ _ => h⟩
theorem RK.drew {W W' : World} {g gb : Nat} (h : RK W W' g gb) : RK W W'.drew g gb := ⟨h.1, fun w hb h1 h2 => below_drew (h.2.1 w hb h1 h2), h.2.2⟩
theorem RK.set {W W' : World} {g gb : Nat} (h : RK W W' g gb) {k : Nat} (hk : k = g ∨ k = gb) (i : Nat) (u : Value) : RK W (W'.setCell ⟨k, i, none⟩ u) g gb :=
  ⟨by simpa using h.1, fun w hb h1 h2 => (h.2.1 w hb h1 h2).setCell (by show w.heap.size ≤ k; rcases hk with rfl | rfl <;> assumption) _, fun j o hj h1 h2 => by
    rw [Below.heap_setCell W' ⟨k, i, none⟩ u j (by show j ≠ k; rcases hk with rfl | rfl <;> assumption)]; exact h.2.2 j o hj h1 h2⟩
theorem RK.trans {W W1 W2 : World} {g gb : Nat} (h : RK W W1 g gb) (k : RK W1 W2 g gb) : RK W W2 g gb := ⟨Nat.le_trans h.1 k.1, fun w hb h1 h2 => k.2.1 w (h.2.1 w hb h1 h2) h1 h2, fun j o hj h1 h2 => k.2.2 j o (h.2.2 j o hj h1 h2) h1 h2⟩
theorem RK.below {W W' : World} {g gb : Nat} (h : Below W.heap.size W W') : RK W W' g gb := ⟨h.size, fun w hb _ _ => below_step hb h, fun j o hj _ _ => (h.block j (blk_lt hj)).trans hj⟩
theorem rb_keep {W W' : World} {g gb g' gb' N p n : Nat} {bs : List Int} (h : RB W g gb N p n bs) (hk : RK W W' g' gb') (h1 : g ≠ g') (h2 : g ≠ gb') (h3 : gb ≠ g') (h4 : gb ≠ gb') : RB W' g gb N p n bs := ⟨hk.2.2 g _ h.1 h1 h2, hk.2.2 gb _ h.2.1 h3 h4, h.2.2⟩
end Go.Proofs.Ytcpijkckjahfdaa.PAll
