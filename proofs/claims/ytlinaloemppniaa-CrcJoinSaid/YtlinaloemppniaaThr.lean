/- The document's rows of 32 numbers: the block that holds them, and a number taken through them. -/
import Derived.Test.YtlinaloemppniaaBv
import Derived.OneCell
namespace Go.Proofs.Ytlinaloemppniaa.PAll
open Go.RowKit Go.Proofs.Ytlinaloemppniaa.Crc Go.Proofs.Ytlinaloemppniaa.CrcMath Go.Proofs.YtlinaloemppniaaW.PrintWords Go.Proofs.YtlinaloemppniaaW.PrintLast Go.Proofs.YtlinaloemppniaaW.PrintMore
attribute [local go_sem] max2_int min2_int max_two min_two max_three min_three max_four min_four   -- for this text's walks alone
set_option linter.unusedVariables false
set_option linter.unusedSimpArgs false
/-- 32 numbers as a value's cells. -/
def rowA (F : Nat → B) : Array Value := ((List.range 32).map fun i => Value.int .u32 (I (F i))).toArray
theorem rowA_size (F : Nat → B) : (rowA F).size = 32 := by simp [rowA]
theorem rowA_get (F : Nat → B) {i : Nat} (h : i < 32) : (rowA F)[i]? = some (.int .u32 (I (F i))) := by
  unfold rowA
  rw [List.getElem?_toArray, List.getElem?_map, List.getElem?_range h]
  rfl
def upd (F : Nat → B) (i : Nat) (X : B) : Nat → B := fun j => if j = i then X else F j
theorem rowA_set (F : Nat → B) {i : Nat} (h : i < 32) (X : B) : (rowA F).setIfInBounds i (.int .u32 (I X)) = rowA (upd F i X) := by
  apply Array.ext_getElem?
  intro j
  rw [Array.getElem?_setIfInBounds]
  by_cases hj : j < 32
  · by_cases hij : i = j
    · subst hij; rw [if_pos rfl, if_pos (by rw [rowA_size]; omega), rowA_get _ hj, show upd F i X i = X from if_pos rfl]
    · rw [if_neg hij, rowA_get _ hj, rowA_get _ hj, show upd F i X j = F j from if_neg (Ne.symm hij)]
  · rw [Array.getElem?_eq_none (by rw [rowA_size]; omega), if_neg (by omega), Array.getElem?_eq_none (by rw [rowA_size]; omega)]
theorem rowA_congr {F G : Nat → B} (h : ∀ i, i < 32 → F i = G i) : rowA F = rowA G := by
  unfold rowA
  congr 1
  apply List.map_congr_left
  intro i hi
  rw [h i (List.mem_range.1 hi)]
/-- a block of 32 numbers. -/
def RA (W : World) (g : Nat) (F : Nat → B) : Prop := W.heap[g]? = some (.cells (rowA F) 27 (0, 0))
theorem ra_cell {W : World} {g : Nat} {F : Nat → B} (h : Aside0 (RA W g F)) {i : Nat} (hi : i < 32) : W.cell? ⟨g, i, none⟩ = some (.int .u32 (I (F i))) := (blk_cell h.out i).trans (rowA_get F hi)
theorem ra_frozen {W : World} {g : Nat} {F : Nat → B} (h : Aside0 (RA W g F)) (i : Nat) : W.frozen? ⟨g, i, none⟩ = false := blk_frozen h.out i
theorem ra_put {W : World} {g : Nat} {F : Nat → B} (h : RA W g F) {i : Nat} (hi : i < 32) (X : B) : RA (W.setCell ⟨g, i, none⟩ (.int .u32 (I X))) g (upd F i X) := by
  have := blk_put h i (.int .u32 (I X)) rfl
  rw [rowA_set F hi] at this
  exact this
theorem ra_drawn {W W' : World} {g : Nat} {F : Nat → B} (h : RA W g F) (hd : Drawn0 W W') : RA W' g F := by obtain ⟨n, rfl⟩ := hd; exact h
theorem ra_zero : (rowA fun _ => 0#32) = (Value.agg (rowA fun _ => 0#32)).cells := rfl
/-- a number taken through the rows, bits below n. -/
def thr (R : Nat → B) (x : B) : Nat → B
  | 0 => 0#32
  | n + 1 => if x.getLsbD n then thr R x n ^^^ R n else thr R x n
theorem bit1I (x : B) (n : Nat) : Go.bits .and .u32 (I (x >>> n)) 1 = 1 ↔ x.getLsbD n = true := by
  have h := lowI (x >>> n)
  have hb : (x >>> n).getLsbD 0 = x.getLsbD n := by rw [BitVec.getLsbD_ushiftRight]; simp
  rw [hb] at h
  have h2 : Go.bits .and .u32 (I (x >>> n)) 1 = I ((x >>> n) &&& 1#32) := by rw [oneI, andI]
  constructor
  · intro e
    cases hx : x.getLsbD n with
    | true => rfl
    | false => rw [h.2 hx] at e; exact absurd e (by decide)
  · intro hx
    rw [h2, oneI]
    congr 1
    apply BitVec.eq_of_getLsbD_eq
    intro i hi
    rw [BitVec.getLsbD_and, BitVec.getLsbD_one, BitVec.getLsbD_ushiftRight]
    by_cases h0 : i = 0
    · subst h0; simpa using hx
    · simp [h0]
set_option maxHeartbeats 8000000 in
set_option maxRecDepth 100000 in
theorem through_calls (R : Nat → B) (x : B) (w : World) : Calls Try.prog 9 #[.agg (rowA R), .int .u32 (I x)] w fun e w' => e = .returned (.int .u32 (I (thr R x 32))) ∧ Below w.heap.size w w' := by
  have HB := Aside0.mk (below_alloc (Below.refl w.heap.size w) (.cells (rowA R) 27))
  have HR0 : Aside0 (RA (w.alloc (.cells (rowA R) 27)) w.heap.size R) := ⟨heap_alloc_new w _⟩
  go_enter Try.func9, Try.ntmps9
  go_wp2
  go_loopg [5, 6] 33 (fun kq v5 v6 w' => ∃ (k : Nat), v5 = .int .u32 (I (thr R x k)) ∧ v6 = .int .i64 (k : Int) ∧ k + kq = 33 ∧ k ≤ 32 ∧ Aside0 (RA w' w.heap.size R) ∧ Aside0 (Below w.heap.size w w'))
  case atStart => exact ⟨0, rfl, rfl, by omega, by omega, HR0, HB⟩
  case round =>
    clear HR0 HB
    obtain ⟨k, rfl, rfl, hk, hk2, HR, HB⟩ := hrel
    cases gk with
    | zero => exact absurd hk (by omega)
    | succ k1 =>
    by_cases hp : k < 32
    · have hb : decide ((k : Int) < 32) = true := decide_eq_true (by omega)
      have hc := ra_cell HR hp
      have hs := shrI x k
      by_cases hx : x.getLsbD k = true
      · have h1 : (Go.bits .and .u32 (I (x >>> k)) 1 == 1) = true := beq_iff_eq.2 ((bit1I x k).2 hx)
        have hx2 := xorI (thr R x k) (R k)
        have hx3 : thr R x (k + 1) = thr R x k ^^^ R k := if_pos hx
        go_wp2
        go_roundg k1
        case measure => omega
        case rel => exact ⟨k + 1, by first | rfl | (rw [hx3]), by first | rfl | (congr 1; omega), by omega, by omega, HR, HB⟩
      · have h1 : (Go.bits .and .u32 (I (x >>> k)) 1 == 1) = false := beq_eq_false_iff_ne.2 (fun e => hx ((bit1I x k).1 e))
        have hx3 : thr R x (k + 1) = thr R x k := if_neg hx
        go_wp2
        go_roundg k1
        case measure => omega
        case rel => exact ⟨k + 1, by first | rfl | (rw [hx3]), by first | rfl | (congr 1; omega), by omega, by omega, HR, HB⟩
    · obtain rfl : k = 32 := by omega
      go_wp2
      go_ret
      exact ⟨rfl, HB.out⟩
theorem mask_succ (x : B) (n : Nat) (hn : n < 32) : x &&& BitVec.ofNat 32 (2 ^ (n + 1) - 1) = (x &&& BitVec.ofNat 32 (2 ^ n - 1)) ^^^ (if x.getLsbD n then 1#32 <<< n else 0#32) := by
  apply BitVec.eq_of_getLsbD_eq
  intro i hi
  simp only [BitVec.getLsbD_xor, BitVec.getLsbD_and, BitVec.getLsbD_ofNat, hi, decide_true, Bool.true_and, Nat.testBit_two_pow_sub_one]
  by_cases hik : i = n
  · subst hik
    cases h : x.getLsbD i <;> simp [hi]
  · have h1 : (1#32 <<< n).getLsbD i = false := by
      rw [BitVec.getLsbD_shiftLeft]
      simp [BitVec.getLsbD_one]
      omega
    have h2 : decide (i < n) = decide (i < n + 1) := by simp; omega
    rw [h2]
    cases h : x.getLsbD n <;> simp [h1]
theorem thr_mask (m : Nat) (R : Nat → B) (h : ∀ i, i < 32 → R i = mvn m (1#32 <<< i)) (x : B) (n : Nat) (hn : n ≤ 32) : thr R x n = mvn m (x &&& BitVec.ofNat 32 (2 ^ n - 1)) := by
  induction n with
  | zero => simp [thr, mvn_zero]
  | succ n ih =>
    rw [mask_succ x n (by omega), mvn_xor, ← ih (by omega), thr, h n (by omega)]
    cases x.getLsbD n <;> simp [mvn_zero]
theorem thr_all (m : Nat) (R : Nat → B) (h : ∀ i, i < 32 → R i = mvn m (1#32 <<< i)) (x : B) : thr R x 32 = mvn m x := by
  rw [thr_mask m R h x 32 (by omega), show BitVec.ofNat 32 (2 ^ 32 - 1) = BitVec.allOnes 32 by decide, BitVec.and_allOnes]
end Go.Proofs.Ytlinaloemppniaa.PAll
