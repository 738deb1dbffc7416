/- A bit reader told by a natural number and how many bits it has: what its methods answer, and their contracts. -/
import Derived.Test.YteamaaiicjjidaaPAllx1
import Derived.Test.YteamaaiicjjidaaPAllx2
namespace Go.Proofs.Yteamaaiicjjidaa.PAll
open Go.RowKit Go.Proofs.YteamaaiicjjidaaW.PrintWords Go.Proofs.YteamaaiicjjidaaW.PrintLast Go.Proofs.YteamaaiicjjidaaW.PrintMore
set_option linter.unusedVariables false
theorem cast_pow (n : Nat) : ((2 ^ n : Nat) : Int) = (2 : Int) ^ n := by simp
theorem pow_le64 {n : Nat} (h : n ≤ 64) : 2 ^ n ≤ 18446744073709551616 := by
  have : (2 : Nat) ^ n ≤ 2 ^ 64 := Nat.pow_le_pow_right (by omega) h
  have e2 : (2 : Nat) ^ 64 = 18446744073709551616 := by decide
  omega
theorem put_f (H n : Nat) (b : Int) (hH : H < 2 ^ n) (hn : n ≤ 56) (h0 : 0 ≤ b) (h1 : b ≤ 255) : bits_Reader_Put.f (H : Int) (n : Int) b = some (true, ((H + b.toNat * 2 ^ n : Nat) : Int), ((n + 8 : Nat) : Int)) := by
  unfold bits_Reader_Put.f
  have e := cast_pow n
  rw [if_neg (by omega), if_pos ⟨h0, h1, by omega, by omega, by rw [Int.toNat_natCast, ← e]; omega⟩, Int.toNat_natCast]
  have : b = (b.toNat : Int) := by omega
  rw [Int.natCast_add, Int.natCast_mul, e, ← this]; rfl
theorem put_no (H n : Nat) (b : Int) (hn : 56 < n) : bits_Reader_Put.f (H : Int) (n : Int) b = some (false, (H : Int), (n : Int)) := by
  unfold bits_Reader_Put.f
  rw [if_pos (by omega)]
theorem peek_f (H n k : Nat) (hH : H < 2 ^ n) (hn : n ≤ 64) (hk : k ≤ n) (h32 : k ≤ 32) : bits_Reader_Peek.f (H : Int) (n : Int) (k : Int) = some (((H % 2 ^ k : Nat) : Int), true, (H : Int), (n : Int)) := by
  unfold bits_Reader_Peek.f
  have := pow_le64 hn
  rw [if_neg (by omega), if_pos (by omega), Int.toNat_natCast, Int.natCast_emod, cast_pow]
theorem peek_no (H n : Nat) (k : Int) (h : k < 0 ∨ k > 32 ∨ k > n) : bits_Reader_Peek.f (H : Int) (n : Int) k = some (0, false, (H : Int), (n : Int)) := by
  unfold bits_Reader_Peek.f
  rw [if_pos h]
theorem drop_f (H n k : Nat) (hk : k ≤ n) (hn : n ≤ 64) : bits_Reader_drop.f (H : Int) (n : Int) (k : Int) = some (((H / 2 ^ k : Nat) : Int), ((n - k : Nat) : Int)) := by
  unfold bits_Reader_drop.f shr
  rw [if_pos (by omega)]
  have e : min (k : Int).toNat IntKind.u64.bits = k := by show min (k : Int).toNat 64 = k; omega
  rw [e, Int.natCast_ediv, cast_pow, w64 _ (by omega) (by omega)]
  congr 2; omega
theorem take_f (H n k : Nat) (hH : H < 2 ^ n) (hn : n ≤ 64) (hk : k ≤ n) (h32 : k ≤ 32) : bits_Reader_Take.f (H : Int) (n : Int) (k : Int) = some (((H % 2 ^ k : Nat) : Int), true, ((H / 2 ^ k : Nat) : Int), ((n - k : Nat) : Int)) := by
  unfold bits_Reader_Take.f
  rw [peek_f H n k hH hn hk h32]
  simp only [Option.bind_some, if_true]
  rw [w64 (k : Int) (by omega) (by omega), drop_f H n k hk hn]
  rfl
theorem take_no (H n : Nat) (k : Int) (h : k < 0 ∨ k > 32 ∨ k > n) : bits_Reader_Take.f (H : Int) (n : Int) k = some (0, false, (H : Int), (n : Int)) := by
  unfold bits_Reader_Take.f
  rw [peek_no H n k h]
  simp
theorem wrap64_nat (n : Nat) (h : n ≤ 64) : wrap64 (n : Int) = (n : Int) := by unfold wrap64; omega
theorem held_f (H n : Nat) (hn : n ≤ 64) : bits_Reader_Held.f (H : Int) (n : Int) = some ((n : Int), (H : Int), (n : Int)) := by
  unfold bits_Reader_Held.f
  rw [wrap64_nat n hn]
theorem lt_put {H n b : Nat} (hH : H < 2 ^ n) (hb : b < 256) : H + b * 2 ^ n < 2 ^ (n + 8) := by
  rw [Nat.pow_add]
  have : b * 2 ^ n ≤ 255 * 2 ^ n := Nat.mul_le_mul_right _ (by omega)
  have e : (2 : Nat) ^ 8 = 256 := by decide
  omega
theorem lt_drop {H n k : Nat} (hH : H < 2 ^ n) (hk : k ≤ n) : H / 2 ^ k < 2 ^ (n - k) := by
  have : 2 ^ n = 2 ^ (n - k) * 2 ^ k := by rw [← Nat.pow_add]; congr 1; omega
  exact Nat.div_lt_of_lt_mul (by rw [Nat.mul_comm, ← this]; exact hH)
def Rdr (w W : World) (g H n : Nat) : Prop := IsS69 w W g (H : Int) (n : Int) ∧ Below w.heap.size w W ∧ H < 2 ^ n ∧ n ≤ 64
theorem rdr_new (w W : World) (hB : Aside0 (Below w.heap.size w W)) : Calls Try.prog 16 #[] W fun e W' => ∃ g : Nat, e = .returned (.pointer (some ⟨g, 0, none⟩)) ∧ Rdr w W' g 0 0 ∧ Below W.heap.size W W' ∧ W.heap.size ≤ g := by
  refine (bits_New.calls 0 0 W W (Below.refl _ _) rfl).mono ?_
  rintro e W' ⟨g, he, hI, hB1, hB2⟩
  exact ⟨g, he, ⟨⟨hI.1, Nat.le_trans hB.out.size hI.2⟩, below_then hB.out hB.out.size hB2, by decide, by omega⟩, hB2, hI.2⟩
theorem rdr_put {w W : World} {g H n : Nat} (b : Int) (h : Aside0 (Rdr w W g H n)) (hn : Aside0 (n ≤ 56 ∧ 0 ≤ b ∧ b ≤ 255)) :
    Calls Try.prog 20 #[.pointer (some ⟨g, 0, none⟩), .int .u8 b] W fun e W' => e = .returned (.bool true) ∧ Rdr w W' g (H + b.toNat * 2 ^ n) (n + 8) ∧ KeepBut W W' g none := by
  obtain ⟨hI, hB, hH, h64⟩ := h.out
  obtain ⟨h56, h0, h1⟩ := hn.out
  refine (bits_Reader_Put.calls g _ _ b _ _ _ w W hI hB (put_f H n b hH h56 h0 h1)).mono ?_
  rintro e W' ⟨he, hI', hB', hk⟩
  exact ⟨he, ⟨hI', hB', lt_put hH (by omega), by omega⟩, hk⟩
theorem rdr_put_no {w W : World} {g H n : Nat} (b : Int) (h : Aside0 (Rdr w W g H n)) (hn : Aside0 (56 < n)) :
    Calls Try.prog 20 #[.pointer (some ⟨g, 0, none⟩), .int .u8 b] W fun e W' => e = .returned (.bool false) ∧ Rdr w W' g H n ∧ KeepBut W W' g none := by
  obtain ⟨hI, hB, hH, h64⟩ := h.out
  refine (bits_Reader_Put.calls g _ _ b _ _ _ w W hI hB (put_no H n b hn.out)).mono ?_
  rintro e W' ⟨he, hI', hB', hk⟩
  exact ⟨he, ⟨hI', hB', hH, h64⟩, hk⟩
theorem rdr_take {w W : World} {g H n : Nat} (k : Nat) (h : Aside0 (Rdr w W g H n)) (hk : Aside0 (k ≤ n ∧ k ≤ 32)) :
    Calls Try.prog 24 #[.pointer (some ⟨g, 0, none⟩), .int .i64 (k : Int)] W fun e W' => e = .returned (.tuple #[.int .u32 ((H % 2 ^ k : Nat) : Int), .bool true]) ∧ Rdr w W' g (H / 2 ^ k) (n - k) ∧ KeepBut W W' g none := by
  obtain ⟨hI, hB, hH, h64⟩ := h.out
  refine (bits_Reader_Take.calls g _ _ (k : Int) _ _ _ _ w W hI hB (take_f H n k hH h64 hk.out.1 hk.out.2)).mono ?_
  rintro e W' ⟨he, hI', hB', hk'⟩
  exact ⟨he, ⟨hI', hB', lt_drop hH hk.out.1, by omega⟩, hk'⟩
theorem rdr_take_no {w W : World} {g H n : Nat} (k : Int) (h : Aside0 (Rdr w W g H n)) (hk : Aside0 (k < 0 ∨ k > 32 ∨ k > n)) :
    Calls Try.prog 24 #[.pointer (some ⟨g, 0, none⟩), .int .i64 k] W fun e W' => e = .returned (.tuple #[.int .u32 0, .bool false]) ∧ Rdr w W' g H n ∧ KeepBut W W' g none := by
  obtain ⟨hI, hB, hH, h64⟩ := h.out
  refine (bits_Reader_Take.calls g _ _ k _ _ _ _ w W hI hB (take_no H n k hk.out)).mono ?_
  rintro e W' ⟨he, hI', hB', hk'⟩
  exact ⟨he, ⟨hI', hB', hH, h64⟩, hk'⟩
theorem rdr_peek {w W : World} {g H n : Nat} (k : Nat) (h : Aside0 (Rdr w W g H n)) (hk : Aside0 (k ≤ n ∧ k ≤ 32)) :
    Calls Try.prog 23 #[.pointer (some ⟨g, 0, none⟩), .int .i64 (k : Int)] W fun e W' => e = .returned (.tuple #[.int .u32 ((H % 2 ^ k : Nat) : Int), .bool true]) ∧ Rdr w W' g H n ∧ KeepBut W W' g none := by
  obtain ⟨hI, hB, hH, h64⟩ := h.out
  refine (bits_Reader_Peek.calls g _ _ (k : Int) _ _ _ _ w W hI hB (peek_f H n k hH h64 hk.out.1 hk.out.2)).mono ?_
  rintro e W' ⟨he, hI', hB', hk'⟩
  exact ⟨he, ⟨hI', hB', hH, h64⟩, hk'⟩
theorem rdr_peek_no {w W : World} {g H n : Nat} (k : Int) (h : Aside0 (Rdr w W g H n)) (hk : Aside0 (k < 0 ∨ k > 32 ∨ k > n)) :
    Calls Try.prog 23 #[.pointer (some ⟨g, 0, none⟩), .int .i64 k] W fun e W' => e = .returned (.tuple #[.int .u32 0, .bool false]) ∧ Rdr w W' g H n ∧ KeepBut W W' g none := by
  obtain ⟨hI, hB, hH, h64⟩ := h.out
  refine (bits_Reader_Peek.calls g _ _ k _ _ _ _ w W hI hB (peek_no H n k hk.out)).mono ?_
  rintro e W' ⟨he, hI', hB', hk'⟩
  exact ⟨he, ⟨hI', hB', hH, h64⟩, hk'⟩
theorem rdr_held {w W : World} {g H n : Nat} (h : Aside0 (Rdr w W g H n)) :
    Calls Try.prog 19 #[.pointer (some ⟨g, 0, none⟩)] W fun e W' => e = .returned (.int .i64 (n : Int)) ∧ Rdr w W' g H n ∧ KeepBut W W' g none := by
  obtain ⟨hI, hB, hH, h64⟩ := h.out
  refine (bits_Reader_Held.calls g _ _ _ _ _ w W hI hB (held_f H n h64)).mono ?_
  rintro e W' ⟨he, hI', hB', hk'⟩
  exact ⟨he, ⟨hI', hB', hH, h64⟩, hk'⟩
theorem rdr_drew {w W : World} {g H n : Nat} (h : Aside0 (Rdr w W g H n)) : Aside0 (Rdr w W.drew g H n) := ⟨h.out.1.drew, below_drew h.out.2.1, h.out.2.2⟩
theorem rdr_keep {w W W' : World} {g g' H n : Nat} (h : Rdr w W g H n) (hk : KeepBut W W' g' none) (hne : g ≠ g') (hB : Below w.heap.size w W') : Rdr w W' g H n :=
  ⟨⟨hk.blk h.1.1 hne (by simp), h.1.2⟩, hB, h.2.2⟩
end Go.Proofs.Yteamaaiicjjidaa.PAll
