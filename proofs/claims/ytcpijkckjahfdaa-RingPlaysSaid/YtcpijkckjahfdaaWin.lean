/- The window as a list of bytes: what each method makes of it. -/
import Derived.Test.YtcpijkckjahfdaaPut
import Derived.Test.YtcpijkckjahfdaaTail
namespace Go.Proofs.Ytcpijkckjahfdaa.PAll
open Go.RowKit Go.Proofs.YtcpijkckjahfdaaW.PrintWords Go.Proofs.YtcpijkckjahfdaaW.PrintLast Go.Proofs.YtcpijkckjahfdaaW.PrintMore
set_option linter.unusedVariables false
set_option linter.unusedSimpArgs false
/-- what is there, in order. -/
def content (N p n : Nat) (bs : List Int) : List Int := if n < N then bs.take n else bs.drop p ++ bs.take p
/-- a window of size N that holds q. -/
def Win (W : World) (g gb N : Nat) (q : List Int) : Prop := ∃ p n bs, RB W g gb N p n bs ∧ p < N ∧ n ≤ N ∧ N ≤ 32768 ∧ (n < N → p = n) ∧ q = content N p n bs
theorem content_len {N p n : Nat} {bs : List Int} (hl : bs.length = N) (hp : p < N) (hn : n ≤ N) : (content N p n bs).length = n := by
  unfold content
  split
  · rw [List.length_take]; omega
  · rw [List.length_append, List.length_drop, List.length_take]; omega
theorem content_put {N p n : Nat} {bs : List Int} (x : Int) (hl : bs.length = N) (hp : p < N) (hn : n ≤ N) (ht : n < N → p = n) :
    content N (if p + 1 = N then 0 else p + 1) (min (n + 1) N) (bs.set p x) = (content N p n bs ++ [x]).drop (n + 1 - N) := by
  have hts : (bs.set p x).take (p + 1) = bs.take p ++ [x] := by
    rw [List.take_succ_eq_append_getElem (by rw [List.length_set]; omega), List.take_set_of_le (Nat.le_refl _)]
    simp
  by_cases h : n < N
  · obtain rfl := ht h
    have e0 : p + 1 - N = 0 := by omega
    unfold content
    rw [if_pos h, e0, List.drop_zero]
    by_cases h1 : p + 1 < N
    · rw [if_pos (by omega), Nat.min_eq_left (by omega)]
      exact hts
    · rw [if_neg (by omega), if_pos (by omega), List.drop_zero, List.take_zero, List.append_nil, ← hts, List.take_of_length_le (by rw [List.length_set]; omega)]
  · obtain rfl : n = N := by omega
    have e1 : n + 1 - n = 1 := by omega
    unfold content
    rw [if_neg h, if_neg (by omega), e1]
    have hd : (bs.drop p ++ bs.take p ++ [x]).drop 1 = bs.drop (p + 1) ++ (bs.take p ++ [x]) := by
      rw [List.append_assoc, List.drop_append_of_le_length (by rw [List.length_drop]; omega), List.drop_drop]
    rw [hd, ← hts]
    by_cases h1 : p + 1 = n
    · rw [if_pos h1, List.drop_zero, List.take_zero, List.append_nil, List.drop_of_length_le (by omega), List.nil_append, List.take_of_length_le (by rw [List.length_set]; omega)]
    · rw [if_neg h1, List.drop_set_of_lt (by omega)]
theorem content_back {N p n d : Nat} {bs : List Int} (hl : bs.length = N) (hp : p < N) (hn : n ≤ N) (ht : n < N → p = n) (h1 : 1 ≤ d) (hd : d ≤ n) : bs.getD (if d ≤ p then p - d else p + N - d) 0 = (content N p n bs).getD (n - d) 0 := by
  unfold content
  rw [List.getD_eq_getElem?_getD, List.getD_eq_getElem?_getD]
  congr 1
  by_cases h : n < N
  · obtain rfl := ht h
    rw [if_pos h, if_pos hd, List.getElem?_take_of_lt (by omega)]
  · obtain rfl : n = N := by omega
    rw [if_neg h]
    by_cases h2 : d ≤ p
    · rw [if_pos h2, List.getElem?_append_right (by rw [List.length_drop]; omega), List.length_drop, List.getElem?_take_of_lt (by omega)]
      congr 1; omega
    · rw [if_neg h2, List.getElem?_append_left (by rw [List.length_drop]; omega), List.getElem?_drop]
      congr 1; omega
section
variable {W W' : World} {g gb N : Nat} {q : List Int}
theorem win_len_le (h : Win W g gb N q) : q.length ≤ N := by
  obtain ⟨p, n, bs, hR, hp, hn, hN, ht, rfl⟩ := h
  rw [content_len hR.2.2.1 hp hn]; exact hn
theorem win_new (W : World) (N : Nat) (h1 : 1 ≤ N) (hN : N ≤ 32768) : Calls Try.prog 8 #[.int .i64 (N : Int)] W fun e W' => e = .returned (.tuple #[.pointer (some ⟨W.heap.size + 1, 0, none⟩), .int .i64 0]) ∧ Win W' (W.heap.size + 1) W.heap.size N [] ∧ Below W.heap.size W W' :=
  (ring_new W N h1 hN).mono fun e W' ⟨he, hR, hb⟩ => ⟨he, ⟨0, 0, _, hR, by omega, by omega, hN, fun _ => rfl, by unfold content; rw [if_pos (by omega)]; rfl⟩, hb⟩
theorem win_put (x : Int) (h : Aside0 (Win W g gb N q)) : Calls Try.prog 9 #[.pointer (some ⟨g, 0, none⟩), .int .u8 x] W fun e W' => e = .returned (.tuple #[]) ∧ Win W' g gb N ((q ++ [x]).drop (q.length + 1 - N)) ∧ RK W W' g gb := by
  obtain ⟨p, n, bs, hR, hp, hn, hN, ht, rfl⟩ := h.out
  refine (ring_put x ⟨hR⟩ hp hn hN).mono fun e W' ⟨he, hR', hk⟩ => ⟨he, ⟨_, _, _, hR', by split <;> omega, by omega, hN, fun h => ?_, ?_⟩, hk⟩
  · have := ht (by omega)
    rw [if_neg (by omega)]; omega
  · rw [content_put x hR.2.2.1 hp hn ht, content_len hR.2.2.1 hp hn]
theorem win_len (h : Aside0 (Win W g gb N q)) : Calls Try.prog 12 #[.pointer (some ⟨g, 0, none⟩)] W fun e W' => e = .returned (.int .i64 (q.length : Int)) ∧ Drawn0 W W' := by
  obtain ⟨p, n, bs, hR, hp, hn, hN, ht, rfl⟩ := h.out
  rw [content_len hR.2.2.1 hp hn]
  exact ring_len ⟨hR⟩
theorem win_back (d : Nat) (h : Aside0 (Win W g gb N q)) (h1 : 1 ≤ d) (hd : d ≤ q.length) : Calls Try.prog 13 #[.pointer (some ⟨g, 0, none⟩), .int .i64 (d : Int)] W fun e W' => e = .returned (.tuple #[.int .u8 (q.getD (q.length - d) 0), .bool true]) ∧ Drawn0 W W' := by
  obtain ⟨p, n, bs, hR, hp, hn, hN, ht, rfl⟩ := h.out
  have hl := content_len hR.2.2.1 hp hn
  rw [hl] at hd ⊢
  rw [← content_back hR.2.2.1 hp hn ht h1 hd]
  exact ring_back d ⟨hR⟩ h1 hd hn hp hN
theorem win_back_no (d : Int) (h : Aside0 (Win W g gb N q)) (hd : d < 1 ∨ (q.length : Int) < d) : Calls Try.prog 13 #[.pointer (some ⟨g, 0, none⟩), .int .i64 d] W fun e W' => e = .returned (.tuple #[.int .u8 0, .bool false]) ∧ Drawn0 W W' := by
  obtain ⟨p, n, bs, hR, hp, hn, hN, ht, rfl⟩ := h.out
  rw [content_len hR.2.2.1 hp hn] at hd
  exact ring_back_no d ⟨hR⟩ hd
theorem win_tail (h : Aside0 (Win W g gb N q)) : Calls Try.prog 11 #[.pointer (some ⟨g, 0, none⟩)] W fun e W' => e = .returned (.slice (some ⟨W.heap.size, 0, none⟩) q.length q.length) ∧ Win W' g gb N q ∧ W'.heap[W.heap.size]? = some (.cells (bytesA q) 5 (0, 0)) ∧ Below W.heap.size W W' := by
  obtain ⟨p, n, bs, hR, hp, hn, hN, ht, rfl⟩ := h.out
  rw [content_len hR.2.2.1 hp hn]
  by_cases hlt : n < N
  · refine (ring_tail_few ⟨hR⟩ hlt hN).mono fun e W' ⟨he, hT⟩ => ⟨he, ⟨p, n, bs, hT.1, hp, hn, hN, ht, rfl⟩, ?_, hT.2.2.2.2.1⟩
    unfold content
    rw [if_pos hlt]; exact hT.2.1
  · obtain rfl : n = N := by omega
    refine (ring_tail_full ⟨hR⟩ hp hN).mono fun e W' ⟨he, hT⟩ => ⟨he, ⟨p, n, bs, hT.1, hp, hn, hN, ht, rfl⟩, ?_, hT.2.2.2.2.1⟩
    unfold content
    rw [if_neg hlt]; exact hT.2.1
theorem win_below (h : Win W g gb N q) (hb : Below W.heap.size W W') : Win W' g gb N q := by
  obtain ⟨p, n, bs, hR, hr⟩ := h
  exact ⟨p, n, bs, rb_below hR hb, hr⟩
theorem win_drawn (h : Win W g gb N q) (hd : Drawn0 W W') : Win W' g gb N q := win_below h hd.below
end
/-- the last N bytes of what was put in. -/
def lastN (N : Nat) (l : List Int) : List Int := l.drop (l.length - N)
theorem lastN_put (N : Nat) (l : List Int) (x : Int) : (lastN N l ++ [x]).drop ((lastN N l).length + 1 - N) = lastN N (l ++ [x]) := by
  unfold lastN
  have hl : (l.drop (l.length - N)).length = min l.length N := by rw [List.length_drop]; omega
  rw [hl, List.length_append, List.length_singleton]
  by_cases h : l.length < N
  · rw [show l.length - N = 0 by omega, show l.length + 1 - N = 0 by omega, show min l.length N + 1 - N = 0 by omega]; simp
  · rw [show min l.length N + 1 - N = 1 by omega]
    by_cases h0 : N = 0
    · subst h0
      simp
    · rw [List.drop_append_of_le_length (by rw [List.length_drop]; omega), List.drop_drop, List.drop_append_of_le_length (by omega)]
      congr 2; omega
end Go.Proofs.Ytcpijkckjahfdaa.PAll
