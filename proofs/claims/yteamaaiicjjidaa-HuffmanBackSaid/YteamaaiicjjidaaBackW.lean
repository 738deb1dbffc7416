/- HuffmanBack: two rows of one's own that grow side by side. -/
import Derived.Test.YteamaaiicjjidaaBackM
import Derived.Test.YteamaaiicjjidaaRead
import Derived.Test.YteamaaiicjjidaaCopy
namespace Go.Proofs.Yteamaaiicjjidaa.PAll
open Go.RowKit Go.Proofs.Yteamaaiicjjidaa.Huf Go.Proofs.YteamaaiicjjidaaW.PrintWords Go.Proofs.YteamaaiicjjidaaW.PrintLast Go.Proofs.YteamaaiicjjidaaW.PrintMore
set_option linter.unusedVariables false
set_option linter.unusedSimpArgs false
def ints (ws : List Nat) : List Int := ws.map fun (s : Nat) => (s : Int)
theorem ints_len (ws : List Nat) : (ints ws).length = ws.length := by simp [ints]
theorem ints_snoc (ws : List Nat) (s : Nat) : ints (ws ++ [s]) = ints ws ++ [(s : Int)] := by simp [ints]
/-- the bits that were written, and the symbols. -/
structure BK (w W : World) (line : List Bool) (ws : List Nat) (A7 : Option Addr) (c7 : Nat) (A8 : Option Addr) (c8 : Nat) : Prop where
  line : W.ownsRow w.heap.size 4 1 (.slice A7 line.length c7) line.length (encs Value.bool line)
  want : W.ownsRow w.heap.size 3 1 (.slice A8 ws.length c8) ws.length (encs (Value.int .i64) (ints ws))
  below : Below w.heap.size w W
section
variable {w W W' : World} {line : List Bool} {ws : List Nat} {A7 : Option Addr} {c7 : Nat} {A8 : Option Addr} {c8 : Nat}
theorem bk_nil (w : World) : BK w w [] [] none 0 none 0 := ⟨own_nil _ _ _ _, own_nil _ _ _ _, Below.refl _ _⟩
theorem bk_below (h : BK w W line ws A7 c7 A8 c8) (hb : Below W.heap.size W W') : BK w W' line ws A7 c7 A8 c8 := ⟨Own.own_below h.line hb, Own.own_below h.want hb, below_step h.below hb⟩
theorem bk_bit {ops : Array Oper} {rest : List Oper} {o : Oper} {a : Act} {Q : Exit → Act → World → Prop} (b : Bool) (h : BK w W line ws A7 c7 A8 c8) (hl : line.length ≤ 1000000) (hgd : o.guard = none) (s x : Operand)
    (ho : o.op = .call { callee := .builtin .append, args := #[s, x], argTypes := #[45, 45] })
    (hs : a.eval s = .slice A7 line.length c7) (hx : a.eval x = .slice (some ⟨W.heap.size, 0, none⟩) 1 1)
    (hK : ∀ A7' c7' W', BK w W' (line ++ [b]) ws A7' c7' A8 c8 → wpList Try.prog ops Q rest (a.put o.dst (.slice A7' (line ++ [b]).length c7')) W') :
    wpList Try.prog ops Q (o :: rest) a (W.alloc (.cells #[.bool b] 4)) := by
  have hA := own_alloc h.line (.cells #[.bool b] 4)
  have hL := own_reads_of' (d := false) (own_lit_of (enc := Value.bool) W 0 4 [b] (Nat.zero_le _) (by simp))
  refine Own.app_rows (W := W.alloc (.cells #[.bool b] 4)) (enc := Value.bool) (fun _ => rfl) false w.heap.size hgd s x 45 4 (.bool false) 1 ho Try.underlying45 info4 rfl (by decide) _ line [b] (some ⟨W.heap.size, 0, none⟩) 1 1 hs hx rfl hA hL
    (Nat.le_trans h.below.size (by simp)) (by simp; omega) ?_
  intro v1 w1 hown hgrow hat
  obtain ⟨A, c, rfl⟩ := own_slice hown
  have hB := (h.below.alloc h.below.size (.cells #[.bool b] 4)).grown hgrow (Nat.le_trans h.below.size (by simp)) (own_base hA)
  exact hK A c w1 ⟨hown, own_other (own_alloc h.want _) hgrow (own_type_ne (own_alloc h.want _) hA (by decide)), hB⟩
theorem bk_sym {ops : Array Oper} {rest : List Oper} {o : Oper} {a : Act} {Q : Exit → Act → World → Prop} (n : Nat) (h : BK w W line ws A7 c7 A8 c8) (hl : ws.length ≤ 1000000) (hgd : o.guard = none) (s x : Operand)
    (ho : o.op = .call { callee := .builtin .append, args := #[s, x], argTypes := #[22, 22] })
    (hs : a.eval s = .slice A8 ws.length c8) (hx : a.eval x = .slice (some ⟨W.heap.size, 0, none⟩) 1 1)
    (hK : ∀ A8' c8' W', BK w W' line (ws ++ [n]) A7 c7 A8' c8' → wpList Try.prog ops Q rest (a.put o.dst (.slice A8' (ws ++ [n]).length c8')) W') :
    wpList Try.prog ops Q (o :: rest) a (W.alloc (.cells #[.int .i64 (n : Int)] 3)) := by
  have hA := own_alloc h.want (.cells #[.int .i64 (n : Int)] 3)
  rw [← ints_len ws] at hA
  have hL := own_reads_of' (d := (0 : Int)) (own_lit_of (enc := Value.int .i64) W 0 3 [(n : Int)] (Nat.zero_le _) (by simp))
  refine Own.app_rows (W := W.alloc (.cells #[.int .i64 (n : Int)] 3)) (enc := Value.int .i64) (fun _ => rfl) 0 w.heap.size hgd s x 22 3 (.int .i64 0) 8 ho Try.underlying22 info3' rfl (by decide) _ (ints ws) [(n : Int)] (some ⟨W.heap.size, 0, none⟩) 1 1 (by rw [ints_len]; exact hs) hx rfl hA hL
    (Nat.le_trans h.below.size (by simp)) (by rw [ints_len]; simp; omega) ?_
  intro v1 w1 hown hgrow hat
  obtain ⟨A, c, rfl⟩ := own_slice hown
  have hB := (h.below.alloc h.below.size (.cells #[.int .i64 (n : Int)] 3)).grown hgrow (Nat.le_trans h.below.size (by simp)) (own_base hA)
  rw [← ints_snoc, ints_len] at hown ⊢
  exact hK A c w1 ⟨own_other (own_alloc h.line _) hgrow (own_type_ne (own_alloc h.line _) hA (by decide)), hown, hB⟩
theorem bk_line (h : BK w W line ws A7 c7 A8 c8) {i : Nat} (hi : i < line.length) : ∃ g, A7 = some ⟨g, 0, none⟩ ∧ W.cell? ⟨g, i, none⟩ = some (.bool line[i]) := by
  rcases h.line.2 with ⟨h1, h2⟩ | ⟨g, cap, cur, h1, _⟩
  · omega
  · injection h1 with e1 e2 e3
    subst e1
    have h2 := (own_at_of (enc := Value.bool) (d := false) h.line (i : Int) (by omega) (by omega)).1
    have e : rdOf false line (i : Int) = line[i] := by simp [rdOf, List.getD, hi]
    rw [e, Int.toNat_natCast] at h2
    exact ⟨g, rfl, h2⟩
theorem bk_want (h : BK w W line ws A7 c7 A8 c8) {i : Nat} (hi : i < ws.length) : ∃ g, A8 = some ⟨g, 0, none⟩ ∧ W.cell? ⟨g, i, none⟩ = some (.int .i64 (ws[i] : Int)) := by
  rcases h.want.2 with ⟨h1, h2⟩ | ⟨g, cap, cur, h1, _⟩
  · omega
  · injection h1 with e1 e2 e3
    subst e1
    have h2 := (own_at_of (enc := Value.int .i64) (d := (0 : Int)) h.want (i : Int) (by omega) (by omega)).1
    have e : rdOf (0 : Int) (ints ws) (i : Int) = (ws[i] : Int) := by simp [rdOf, List.getD, ints, hi]
    rw [e, Int.toNat_natCast] at h2
    exact ⟨g, rfl, h2⟩
theorem bk_keep {r H n : Nat} (h : BK w W line ws A7 c7 A8 c8) (hr : Rdr w W r H n) (hk : KeepBut W W' r none) (hB : Below w.heap.size w W') : BK w W' line ws A7 c7 A8 c8 :=
  ⟨own_move h.line (fun k hk' => hk.2 k (own_lt h.line k hk') (fun e => own_ne h.line hr.1.1 (by decide) (by rw [hk', e])) (by simp)),
   own_move h.want (fun k hk' => hk.2 k (own_lt h.want k hk') (fun e => own_ne h.want hr.1.1 (by decide) (by rw [hk', e])) (by simp)), hB⟩
end
theorem put_b {w W : World} {r : Nat} {bs : List Bool} (b : Nat) (h : Aside0 (Rdr w W r (val bs) bs.length)) (hn : bs.length ≤ 56) (hb : b < 256) :
    Calls Try.prog 20 #[.pointer (some ⟨r, 0, none⟩), .int .u8 (b : Int)] W fun e W' => e = .returned (.bool true) ∧ Rdr w W' r (val (bs ++ bitsL b)) (bs ++ bitsL b).length ∧ KeepBut W W' r none := by
  refine (rdr_put (b : Int) h ⟨hn, by omega, by omega⟩).mono ?_
  rintro e W' ⟨he, hr, hk⟩
  refine ⟨he, ?_, hk⟩
  rw [Int.toNat_natCast] at hr
  have := (bits_f (b : Int) (by omega) (by omega)).2
  rw [Int.toNat_natCast] at this
  rw [val_append, this, List.length_append, bitsL_len]
  exact hr
/-- a bit set in a byte. -/
theorem or_u8 : ∀ k : Fin 8, ∀ b : Fin 256, b.1 < 2 ^ k.1 → Go.bits .or .u8 (b.1 : Int) ((2 ^ k.1 : Nat) : Int) = ((b.1 + 2 ^ k.1 : Nat) : Int) := by decide +kernel
theorem or_bit {b k : Nat} (hk : k < 8) (hb : b < 2 ^ k) : Go.bits .or .u8 (b : Int) ((2 ^ k : Nat) : Int) = ((b + 2 ^ k : Nat) : Int) := by
  have h2 : 2 ^ k ≤ 2 ^ 7 := Nat.pow_le_pow_right (by omega) (by omega)
  have e7 : (2 : Nat) ^ 7 = 128 := by decide
  exact or_u8 ⟨k, hk⟩ ⟨b, by omega⟩ hb
end Go.Proofs.Yteamaaiicjjidaa.PAll
