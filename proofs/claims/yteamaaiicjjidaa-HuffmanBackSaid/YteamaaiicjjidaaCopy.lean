/- A copy of numbers into a row of one's own: append([]int{}, l...). -/
import Derived.Test.YteamaaiicjjidaaAwake
namespace Go.Proofs.Yteamaaiicjjidaa.PAll
open Go.RowKit Go.Proofs.Yteamaaiicjjidaa.Huf Go.Proofs.YteamaaiicjjidaaW.PrintWords Go.Proofs.YteamaaiicjjidaaW.PrintLast Go.Proofs.YteamaaiicjjidaaW.PrintMore
set_option linter.unusedVariables false
theorem info3' : (Try.prog.info? 3).map (fun i => (i.zero, i.size, i.bytes)) = some (some (.int .i64 0), 1, 8) := by kernel_rfl
theorem app_copy {ops : Array Oper} {rest : List Oper} {o : Oper} {a : Act} {W : World} {Q : Exit → Act → World → Prop} (hgd : o.guard = none) (s x : Operand)
    (ho : o.op = .call { callee := .builtin .append, args := #[s, x], argTypes := #[22, 22] }) (A : Option Addr) (c : Nat) (l : List Int)
    (hs : a.eval s = .slice (some ⟨W.heap.size, 0, none⟩) 0 0) (hx : a.eval x = .slice A l.length c) (hR : Kd.C (Kd.int .i64) W A l.length l) (hl : l.length * 8 ≤ 140737488355328)
    (h : ∀ A2 c2 w2, w2.ownsRow W.heap.size 3 1 (.slice A2 l.length c2) l.length (encs (Value.int .i64) l) → Kd.C (Kd.int .i64) w2 A2 l.length l → l.length ≤ c2 → Below W.heap.size W w2 → wpList Try.prog ops Q rest (a.put o.dst (.slice A2 l.length c2)) w2) :
    wpList Try.prog ops Q (o :: rest) a (W.alloc (.cells #[] 3)) := by
  have HO := own_lit_of (enc := Value.int .i64) W W.heap.size 3 ([] : List Int) (Nat.le_refl _) (by simp)
  refine Own.app_rows (W := W.alloc (.cells #[] 3)) (enc := Value.int .i64) (fun _ => rfl) 0 W.heap.size hgd s x 22 3 (.int .i64 0) 8 ho Try.underlying22 info3' rfl (by decide) _ [] l A l.length c hs hx rfl HO
    (Kd.reads_of_C (h1 := fun _ => rfl) (Kd.C_alloc hR _)) (by simp) (by simpa using hl) ?_
  intro v2 w2 hown hgrow hat
  rw [List.nil_append] at hown
  obtain ⟨A2, c2, rfl⟩ := own_slice hown
  obtain ⟨A3, c3, e, hrd⟩ := own_reads_of (enc := Value.int .i64) (d := (0 : Int)) hown
  cases e
  have hB : Below W.heap.size W w2 := ((Below.refl W.heap.size W).alloc (Nat.le_refl _) (.cells #[] 3)).grown hgrow (by simp) (own_base HO)
  exact h _ _ w2 hown (Kd.C_of_reads (enc := Value.int .i64) (d := (0 : Int)) (h1 := fun _ => rfl) hrd) (own_cap hown) hB
end Go.Proofs.Yteamaaiicjjidaa.PAll
