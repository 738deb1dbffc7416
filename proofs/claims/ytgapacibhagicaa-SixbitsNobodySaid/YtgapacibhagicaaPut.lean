/- The walk of the closure in sixbits.Write, by hand: what is written, and what its captured variables hold then. -/
import Derived.Test.YtgapacibhagicaaPAllx0
import Derived.OneCell
import Derived.Outline
namespace Go.Proofs.Ytgapacibhagicaa.PAll
open Go.RowKit Go.Proofs.YtgapacibhagicaaW.PrintWords Go.Proofs.YtgapacibhagicaaW.PrintLast Go.Proofs.YtgapacibhagicaaW.PrintMore
set_option linter.unusedVariables false
set_option linter.unusedSimpArgs false
structure WS (w W : World) (line : Int) (sv : Value) (out : List Int) (n : Int) : Prop where
  l : W.heap[w.heap.size]? = some (.cells #[.int .i64 line] 3 (0, 0))
  o : W.heap[w.heap.size + 1]? = some (.cells #[sv] 22 (0, 0))
  n : W.heap[w.heap.size + 2]? = some (.cells #[.int .i64 n] 3 (0, 0))
  r : W.ownsRow (w.heap.size + 3) 5 1 sv out.length (nums .u8 out)
  b : Below w.heap.size w W
theorem WS.lt {w W : World} {line : Int} {sv : Value} {out : List Int} {n : Int} (h : WS w W line sv out n) : w.heap.size + 3 ≤ W.heap.size := by
  have := lt_of_block h.n; omega
theorem heap_set_ne (W : World) (b : Nat) (u : Value) (i : Nat) (h : i ≠ b) : (W.setCell ⟨b, 0, none⟩ u).heap[i]? = W.heap[i]? := Below.heap_setCell W ⟨b, 0, none⟩ u i h
/-- what the closure's stores leave. -/
theorem WS.app {w W w1 : World} {line : Int} {sv v1 : Value} {out out1 : List Int} {n m : Int} (h : WS w W line sv out n) (hown : w1.ownsRow (w.heap.size + 3) 5 1 v1 out1.length (nums .u8 out1)) (hB : Below (w.heap.size + 3) W w1) :
    WS w (w1.setCell ⟨w.heap.size + 1, 0, none⟩ v1) line v1 out1 n := by
  have e0 := (hB.block w.heap.size (by omega)).trans h.l
  have e1 := (hB.block (w.heap.size + 1) (by omega)).trans h.o
  have e2 := (hB.block (w.heap.size + 2) (by omega)).trans h.n
  refine ⟨?_, one_setCell e1, ?_, ?_, ?_⟩
  · rw [heap_set_ne _ _ _ _ (by omega)]; exact e0
  · rw [heap_set_ne _ _ _ _ (by omega)]; exact e2
  · refine ownsRow_setCell_other hown ?_ _
    intro hc
    have := own_base hown _ hc
    simp at this
  · exact (h.b.trans (hB.mono (by omega))).setCell (by simp) _
theorem WS.setn {w W : World} {line : Int} {sv : Value} {out : List Int} {n m : Int} (h : WS w W line sv out n) : WS w (W.setCell ⟨w.heap.size + 2, 0, none⟩ (.int .i64 m)) line sv out m := by
  refine ⟨?_, ?_, one_setCell h.n, ?_, h.b.setCell (by simp) _⟩
  · rw [heap_set_ne _ _ _ _ (by omega)]; exact h.l
  · rw [heap_set_ne _ _ _ _ (by omega)]; exact h.o
  · refine ownsRow_setCell_other h.r ?_ _
    intro hc
    have := own_base h.r _ hc
    simp at this
section
variable {P : Program} {ops : Array Oper} {rest : List Oper} {o : Oper} {a : Act} {Q : Exit → Act → World → Prop}
theorem append_two {w0 W : World} (base : Nat) (hgd : o.guard = none) (s x : Operand) (t e : TypeId) (k : IntKind) (bytes : Nat)
    (ho : o.op = .call { callee := .builtin .append, args := #[s, x], argTypes := #[t, t] })
    (ht : P.underlying t = some (.slice e)) (hinfo : (P.info? e).map (fun i => (i.zero, i.size, i.bytes)) = some (some (.int k 0), 1, bytes)) (hb0 : 0 < bytes)
    (v : Value) (xs : List Int) (y z : Int) (hs : a.eval s = v) (hx : a.eval x = .slice (some ⟨W.heap.size, 0, none⟩) 2 2)
    (HO : W.ownsRow base e 1 v xs.length (nums k xs)) (HB : Below base w0 W) (hbase : base ≤ W.heap.size) (hl : (xs.length + 2) * bytes ≤ 140737488355328)
    (h : ∀ v1 w1, w1.ownsRow base e 1 v1 (xs ++ [y, z]).length (nums k (xs ++ [y, z])) → Below base w0 w1 → wpList P ops Q rest (a.put o.dst v1) w1) :
    wpList P ops Q (o :: rest) a (W.alloc (.cells #[.int k y, .int k z] e)) := by
  obtain ⟨i0, hi, hzz⟩ := Option.map_eq_some_iff.1 hinfo
  simp only [Prod.mk.injEq] at hzz
  obtain ⟨hz0, hz1, hz2⟩ := hzz
  have hlen : xs.length + 2 ≤ 140737488355328 := Nat.le_trans (Nat.le_mul_of_pos_right _ hb0) hl
  refine wpList_append_own_at (W.alloc (.cells #[.int k y, .int k z] e)) hgd s x t ho base e i0 (.int k 0) 1 bytes ht hi hz0 hz1 hz2 rfl (by omega) v xs.length (nums k xs) hs (HO.alloc _) ⟨W.heap.size, 0, none⟩ 2 2 [.int k y, .int k z] hx rfl
    (World.news_of_block (cs := #[.int k y, .int k z]) (t := e) (fr := (0, 0)) (heap_alloc_new W _)) (by simp [Value.oneCell']) (by simp only [maxLen]; omega) hl (by simp; omega) ?_
  intro v1 w1 hown hg _ hat
  exact h v1 w1 (by simpa [nums] using hown) ((HB.alloc hbase _).grown hg (by simp; omega) (own_base HO))
end
set_option maxHeartbeats 2000000 in
theorem put_plain (w W : World) (line : Int) (sv : Value) (out : List Int) (n c : Int) (h : WS w W line sv out n) (hno : (decide (0 < line) && (n == line)) = false) (hl : out.length + 1 ≤ 140737488355328) :
    Calls Try.prog 22 #[.int .u8 c, .pointer (some ⟨w.heap.size, 0, none⟩), .pointer (some ⟨w.heap.size + 2, 0, none⟩), .pointer (some ⟨w.heap.size + 1, 0, none⟩)] W fun e W' => e = .returned (.tuple #[]) ∧ ∃ sv', WS w W' line sv' (out ++ [c]) (wrap64 (n + 1)) := by
  obtain ⟨A0, c0, rfl⟩ := own_slice h.r
  have hcl := cell_of_one h.l
  have hco := cell_of_one h.o
  have hcn := cell_of_one h.n
  have hfo := free_of_one h.o
  have hfn := free_of_one h.n
  have H := Aside0.mk h
  have hlt := h.lt
  have HL := Aside0.mk (show (out.length + 1) * 1 ≤ 140737488355328 by omega)
  clear h hl
  by_cases hp : 0 < line
  · have hpb : decide (0 < line) = true := decide_eq_true hp
    rw [hpb, Bool.true_and] at hno
    clear hp
    go_enter Try.func22, Try.ntmps22
    go_wp2_with (first | (at_builtin; refine print_append_num (w0 := W) (w.heap.size + 3) rfl (.tmp 15) (.tmp 17) 22 5 .u8 1 rfl Try.underlying22 info5 (by decide) (.slice A0 out.length c0) out c rfl rfl H.out.r (Below.refl _ _) hlt HL.out ?_; intro v1 w1 hown hB hg hat; clear hat hg; obtain ⟨A1, c1, rfl⟩ := own_slice hown; have H1 := Aside0.mk (WS.app (m := n) H.out hown hB); have hcn1 : w1.cell? ⟨w.heap.size + 2, 0, none⟩ = some (.int .i64 n) := (hB.cell (p := ⟨w.heap.size + 2, 0, none⟩) (by simp)).trans hcn; have hco1 : w1.cell? ⟨w.heap.size + 1, 0, none⟩ = some (.slice A0 out.length c0) := (hB.cell (p := ⟨w.heap.size + 1, 0, none⟩) (by simp)).trans hco; have hfn1 : w1.frozen? ⟨w.heap.size + 2, 0, none⟩ = false := (hB.frozen (p := ⟨w.heap.size + 2, 0, none⟩) (by simp)).trans hfn; have hfo1 : w1.frozen? ⟨w.heap.size + 1, 0, none⟩ = false := (hB.frozen (p := ⟨w.heap.size + 1, 0, none⟩) (by simp)).trans hfo; clear hown hB hcl hco hcn hfo hfn H hlt HL))
    go_end0
    exact ⟨rfl, .slice A1 (out.length + 1) c1, by simpa only [List.length_append, List.length_singleton] using WS.setn H1.out⟩
  · have hpb : decide (0 < line) = false := decide_eq_false hp
    clear hno hp
    go_enter Try.func22, Try.ntmps22
    go_wp2_with (first | (at_builtin; refine print_append_num (w0 := W) (w.heap.size + 3) rfl (.tmp 15) (.tmp 17) 22 5 .u8 1 rfl Try.underlying22 info5 (by decide) (.slice A0 out.length c0) out c rfl rfl H.out.r (Below.refl _ _) hlt HL.out ?_; intro v1 w1 hown hB hg hat; clear hat hg; obtain ⟨A1, c1, rfl⟩ := own_slice hown; have H1 := Aside0.mk (WS.app (m := n) H.out hown hB); have hcn1 : w1.cell? ⟨w.heap.size + 2, 0, none⟩ = some (.int .i64 n) := (hB.cell (p := ⟨w.heap.size + 2, 0, none⟩) (by simp)).trans hcn; have hco1 : w1.cell? ⟨w.heap.size + 1, 0, none⟩ = some (.slice A0 out.length c0) := (hB.cell (p := ⟨w.heap.size + 1, 0, none⟩) (by simp)).trans hco; have hfn1 : w1.frozen? ⟨w.heap.size + 2, 0, none⟩ = false := (hB.frozen (p := ⟨w.heap.size + 2, 0, none⟩) (by simp)).trans hfn; have hfo1 : w1.frozen? ⟨w.heap.size + 1, 0, none⟩ = false := (hB.frozen (p := ⟨w.heap.size + 1, 0, none⟩) (by simp)).trans hfo; clear hown hB hcl hco hcn hfo hfn H hlt HL))
    go_end0
    exact ⟨rfl, .slice A1 (out.length + 1) c1, by simpa only [List.length_append, List.length_singleton] using WS.setn H1.out⟩
set_option maxHeartbeats 2000000 in
theorem put_break (w W : World) (line : Int) (sv : Value) (out : List Int) (c : Int) (h : WS w W line sv out line) (hp : 0 < line) (hl : out.length + 3 ≤ 140737488355328) :
    Calls Try.prog 22 #[.int .u8 c, .pointer (some ⟨w.heap.size, 0, none⟩), .pointer (some ⟨w.heap.size + 2, 0, none⟩), .pointer (some ⟨w.heap.size + 1, 0, none⟩)] W fun e W' => e = .returned (.tuple #[]) ∧ ∃ sv', WS w W' line sv' (out ++ [13, 10] ++ [c]) 1 := by
  obtain ⟨A0, c0, rfl⟩ := own_slice h.r
  have hcl := cell_of_one h.l
  have hco := cell_of_one h.o
  have hcn := cell_of_one h.n
  have hfo := free_of_one h.o
  have hfn := free_of_one h.n
  have H := Aside0.mk h
  have hlt := h.lt
  have HL := Aside0.mk (show (out.length + 2) * 1 ≤ 140737488355328 by omega)
  have HL2 := Aside0.mk (show ((out ++ [13, 10]).length + 1) * 1 ≤ 140737488355328 by simp; omega)
  clear h hl
  have hpb : decide (0 < line) = true := decide_eq_true hp
  have hnb : (line == line) = true := by simp
  clear hp
  have tok1 : True := trivial
  have e2 : (out ++ [(13 : Int), 10]).length = out.length + 2 := by simp
  have E2 := Aside0.mk e2
  clear e2
  go_enter Try.func22, Try.ntmps22
  go_wp2_with (first | (at_builtin; have _t := tok1; refine append_two (w0 := W) (w.heap.size + 3) rfl (.tmp 12) (.tmp 13) 22 5 .u8 1 rfl Try.underlying22 info5 (by decide) (.slice A0 out.length c0) out 13 10 rfl rfl H.out.r (Below.refl _ _) hlt HL.out ?_; intro v1 w1 hown hB; obtain ⟨A1, c1, hv1⟩ := own_slice hown; rw [E2.out] at hv1; subst hv1; have H1 := Aside0.mk (WS.setn (m := 0) (WS.app (m := line) H.out hown hB)); have hcn1 : w1.cell? ⟨w.heap.size + 2, 0, none⟩ = some (.int .i64 line) := (hB.cell (p := ⟨w.heap.size + 2, 0, none⟩) (by simp)).trans hcn; have hco1 : w1.cell? ⟨w.heap.size + 1, 0, none⟩ = some (.slice A0 out.length c0) := (hB.cell (p := ⟨w.heap.size + 1, 0, none⟩) (by simp)).trans hco; have hfn1 : w1.frozen? ⟨w.heap.size + 2, 0, none⟩ = false := (hB.frozen (p := ⟨w.heap.size + 2, 0, none⟩) (by simp)).trans hfn; have hfo1 : w1.frozen? ⟨w.heap.size + 1, 0, none⟩ = false := (hB.frozen (p := ⟨w.heap.size + 1, 0, none⟩) (by simp)).trans hfo; have hlt1 := H1.out.lt; clear hown hB hcl hco hcn hfo hfn H hlt HL tok1) | (at_builtin; refine print_append_num (w0 := (w1.setCell ⟨w.heap.size + 1, 0, none⟩ (.slice A1 (out.length + 2) c1)).setCell ⟨w.heap.size + 2, 0, none⟩ (.int .i64 0)) (w.heap.size + 3) rfl (.tmp 15) (.tmp 17) 22 5 .u8 1 rfl Try.underlying22 info5 (by decide) (.slice A1 (out.length + 2) c1) (out ++ [13, 10]) c rfl (by show Value.slice (some ⟨w1.heap.size, 0, none⟩) 1 1 = _; simp) H1.out.r (Below.refl _ _) H1.out.lt HL2.out ?_; intro v2 w2 hown2 hB2 hg2 hat2; clear hg2 hat2; obtain ⟨A2, c2, rfl⟩ := own_slice hown2; have H2 := Aside0.mk (WS.app (m := 0) H1.out hown2 hB2); have hcn2 : w2.cell? ⟨w.heap.size + 2, 0, none⟩ = some (.int .i64 0) := (hB2.cell (p := ⟨w.heap.size + 2, 0, none⟩) (by simp)).trans (cell_of_one H1.out.n); have hco2 : w2.cell? ⟨w.heap.size + 1, 0, none⟩ = some (.slice A1 (out.length + 2) c1) := (hB2.cell (p := ⟨w.heap.size + 1, 0, none⟩) (by simp)).trans (cell_of_one H1.out.o); have hfn2 : w2.frozen? ⟨w.heap.size + 2, 0, none⟩ = false := (hB2.frozen (p := ⟨w.heap.size + 2, 0, none⟩) (by simp)).trans (free_of_one H1.out.n); have hfo2 : w2.frozen? ⟨w.heap.size + 1, 0, none⟩ = false := (hB2.frozen (p := ⟨w.heap.size + 1, 0, none⟩) (by simp)).trans (free_of_one H1.out.o); clear hown2 hB2 hcn1 hco1 hfn1 hfo1 H1 hlt1 HL2))
  go_end0
  refine ⟨rfl, .slice A2 (out.length + 3) c2, ?_⟩
  have hh := WS.setn (m := 1) H2.out
  rw [show (out ++ [(13 : Int), 10] ++ [c]).length = out.length + 3 by simp] at hh
  exact hh
def putO (line : Int) (out : List Int) (n c : Int) : List Int := if 0 < line ∧ n = line then out ++ [13, 10] ++ [c] else out ++ [c]
def putN (line n : Int) : Int := if 0 < line ∧ n = line then 1 else wrap64 (n + 1)
theorem put_calls (w W : World) (line : Int) (sv : Value) (out : List Int) (n c : Int) (h : WS w W line sv out n) (hl : out.length + 3 ≤ 140737488355328) :
    Calls Try.prog 22 #[.int .u8 c, .pointer (some ⟨w.heap.size, 0, none⟩), .pointer (some ⟨w.heap.size + 2, 0, none⟩), .pointer (some ⟨w.heap.size + 1, 0, none⟩)] W fun e W' => e = .returned (.tuple #[]) ∧ ∃ sv', WS w W' line sv' (putO line out n c) (putN line n) := by
  unfold putO putN
  by_cases hc : 0 < line ∧ n = line
  · rw [if_pos hc, if_pos hc]
    obtain ⟨hp, rfl⟩ := hc
    exact put_break w W _ sv out c h hp hl
  · rw [if_neg hc, if_neg hc]
    refine put_plain w W line sv out n c h ?_ (by omega)
    cases hp : decide (0 < line)
    · rfl
    · cases hn : (n == line)
      · rfl
      · exact absurd ⟨of_decide_eq_true hp, beq_iff_eq.1 hn⟩ hc
end Go.Proofs.Ytgapacibhagicaa.PAll
