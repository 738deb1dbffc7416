/- Plain laws on rows of a call's own: a row of scalars appended to another, as a plain step and as a step of a region that draws; what a call leaves as it was, but for one block and the blocks of one type. -/
import Derived.Test.YtemdlahghbbkoaaPAllx0
namespace Go.Proofs.Ytemdlahghbbkoaa.Own
open Go.RowKit Go.Proofs.YtemdlahghbbkoaaW.PrintWords Go.Proofs.YtemdlahghbbkoaaW.PrintLast Go.Proofs.YtemdlahghbbkoaaW.PrintMore
set_option linter.unusedVariables false
section
variable {P : Program} {ops : Array Oper} {rest : List Oper} {o : Oper} {a : Act} {Q : Exit → Act → World → Prop} {K : Act → World → Prop} {E : Prop} {α : Type} {enc : α → Value}
theorem app_rows_run (h1 : ∀ x, (enc x).oneCell' = true) (d : α) {W : World} (base : Nat) (t ty e : TypeId) (z : Value) (bytes : Nat)
    (ht : P.underlying t = some (.slice e)) (hinfo : (P.info? e).map (fun i => (i.zero, i.size, i.bytes)) = some (some z, 1, bytes)) (hz : z.cells.size = 1) (hb0 : 0 < bytes)
    (v : Value) (xs ys : List α) (A : Option Addr) (c : Nat) (HO : W.ownsRow base e 1 v xs.length (encs enc xs)) (HR : ReadsOf enc d W A ys.length ys)
    (hbase : base ≤ W.heap.size) (hl : (xs.length + ys.length) * bytes ≤ 140737488355328) :
    ∃ v1 w1, (Builtin.append_ #[t, t] ty #[v, .slice A ys.length c]).run P W = .ok v1 w1 ∧ w1.ownsRow base e 1 v1 (xs ++ ys).length (encs enc (xs ++ ys)) ∧ W.grownBy w1 v.ownBlock ∧ (v1.ownBlock = v.ownBlock ∨ v1.ownBlock = some W.heap.size) := by
  obtain ⟨i0, hi, hzz⟩ := Option.map_eq_some_iff.1 hinfo
  simp only [Prod.mk.injEq] at hzz
  obtain ⟨hz0, hz1, hz2⟩ := hzz
  have hlen : xs.length + ys.length ≤ 140737488355328 := Nat.le_trans (Nat.le_mul_of_pos_right _ hb0) hl
  rcases A with _ | ad
  · have h0 : ys.length = 0 := by
      rcases Nat.eq_zero_or_pos ys.length with h | h
      · exact h
      · obtain ⟨ad, he, _⟩ := HR.2.2 h
        cases he
    obtain rfl : ys = [] := List.eq_nil_of_length_eq_zero h0
    refine ⟨v, W, ?_, by rw [List.append_nil]; exact HO, World.grownBy.refl W _, .inl rfl⟩
    rcases HO.2 with ⟨rfl, hn⟩ | ⟨g, cap, cur, rfl, _, _, hnc, _⟩
    · simp [Builtin.append_, run_underlying ht, sizeOf, typeInfo, hi, Builtin.lenOf, Builtin.firstCells]
    · simp [Builtin.append_, run_underlying ht, sizeOf, typeInfo, hi, Builtin.lenOf, Builtin.firstCells, hnc, storeCells]
  · obtain ⟨v1, w1, hrun, h2, hg, _, hat⟩ := run_append_own_at (P := P) W base t ty e i0 z 1 bytes ht hi hz0 hz1 hz2 hz (by omega) v xs.length (encs enc xs) HO ad ys.length c (encs enc ys) (by simp [encs]) (fun j u hu => by
      have hj : j < ys.length := by
        have := (List.getElem?_eq_some_iff.1 hu).1
        simpa [encs] using this
      obtain ⟨ad', he, hc⟩ := HR.2.2 (by omega)
      cases he
      rw [encs_get (d := d) ys j hj] at hu
      cases hu
      exact hc j hj) (fun u hu => by
      obtain ⟨x, _, rfl⟩ := List.mem_map.1 hu
      exact h1 x) (by simp only [maxLen]; omega) hl hbase
    exact ⟨v1, w1, hrun, by rw [List.length_append, encs_append]; exact h2, hg, hat⟩
/-- as a step of a region that draws. -/
theorem app_rows_step (h1 : ∀ x, (enc x).oneCell' = true) (d : α) {W : World} (base : Nat) (hw : Region.wanted o (yielded ops a.tmps) = true) (s x : Operand) (t e : TypeId) (z : Value) (bytes : Nat)
    (ho : o.op = .call { callee := .builtin .append, args := #[s, x], argTypes := #[t, t] })
    (ht : P.underlying t = some (.slice e)) (hinfo : (P.info? e).map (fun i => (i.zero, i.size, i.bytes)) = some (some z, 1, bytes)) (hz : z.cells.size = 1) (hb0 : 0 < bytes)
    (v : Value) (xs ys : List α) (A : Option Addr) (c : Nat) (hs : a.eval s = v) (hx : a.eval x = .slice A ys.length c) (HO : W.ownsRow base e 1 v xs.length (encs enc xs)) (HR : ReadsOf enc d W A ys.length ys)
    (hbase : base ≤ W.heap.size) (hl : (xs.length + ys.length) * bytes ≤ 140737488355328)
    (h : ∀ v1 w1, w1.ownsRow base e 1 v1 (xs ++ ys).length (encs enc (xs ++ ys)) → W.grownBy w1 v.ownBlock → (v1.ownBlock = v.ownBlock ∨ v1.ownBlock = some W.heap.size) → K (a.put o.dst v1) w1) :
    if Region.wanted o (yielded ops a.tmps) = true then Oper.wp P o a W K Q else E := by
  rw [if_pos hw]
  obtain ⟨v1, w1, hrun, h2, h3, h4⟩ := app_rows_run h1 d base t o.type e z bytes ht hinfo hz hb0 v xs ys A c HO HR hbase hl
  unfold Oper.wp
  simp [execOp, ho, resolve, invoke, builtin, hs, hx, hrun, Result.andThen]
  exact h v1 w1 h2 h3 h4
/-- as a plain step. -/
theorem app_rows (h1 : ∀ x, (enc x).oneCell' = true) (d : α) {W : World} (base : Nat) (hgd : o.guard = none) (s x : Operand) (t e : TypeId) (z : Value) (bytes : Nat)
    (ho : o.op = .call { callee := .builtin .append, args := #[s, x], argTypes := #[t, t] })
    (ht : P.underlying t = some (.slice e)) (hinfo : (P.info? e).map (fun i => (i.zero, i.size, i.bytes)) = some (some z, 1, bytes)) (hz : z.cells.size = 1) (hb0 : 0 < bytes)
    (v : Value) (xs ys : List α) (A : Option Addr) (n c : Nat) (hs : a.eval s = v) (hx : a.eval x = .slice A n c) (hn : ys.length = n) (HO : W.ownsRow base e 1 v xs.length (encs enc xs)) (HR : ReadsOf enc d W A n ys)
    (hbase : base ≤ W.heap.size) (hl : (xs.length + ys.length) * bytes ≤ 140737488355328)
    (h : ∀ v1 w1, w1.ownsRow base e 1 v1 (xs ++ ys).length (encs enc (xs ++ ys)) → W.grownBy w1 v.ownBlock → (v1.ownBlock = v.ownBlock ∨ v1.ownBlock = some W.heap.size) → wpList P ops Q rest (a.put o.dst v1) w1) :
    wpList P ops Q (o :: rest) a W := by
  subst hn
  refine wpList_plain hgd fun K hK => ?_
  obtain ⟨v1, w1, hrun, h2, h3, h4⟩ := app_rows_run h1 d base t o.type e z bytes ht hinfo hz hb0 v xs ys A c HO HR hbase hl
  unfold Oper.wp execOp
  simp only [ho, resolve, invoke, builtin, Sem.run_bind, Sem.run_pure, Result.andThen_ok, List.map_toArray, List.map_cons, List.map_nil, hs, hx, hrun]
  exact hK _ _ (h v1 w1 h2 h3 h4)
end
/-- what a call leaves as it was: every block of cells but g and those of type t. -/
def Foot (W W' : World) (g : Nat) (t : TypeId) : Prop := W.heap.size ≤ W'.heap.size ∧ ∀ k cs t' , W.heap[k]? = some (.cells cs t' (0, 0)) → k ≠ g → t' ≠ t → W'.heap[k]? = some (.cells cs t' (0, 0))
theorem Foot.refl (W : World) (g : Nat) (t : TypeId) : Foot W W g t := ⟨Nat.le_refl _, fun _ _ _ h _ _ => h⟩
theorem Foot.trans {W W1 W2 : World} {g : Nat} {t : TypeId} (h : Foot W W1 g t) (k : Foot W1 W2 g t) : Foot W W2 g t := ⟨Nat.le_trans h.1 k.1, fun j cs t' hj hg ht => k.2 j cs t' (h.2 j cs t' hj hg ht) hg ht⟩
theorem Foot.below {W W1 : World} {g : Nat} {t : TypeId} (h : Below W.heap.size W W1) : Foot W W1 g t := ⟨h.size, fun j cs t' hj _ _ => (h.block j (blk_lt hj)).trans hj⟩
theorem Foot.keep {W W1 : World} {g : Nat} {t : TypeId} (h : KeepBut W W1 g none) : Foot W W1 g t := ⟨h.1, fun j cs t' hj hg _ => h.blk hj hg (by simp)⟩
theorem Foot.set {W : World} {g : Nat} {t : TypeId} (j : Nat) (u : Value) : Foot W (W.setCell ⟨g, j, none⟩ u) g t := ⟨by simp, fun k cs t' hk hg _ => blk_far hk (by simpa using hg) u⟩
theorem Foot.grown {W W1 : World} {g : Nat} {t : TypeId} {base size n : Nat} {v : Value} {xs : List Value} (ho : W.ownsRow base t size v n xs) (h : W.grownBy W1 v.ownBlock) : Foot W W1 g t :=
  ⟨h.size, fun j cs t' hj _ ht => blk_grown hj h (fun e => by
    obtain ⟨cur, hc⟩ := own_typed ho j e.symm
    rw [hj] at hc
    injection hc with hc
    injection hc with _ hc
    exact ht hc)⟩
/-- a row of one's own lies apart from a block of another type. -/
theorem own_ne_blk {W : World} {base : Nat} {e : TypeId} {size n : Nat} {v : Value} {xs : List Value} (ho : W.ownsRow base e size v n xs) {g : Nat} {cs : Array Value} {t : TypeId} (hg : W.heap[g]? = some (.cells cs t (0, 0))) (hne : e ≠ t) : v.ownBlock ≠ some g := fun h => own_ne ho hg hne h.symm
theorem foot_blk {W W1 : World} {g k : Nat} {t t' : TypeId} {cs : Array Value} (h : Foot W W1 g t) (hk : W.heap[k]? = some (.cells cs t' (0, 0))) (hg : k ≠ g) (ht : t' ≠ t) : W1.heap[k]? = some (.cells cs t' (0, 0)) := h.2 k cs t' hk hg ht
/-- what was there when the call began is there still. -/
theorem own_below {W W1 : World} {base : Nat} {e : TypeId} {size n : Nat} {v : Value} {xs : List Value} (h : W.ownsRow base e size v n xs) (hb : Below W.heap.size W W1) : W1.ownsRow base e size v n xs := pw_own_below h hb
theorem below_blk {W W1 : World} {k : Nat} {o : Obj} (h : W.heap[k]? = some o) (hb : Below W.heap.size W W1) : W1.heap[k]? = some o := (hb.block k (blk_lt h)).trans h
theorem grown_blk {W W1 : World} {base k : Nat} {e t : TypeId} {size n : Nat} {v : Value} {xs : List Value} {cs : Array Value} (ho : W.ownsRow base e size v n xs) (hg : W.grownBy W1 v.ownBlock) (hk : W.heap[k]? = some (.cells cs t (0, 0))) (hne : t ≠ e) : W1.heap[k]? = some (.cells cs t (0, 0)) := blk_grown hk hg (fun e' => by
  obtain ⟨cur, hc⟩ := own_typed ho k e'.symm
  rw [hk] at hc
  injection hc with hc
  injection hc with _ hc
  exact hne hc)
end Go.Proofs.Ytemdlahghbbkoaa.Own
