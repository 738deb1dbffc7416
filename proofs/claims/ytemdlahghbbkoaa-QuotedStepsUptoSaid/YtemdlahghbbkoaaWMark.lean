/- Plain: a constant text turned into bytes: the new row's mark (a conversion of the row to its own type), as a step of the walk. -/
import Derived.Test.YtemdlahghbbkoaaWWords
namespace Go.Proofs.YtemdlahghbbkoaaW.PrintMark
open Go.RowKit Go.Proofs.YtemdlahghbbkoaaW.PrintWords
variable {P : Program}

theorem mark_run (W : World) (t e : TypeId) (ht : P.underlying t = some (.slice e)) (he : P.underlying e = some (.int .u8)) (g n cap : Nat) (cur : Array Value) (fr : Nat × Nat) (hh : W.heap[g]? = some (.cells cur e fr)) :
    ∃ k, (convert t t (.slice (some ⟨g, 0, none⟩) n cap)).run P W = .ok (.slice (some ⟨g, 0, none⟩) n cap) (W.freeze ⟨g, k, none⟩ 1) := by
  have hsh : W.shape? g = some (e, cur.size) := by
    unfold World.shape?
    rw [hh]
  simp [convert, run_underlying ht, run_underlying he, markStringish, hsh]
  exact ⟨_, rfl⟩
theorem freeze_block (W : World) (g k i : Nat) (h : i ≠ g) : (W.freeze ⟨g, k, none⟩ 1).heap[i]? = W.heap[i]? := by
  unfold World.freeze
  rw [if_neg (by decide)]
  simp only [Array.getElem?_modify]
  rw [if_neg (fun hc => h hc.symm)]
theorem freeze_size (W : World) (g k : Nat) : (W.freeze ⟨g, k, none⟩ 1).heap.size = W.heap.size := by
  unfold World.freeze
  rw [if_neg (by decide)]
  simp
theorem freeze_cell (W : World) (g k : Nat) (a : Addr) : (W.freeze ⟨g, k, none⟩ 1).cell? a = W.cell? a := by
  unfold World.cell?
  by_cases h : a.block = g
  · rw [h]
    unfold World.freeze
    rw [if_neg (by decide)]
    simp only [Array.getElem?_modify, if_true]
    cases hg : W.heap[g]? with
    | none => simp
    | some o => cases o <;> simp
  · rw [freeze_block W g k _ h]
theorem freeze_grown (W : World) (g k : Nat) : W.grownBy (W.freeze ⟨g, k, none⟩ 1) (some g) :=
  ⟨by unfold World.freeze; rw [if_neg (by decide)], by unfold World.freeze; rw [if_neg (by decide)], by unfold World.freeze; rw [if_neg (by decide)], by rw [freeze_size]; exact Nat.le_refl _, fun i _ hi => freeze_block W g k i (fun h => hi (by rw [h]))⟩
/-- In the place of a row that is marked: an empty one, so that what comes behind it finds a row. -/
theorem nil_like {α : Type} {d : Kd α} {e : Nat} {w : World} {base : Nat} {ok : Nat → Prop} {v : Value} {xs : List α} (_h : d.R e w base ok v xs) (w' : World) : d.R e w' base ok (.slice none 0 0) [] := Kd.R_nil d e w' base ok
section
variable {ops : Array Oper} {rest : List Oper} {o : Oper} {a : Act} {Q : Exit → Act → World → Prop}
/-- A literal's row behind its mark: it reads as it did. -/
theorem conv_mark {w0 W : World} {base : Nat} (hgd : o.guard = none) (t e : TypeId) (x : Operand) (ho : o.op = .convert t t x) (ht : P.underlying t = some (.slice e)) (he : P.underlying e = some (.int .u8)) {A : Option Addr} {n c : Nat} {xs : List Int} {ok : Nat → Prop}
    (hx : a.eval x = .slice A n c) (HO : (Kd.int .u8).R e W base ok (.slice A n c) xs) (hp : 0 < xs.length) (HB : Below base w0 W)
    (h : ∀ W', (Kd.int .u8).C W' A xs.length xs → Below base w0 W' → W.grownBy W' (Value.slice A n c).ownBlock → wpList P ops Q rest (a.put o.dst (.slice A n c)) W') : wpList P ops Q (o :: rest) a W := by
  obtain ⟨g, cap, hv, hb, hlt, cells, hh⟩ := Kd.R_form HO hp
  injection hv with hA hn hc
  subst hA; subst hn; subst hc
  obtain ⟨k, hr⟩ := mark_run (P := P) W t e ht he g xs.length c cells (0, 0) hh
  have hg := freeze_grown W g k
  refine Kd.event_run hgd (w1 := W.freeze ⟨g, k, none⟩ 1) (v := .slice (some ⟨g, 0, none⟩) xs.length c) ?_ (h _ ?_ (HB.grown hg (by omega) (fun k hk => by injection hk with hk; omega)) hg)
  · simp [execOp, ho, hx, hr]
  · have hC := (Kd.R_reads' HO).2.2
    have hR := Kd.reads_of_C (enc := Value.int .u8) (d := (0 : Int)) (h1 := fun _ => rfl) hC
    refine Kd.C_of_reads (enc := Value.int .u8) (d := (0 : Int)) (h1 := fun _ => rfl) ⟨hR.1, hR.2.1, fun hn => ?_⟩
    obtain ⟨ad, e1, hc⟩ := hR.2.2 hn
    exact ⟨ad, e1, fun j hj => by rw [freeze_cell]; exact hc j hj⟩
end
end Go.Proofs.YtemdlahghbbkoaaW.PrintMark
