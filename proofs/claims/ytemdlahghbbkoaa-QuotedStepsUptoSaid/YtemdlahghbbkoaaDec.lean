/- A quoted-printable decoder in memory: its block's cells, and what a store makes of them. -/
import Derived.Test.YtemdlahghbbkoaaPAllx0
namespace Go.Proofs.Ytemdlahghbbkoaa.PAll
open Go.RowKit Go.Proofs.YtemdlahghbbkoaaW.PrintWords Go.Proofs.YtemdlahghbbkoaaW.PrintLast Go.Proofs.YtemdlahghbbkoaaW.PrintMore
set_option linter.unusedVariables false
set_option linter.unusedSimpArgs false
theorem info5' : (Try.prog.info? 5).map (fun i => (i.zero, i.size, i.bytes)) = some (some (.int .u8 0), 1, 1) := by kernel_rfl
/-- the decoder's cells. -/
def decL (st hi : Int) (en : Bool) (wh : Int) (bl : List Int) (hd : Int) (ou : List Int) (f0 t0 : Int) : List Value :=
  .int .i64 st :: .int .u8 hi :: .bool en :: .int .i64 wh :: (nums .u8 bl ++ .int .i64 hd :: (nums .u8 ou ++ [.int .i64 f0, .int .i64 t0]))
/-- a decoder in memory. -/
def DC (W : World) (g : Nat) (st hi : Int) (en : Bool) (wh : Int) (bl : List Int) (hd : Int) (ou : List Int) (f0 t0 : Int) : Prop :=
  W.heap[g]? = some (.cells (decL st hi en wh bl hd ou f0 t0).toArray 49 (0, 0)) ∧ bl.length = 64 ∧ ou.length = 68
theorem nums_len (k : IntKind) (l : List Int) : (nums k l).length = l.length := by simp [nums]
theorem nums_get (k : IntKind) (l : List Int) (i : Nat) (h : i < l.length) : (nums k l)[i]? = some (.int k (l.getD i 0)) := by simp [nums, h, List.getD]
section
variable {st hi : Int} {en : Bool} {wh : Int} {bl : List Int} {hd : Int} {ou : List Int} {f0 t0 : Int}
theorem decL_len (hb : bl.length = 64) (ho : ou.length = 68) : (decL st hi en wh bl hd ou f0 t0).length = 139 := by simp [decL, nums_len, hb, ho]
theorem decL_bl (hb : bl.length = 64) (i : Nat) (h : i < 64) : (decL st hi en wh bl hd ou f0 t0)[4 + i]? = some (.int .u8 (bl.getD i 0)) := by
  rw [show 4 + i = i + 1 + 1 + 1 + 1 by omega]
  simp only [decL, List.getElem?_cons_succ]
  rw [List.getElem?_append_left (by rw [nums_len]; omega), nums_get _ _ _ (by omega)]
theorem decL_hd (hb : bl.length = 64) : (decL st hi en wh bl hd ou f0 t0)[68]? = some (.int .i64 hd) := by
  rw [show 68 = 64 + 1 + 1 + 1 + 1 by omega]
  simp only [decL, List.getElem?_cons_succ]
  rw [List.getElem?_append_right (by rw [nums_len]; omega), nums_len, hb]
  rfl
theorem decL_ou (hb : bl.length = 64) (ho : ou.length = 68) (i : Nat) (h : i < 68) : (decL st hi en wh bl hd ou f0 t0)[69 + i]? = some (.int .u8 (ou.getD i 0)) := by
  rw [show 69 + i = (65 + i) + 1 + 1 + 1 + 1 by omega]
  simp only [decL, List.getElem?_cons_succ]
  rw [List.getElem?_append_right (by rw [nums_len]; omega), nums_len, hb, show 65 + i - 64 = i + 1 by omega, List.getElem?_cons_succ, List.getElem?_append_left (by rw [nums_len]; omega), nums_get _ _ _ (by omega)]
theorem decL_fr (hb : bl.length = 64) (ho : ou.length = 68) : (decL st hi en wh bl hd ou f0 t0)[137]? = some (.int .i64 f0) := by
  rw [show 137 = 133 + 1 + 1 + 1 + 1 by omega]
  simp only [decL, List.getElem?_cons_succ]
  rw [List.getElem?_append_right (by rw [nums_len]; omega), nums_len, hb, show 133 - 64 = 68 + 1 by omega, List.getElem?_cons_succ, List.getElem?_append_right (by rw [nums_len]; omega), nums_len, ho]
  rfl
theorem decL_to (hb : bl.length = 64) (ho : ou.length = 68) : (decL st hi en wh bl hd ou f0 t0)[138]? = some (.int .i64 t0) := by
  rw [show 138 = 134 + 1 + 1 + 1 + 1 by omega]
  simp only [decL, List.getElem?_cons_succ]
  rw [List.getElem?_append_right (by rw [nums_len]; omega), nums_len, hb, show 134 - 64 = 69 + 1 by omega, List.getElem?_cons_succ, List.getElem?_append_right (by rw [nums_len]; omega), nums_len, ho]
  rfl
theorem decL_sbl (hb : bl.length = 64) (i : Nat) (h : i < 64) (x : Int) : (decL st hi en wh bl hd ou f0 t0).set (4 + i) (.int .u8 x) = decL st hi en wh (bl.set i x) hd ou f0 t0 := by
  rw [show 4 + i = i + 1 + 1 + 1 + 1 by omega]
  simp only [decL, List.set_cons_succ]
  rw [List.set_append_left _ _ (by rw [nums_len]; omega)]
  simp [nums, List.map_set]
theorem decL_shd (hb : bl.length = 64) (x : Int) : (decL st hi en wh bl hd ou f0 t0).set 68 (.int .i64 x) = decL st hi en wh bl x ou f0 t0 := by
  rw [show 68 = 64 + 1 + 1 + 1 + 1 by omega]
  simp only [decL, List.set_cons_succ]
  rw [List.set_append_right _ _ (by rw [nums_len]; omega), nums_len, hb]
  rfl
theorem decL_sou (hb : bl.length = 64) (ho : ou.length = 68) (i : Nat) (h : i < 68) (x : Int) : (decL st hi en wh bl hd ou f0 t0).set (69 + i) (.int .u8 x) = decL st hi en wh bl hd (ou.set i x) f0 t0 := by
  rw [show 69 + i = (65 + i) + 1 + 1 + 1 + 1 by omega]
  simp only [decL, List.set_cons_succ]
  rw [List.set_append_right _ _ (by rw [nums_len]; omega), nums_len, hb, show 65 + i - 64 = i + 1 by omega, List.set_cons_succ, List.set_append_left _ _ (by rw [nums_len]; omega)]
  simp [nums, List.map_set]
theorem decL_sfr (hb : bl.length = 64) (ho : ou.length = 68) (x : Int) : (decL st hi en wh bl hd ou f0 t0).set 137 (.int .i64 x) = decL st hi en wh bl hd ou x t0 := by
  rw [show 137 = 133 + 1 + 1 + 1 + 1 by omega]
  simp only [decL, List.set_cons_succ]
  rw [List.set_append_right _ _ (by rw [nums_len]; omega), nums_len, hb, show 133 - 64 = 68 + 1 by omega, List.set_cons_succ, List.set_append_right _ _ (by rw [nums_len]; omega), nums_len, ho]
  rfl
theorem decL_sto (hb : bl.length = 64) (ho : ou.length = 68) (x : Int) : (decL st hi en wh bl hd ou f0 t0).set 138 (.int .i64 x) = decL st hi en wh bl hd ou f0 x := by
  rw [show 138 = 134 + 1 + 1 + 1 + 1 by omega]
  simp only [decL, List.set_cons_succ]
  rw [List.set_append_right _ _ (by rw [nums_len]; omega), nums_len, hb, show 134 - 64 = 69 + 1 by omega, List.set_cons_succ, List.set_append_right _ _ (by rw [nums_len]; omega), nums_len, ho]
  rfl
/-- blanks written over from place o. -/
theorem decL_cbl (hb : bl.length = 64) (o : Nat) (vs : List Int) (h : o + vs.length ≤ 64) : (decL st hi en wh bl hd ou f0 t0).take (4 + o) ++ nums .u8 vs ++ (decL st hi en wh bl hd ou f0 t0).drop (4 + o + vs.length) = decL st hi en wh (bl.take o ++ vs ++ bl.drop (o + vs.length)) hd ou f0 t0 := by
  rw [show 4 + o = o + 1 + 1 + 1 + 1 by omega, show o + 1 + 1 + 1 + 1 + vs.length = (o + vs.length) + 1 + 1 + 1 + 1 by omega]
  simp only [decL, List.take_succ_cons, List.drop_succ_cons, List.cons_append]
  rw [List.take_append_of_le_length (by rw [nums_len]; omega), List.drop_append_of_le_length (by rw [nums_len]; omega)]
  simp [nums, List.map_take, List.map_drop]
/-- out written over from place o. -/
theorem decL_cou (hb : bl.length = 64) (ho : ou.length = 68) (o : Nat) (vs : List Int) (h : o + vs.length ≤ 68) : (decL st hi en wh bl hd ou f0 t0).take (69 + o) ++ nums .u8 vs ++ (decL st hi en wh bl hd ou f0 t0).drop (69 + o + vs.length) = decL st hi en wh bl hd (ou.take o ++ vs ++ ou.drop (o + vs.length)) f0 t0 := by
  rw [show 69 + o = (65 + o) + 1 + 1 + 1 + 1 by omega, show 65 + o + 1 + 1 + 1 + 1 + vs.length = (65 + o + vs.length) + 1 + 1 + 1 + 1 by omega]
  simp only [decL, List.take_succ_cons, List.drop_succ_cons, List.cons_append]
  have e1 : (nums .u8 bl).length = 64 := by rw [nums_len, hb]
  rw [List.take_append, List.drop_append, e1, List.take_of_length_le (by omega), List.drop_of_length_le (by omega), show 65 + o - 64 = o + 1 by omega, show 65 + o + vs.length - 64 = (o + vs.length) + 1 by omega, List.take_succ_cons, List.drop_succ_cons,
    List.take_append_of_le_length (by rw [nums_len]; omega), List.drop_append_of_le_length (by rw [nums_len]; omega)]
  simp [nums, List.map_take, List.map_drop]
end
section
variable {W W' : World} {g : Nat} {st hi : Int} {en : Bool} {wh : Int} {bl : List Int} {hd : Int} {ou : List Int} {f0 t0 : Int}
theorem dc_c0 (h : DC W g st hi en wh bl hd ou f0 t0) : W.cell? ⟨g, 0, none⟩ = some (.int .i64 st) := by rw [blk_cell h.1, List.getElem?_toArray]; rfl
theorem dc_c1 (h : DC W g st hi en wh bl hd ou f0 t0) : W.cell? ⟨g, 1, none⟩ = some (.int .u8 hi) := by rw [blk_cell h.1, List.getElem?_toArray]; rfl
theorem dc_c2 (h : DC W g st hi en wh bl hd ou f0 t0) : W.cell? ⟨g, 2, none⟩ = some (.bool en) := by rw [blk_cell h.1, List.getElem?_toArray]; rfl
theorem dc_c3 (h : DC W g st hi en wh bl hd ou f0 t0) : W.cell? ⟨g, 3, none⟩ = some (.int .i64 wh) := by rw [blk_cell h.1, List.getElem?_toArray]; rfl
theorem dc_bl (h : DC W g st hi en wh bl hd ou f0 t0) (i : Nat) (hi' : i < 64) : W.cell? ⟨g, 4 + i, none⟩ = some (.int .u8 (bl.getD i 0)) := by rw [blk_cell h.1, List.getElem?_toArray, decL_bl h.2.1 i hi']
theorem dc_hd (h : DC W g st hi en wh bl hd ou f0 t0) : W.cell? ⟨g, 68, none⟩ = some (.int .i64 hd) := by rw [blk_cell h.1, List.getElem?_toArray, decL_hd h.2.1]
theorem dc_ou (h : DC W g st hi en wh bl hd ou f0 t0) (i : Nat) (hi' : i < 68) : W.cell? ⟨g, 69 + i, none⟩ = some (.int .u8 (ou.getD i 0)) := by rw [blk_cell h.1, List.getElem?_toArray, decL_ou h.2.1 h.2.2 i hi']
theorem dc_f0 (h : DC W g st hi en wh bl hd ou f0 t0) : W.cell? ⟨g, 137, none⟩ = some (.int .i64 f0) := by rw [blk_cell h.1, List.getElem?_toArray, decL_fr h.2.1 h.2.2]
theorem dc_t0 (h : DC W g st hi en wh bl hd ou f0 t0) : W.cell? ⟨g, 138, none⟩ = some (.int .i64 t0) := by rw [blk_cell h.1, List.getElem?_toArray, decL_to h.2.1 h.2.2]
theorem dc_f (h : DC W g st hi en wh bl hd ou f0 t0) (i : Nat) : W.frozen? ⟨g, i, none⟩ = false := blk_frozen h.1 i
theorem dc_put {cs : List Value} (h : DC W g st hi en wh bl hd ou f0 t0) (i : Nat) (u : Value) (e : (decL st hi en wh bl hd ou f0 t0).set i u = cs) : (W.setCell ⟨g, i, none⟩ u).heap[g]? = some (.cells cs.toArray 49 (0, 0)) := by
  rw [blk_set h.1 i u, ← e]
  simp
theorem dc_s0 (h : DC W g st hi en wh bl hd ou f0 t0) (x : Int) : DC (W.setCell ⟨g, 0, none⟩ (.int .i64 x)) g x hi en wh bl hd ou f0 t0 := ⟨dc_put h 0 _ rfl, h.2⟩
theorem dc_s1 (h : DC W g st hi en wh bl hd ou f0 t0) (x : Int) : DC (W.setCell ⟨g, 1, none⟩ (.int .u8 x)) g st x en wh bl hd ou f0 t0 := ⟨dc_put h 1 _ rfl, h.2⟩
theorem dc_s2 (h : DC W g st hi en wh bl hd ou f0 t0) (x : Bool) : DC (W.setCell ⟨g, 2, none⟩ (.bool x)) g st hi x wh bl hd ou f0 t0 := ⟨dc_put h 2 _ rfl, h.2⟩
theorem dc_s3 (h : DC W g st hi en wh bl hd ou f0 t0) (x : Int) : DC (W.setCell ⟨g, 3, none⟩ (.int .i64 x)) g st hi en x bl hd ou f0 t0 := ⟨dc_put h 3 _ rfl, h.2⟩
theorem dc_sbl (h : DC W g st hi en wh bl hd ou f0 t0) (i : Nat) (hi' : i < 64) (x : Int) : DC (W.setCell ⟨g, 4 + i, none⟩ (.int .u8 x)) g st hi en wh (bl.set i x) hd ou f0 t0 := ⟨dc_put h _ _ (decL_sbl h.2.1 i hi' x), by rw [List.length_set]; exact h.2.1, h.2.2⟩
theorem dc_shd (h : DC W g st hi en wh bl hd ou f0 t0) (x : Int) : DC (W.setCell ⟨g, 68, none⟩ (.int .i64 x)) g st hi en wh bl x ou f0 t0 := ⟨dc_put h _ _ (decL_shd h.2.1 x), h.2⟩
theorem dc_sou (h : DC W g st hi en wh bl hd ou f0 t0) (i : Nat) (hi' : i < 68) (x : Int) : DC (W.setCell ⟨g, 69 + i, none⟩ (.int .u8 x)) g st hi en wh bl hd (ou.set i x) f0 t0 := ⟨dc_put h _ _ (decL_sou h.2.1 h.2.2 i hi' x), h.2.1, by rw [List.length_set]; exact h.2.2⟩
theorem dc_sf0 (h : DC W g st hi en wh bl hd ou f0 t0) (x : Int) : DC (W.setCell ⟨g, 137, none⟩ (.int .i64 x)) g st hi en wh bl hd ou x t0 := ⟨dc_put h _ _ (decL_sfr h.2.1 h.2.2 x), h.2⟩
theorem dc_st0 (h : DC W g st hi en wh bl hd ou f0 t0) (x : Int) : DC (W.setCell ⟨g, 138, none⟩ (.int .i64 x)) g st hi en wh bl hd ou f0 x := ⟨dc_put h _ _ (decL_sto h.2.1 h.2.2 x), h.2⟩
theorem dc_drew (h : DC W g st hi en wh bl hd ou f0 t0) : DC W.drew g st hi en wh bl hd ou f0 t0 := h
theorem dc_below (h : DC W g st hi en wh bl hd ou f0 t0) (hb : Below W.heap.size W W') : DC W' g st hi en wh bl hd ou f0 t0 := ⟨(hb.block g (blk_lt h.1)).trans h.1, h.2⟩
theorem dc_cells (h : DC W g st hi en wh bl hd ou f0 t0) {cs : List Value} (o : Nat) (vs : List Value) (hl : o + vs.length ≤ 139) (e : (decL st hi en wh bl hd ou f0 t0).take o ++ vs ++ (decL st hi en wh bl hd ou f0 t0).drop (o + vs.length) = cs) : (W.setCells g o vs).heap[g]? = some (.cells cs.toArray 49 (0, 0)) := by
  obtain ⟨cur', h3, h4, h5⟩ := setCells_row vs o W _ h.1 (by simp [decL_len h.2.1 h.2.2]; omega)
  rw [h3]
  congr 2
  apply Array.toList_inj.1
  rw [h5, ← e]
end
/-- what a method of a decoder leaves as it was: all but its block. -/
def DK (W W' : World) (g : Nat) : Prop := W.heap.size ≤ W'.heap.size ∧ (∀ w : World, Below w.heap.size w W → w.heap.size ≤ g → Below w.heap.size w W') ∧ ∀ k o, W.heap[k]? = some o → k ≠ g → W'.heap[k]? = some o
theorem DK.refl (W : World) (g : Nat) : DK W W g := ⟨Nat.le_refl _, fun _ h _ => h, fun _ _ h _ => h⟩
theorem DK.trans {W W1 W2 : World} {g : Nat} (h : DK W W1 g) (k : DK W1 W2 g) : DK W W2 g := ⟨Nat.le_trans h.1 k.1, fun w hb h1 => k.2.1 w (h.2.1 w hb h1) h1, fun j o hj h1 => k.2.2 j o (h.2.2 j o hj h1) h1⟩
theorem DK.drew {W W' : World} {g : Nat} (h : DK W W' g) : DK W W'.drew g := ⟨h.1, fun w hb h1 => below_drew (h.2.1 w hb h1), h.2.2⟩
theorem DK.set {W W' : World} {g : Nat} (h : DK W W' g) (i : Nat) (u : Value) : DK W (W'.setCell ⟨g, i, none⟩ u) g :=
  ⟨by simpa using h.1, fun w hb h1 => (h.2.1 w hb h1).setCell (by show w.heap.size ≤ g; exact h1) _, fun j o hj h1 => by rw [Below.heap_setCell W' ⟨g, i, none⟩ u j (by show j ≠ g; exact h1)]; exact h.2.2 j o hj h1⟩
theorem DK.sets {W W' : World} {g : Nat} (h : DK W W' g) (o : Nat) (vs : List Value) : DK W (W'.setCells g o vs) g := by
  induction vs generalizing o W' with
  | nil => exact h
  | cons v r ih => exact ih (h.set o v) (o + 1)
theorem DK.below {W W' : World} {g : Nat} (h : Below W.heap.size W W') : DK W W' g := ⟨h.size, fun w hb _ => below_step hb h, fun j o hj _ => (h.block j (blk_lt hj)).trans hj⟩
theorem tail_cells {B0 gd : Nat} {a W : World} (h : Below B0 a W) (hg : B0 ≤ gd) (vs : List Value) (o : Nat) : Below B0 a (W.setCells gd o vs) := by
  induction vs generalizing o W with
  | nil => exact h
  | cons v r ih => exact ih (h.setCell (p := ⟨gd, o, none⟩) hg v) (o + 1)
end Go.Proofs.Ytemdlahghbbkoaa.PAll
