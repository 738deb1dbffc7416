/- huffman.New: which table it makes of lengths, or which error it tells. -/
import Derived.Test.YteamaaiicjjidaaTab
import Derived.Test.YteamaaiicjjidaaHufK
import Derived.OneCell
import Derived.Deep.MidRow
import Derived.Deep.CutBlock
namespace Go.Proofs.Yteamaaiicjjidaa.PAll
open Go.RowKit Go.Proofs.Yteamaaiicjjidaa.Huf Go.Proofs.YteamaaiicjjidaaW.PrintWords Go.Proofs.YteamaaiicjjidaaW.PrintLast Go.Proofs.YteamaaiicjjidaaW.PrintMore
attribute [local go_sem] max2_int min2_int max_two min_two max_three min_three max_four min_four
set_option linter.unusedVariables false
set_option linter.unusedSimpArgs false
theorem info64 : (Try.prog.info? 64).map (fun i => (i.zero, i.size, i.bytes)) = some (some (.agg #[.int .i64 0, .int .u32 0]), 2, 16) := by kernel_rfl
theorem madeCells_codes (n : Nat) : (madeCells (Value.agg #[.int .i64 0, .int .u32 0]).cells (n * 2)).toList = (codL n (fun _ => 0) (fun _ => 0)).toArray.toList := by
  unfold codL
  apply List.ext_getElem
  · simp [madeCells]; omega
  · intro i h1 h2
    simp [madeCells, Value.cells]
    rcases Nat.mod_two_eq_zero_or_one i with h | h <;> simp [h]
theorem make_codes (n : Nat) (h : n ≤ 320) (W : World) : (Instr.makeSlice 59 (.int .i64 (n : Int)) (.int .i64 (n : Int))).run Try.prog W = .ok (.slice (some ⟨W.heap.size, 0, none⟩) n n) (W.alloc (.cells (codL n (fun _ => 0) (fun _ => 0)).toArray 64)) := by
  obtain ⟨i0, hi, h0, hs, hb⟩ := info_parts info64
  have := run_make W 59 64 i0 _ Try.underlying59 hi h0 .i64 .i64 (n : Int) (n : Int) (by omega) (by omega) (by rw [hb]; omega) (by omega)
  rw [this, hs]
  simp only [Int.toNat_natCast]
  congr 3
  apply Array.toList_inj.1
  rw [madeCells_codes]
def us (l : List Int) : Nat := l.countP fun x => decide (0 < x)
open Classical in
noncomputable def er (l : List Int) : Int := if ¬ (Ok l ∧ l.length ≤ 320) then 2 else if 32768 < kr l then 80 else if kr l < 32768 ∧ 0 < us l ∧ ¬ (us l = 1 ∧ ct l 1 = 1) then 81 else 0
/-- the first codes of the lengths below k. -/
def FK (l : List Int) (k : Nat) : Nat → Nat := fun i => if i < k then fs l i else 0
/-- a symbol's code, or nought. -/
def cz (l : List Int) (s : Nat) : Nat := if 0 < l.getD s 0 then cd l s else 0
/-- the lengths' table. -/
structure HT (W : World) (g cb mb : Nat) (l : List Int) : Prop where
  tb : TB W g (.slice (some ⟨cb, 0, none⟩) l.length l.length) (.map (some mb)) (FK l 16) (ct l)
  cb : CB W cb l.length (ln l) (cz l)
  mp : ∃ n D, W.ownsMap Try.prog 64 (plainElem (H := Unit) Try.prog 3) mb n D ∧ MD l l.length D
def NewPost (l : List Int) (W : World) (e : Ending) (W' : World) : Prop :=
  (er l ≠ 0 ∧ e = .returned (.tuple #[.pointer none, .int .i64 (er l)]) ∧ Below W.heap.size W W') ∨ (er l = 0 ∧ ∃ g cb mb, e = .returned (.tuple #[.pointer (some ⟨g, 0, none⟩), .int .i64 0]) ∧ HT W' g cb mb l ∧ Below W.heap.size W W' ∧ W.heap.size ≤ g ∧ W.heap.size ≤ cb ∧ W.heap.size ≤ mb)
theorem er_2 {l : List Int} (h : ¬ (Ok l ∧ l.length ≤ 320)) : er l = 2 := by unfold er; rw [if_pos h]
theorem er_80 {l : List Int} (h : Ok l ∧ l.length ≤ 320) (h2 : 32768 < kr l) : er l = 80 := by unfold er; rw [if_neg (by simpa using h), if_pos h2]
theorem er_81 {l : List Int} (h : Ok l ∧ l.length ≤ 320) (h1 : kr l < 32768) (h2 : 0 < us l) (h3 : ¬ (us l = 1 ∧ ct l 1 = 1)) : er l = 81 := by
  unfold er; rw [if_neg (by simpa using h), if_neg (by omega), if_pos ⟨h1, h2, h3⟩]
theorem er_0 {l : List Int} (h : Ok l ∧ l.length ≤ 320) (h1 : kr l ≤ 32768) (h2 : kr l = 32768 ∨ us l = 0 ∨ (us l = 1 ∧ ct l 1 = 1)) : er l = 0 := by
  unfold er; rw [if_neg (by simpa using h), if_neg (by omega), if_neg (by omega)]
theorem er_ok {l : List Int} (h : er l = 0) : Ok l ∧ l.length ≤ 320 ∧ kr l ≤ 32768 := by
  unfold er at h
  split at h
  · simp at h
  · rename_i h1
    split at h
    · simp at h
    · exact ⟨(Classical.not_not.1 h1).1, (Classical.not_not.1 h1).2, by omega⟩
theorem alloc3 (W : World) (o1 o2 o3 : Obj) : (((W.alloc o1).alloc o2).alloc o3).heap[W.heap.size]? = some o1 ∧ (((W.alloc o1).alloc o2).alloc o3).heap[W.heap.size + 1]? = some o2 ∧ (((W.alloc o1).alloc o2).alloc o3).heap[W.heap.size + 1 + 1]? = some o3 ∧ Below W.heap.size W (((W.alloc o1).alloc o2).alloc o3) := by
  have e1 : (W.alloc o1).heap.size = W.heap.size + 1 := by simp
  have e2 : ((W.alloc o1).alloc o2).heap.size = W.heap.size + 1 + 1 := by simp
  refine ⟨blk_alloc (blk_alloc (blk_new W o1) o2) o3, ?_, ?_, below_alloc (below_alloc (below_alloc (Below.refl _ _) _) _) _⟩
  · have := blk_alloc (blk_new (W.alloc o1) o2) o3
    rw [e1] at this; exact this
  · have := blk_new ((W.alloc o1).alloc o2) o3
    rw [e2] at this; exact this
/-- the new table's blocks. -/
structure NS (W w : World) (l : List Int) (F C f c : Nat → Nat) (n : Nat) (D : DataW Unit) : Prop where
  tb : TB w (W.heap.size + 1 + 1) (.slice (some ⟨W.heap.size + 1, 0, none⟩) l.length l.length) (.map (some W.heap.size)) F C
  cb : CB w (W.heap.size + 1) l.length f c
  mp : w.ownsMap Try.prog 64 (plainElem (H := Unit) Try.prog 3) W.heap.size n D
  below : Below W.heap.size W w
theorem map_set {w : World} {P : Program} {k : TypeId} {R : Value → Option (DataW Unit × List MemPlace)} {b n : Nat} {D : DataW Unit} (h : w.ownsMap P k R b n D) {p : Addr} (hne : b ≠ p.block) (u : Value) : (w.setCell p u).ownsMap P k R b n D := by
  obtain ⟨es, clock, hb, F, hs, hD⟩ := h
  exact ⟨es, clock, (Below.heap_setCell w p u b hne).trans hb, F, hs, hD⟩
section
variable {W w : World} {l : List Int} {F C f c : Nat → Nat} {n : Nat} {D : DataW Unit}
theorem ns_drew (h : NS W w l F C f c n D) : NS W w.drew l F C f c n D := ⟨h.tb, h.cb, h.mp.drew, below_drew h.below⟩
theorem ns_setC (h : NS W w l F C f c n D) {i : Nat} (hi : i < 17) (x : Nat) : NS W (w.setCell ⟨W.heap.size + 1 + 1, 19 + i, none⟩ (.int .i64 (x : Int))) l F (upd C i x) f c n D :=
  ⟨tb_setC h.tb hi x, cb_far h.cb (by show W.heap.size + 1 ≠ W.heap.size + 1 + 1; omega) _, map_set h.mp (by show W.heap.size ≠ W.heap.size + 1 + 1; omega) _, h.below.setCell (by show W.heap.size ≤ W.heap.size + 1 + 1; omega) _⟩
theorem ns_setF (h : NS W w l F C f c n D) {i : Nat} (hi : i < 17) (x : Nat) : NS W (w.setCell ⟨W.heap.size + 1 + 1, 2 + i, none⟩ (.int .i64 (x : Int))) l (upd F i x) C f c n D :=
  ⟨tb_setF h.tb hi x, cb_far h.cb (by show W.heap.size + 1 ≠ W.heap.size + 1 + 1; omega) _, map_set h.mp (by show W.heap.size ≠ W.heap.size + 1 + 1; omega) _, h.below.setCell (by show W.heap.size ≤ W.heap.size + 1 + 1; omega) _⟩
theorem ns_congr {F' C' f' c' : Nat → Nat} (h : NS W w l F C f c n D) (h1 : ∀ i, i < 17 → F i = F' i) (h2 : ∀ i, i < 17 → C i = C' i) (h3 : ∀ i, i < l.length → f i = f' i) (h4 : ∀ i, i < l.length → c i = c' i) : NS W w l F' C' f' c' n D :=
  ⟨tb_congr h.tb h1 h2, cb_congr h.cb h3 h4, h.mp, h.below⟩
end
theorem ct_upd {l : List Int} {k n : Nat} (h : k < l.length) (hn : l[k] = (n : Int)) (h0 : 0 < l[k]) (i : Nat) : upd (ct (l.take k)) n (ct (l.take k) n + 1) i = ct (l.take (k + 1)) i := by
  rw [ct_take_succ l k i h]
  by_cases e : i = n
  · subst e; rw [upd_same, if_pos ⟨h0, hn⟩]
  · rw [upd_other _ _ e, if_neg (by omega)]; rfl
theorem ct_keep {l : List Int} {k : Nat} (h : k < l.length) (h0 : ¬ 0 < l[k]) (i : Nat) : ct (l.take k) i = ct (l.take (k + 1)) i := by
  rw [ct_take_succ l k i h, if_neg (by omega)]; rfl
def zf : Nat → Nat := fun _ => 0
theorem ns_step {W w w' : World} {l : List Int} {F C f c : Nat → Nat} {n : Nat} {D : DataW Unit} (h : NS W w l F C f c n D) (hb : Below w.heap.size w w') : NS W w' l F C f c n D :=
  ⟨tb_below h.tb hb, blk_below h.cb hb, h.mp.kept (grown_of_below hb none) (by simp), below_step h.below hb⟩
theorem rowN_one (F : Nat → Nat) : (rowN F).toArray.all (·.oneCell') = true := by
  refine all_oneCell_toArray fun v hv => ?_
  obtain ⟨i, _, rfl⟩ := List.mem_map.1 hv
  rfl
theorem info60 : (Try.prog.info? 60).map (·.size) = some 17 := by kernel_rfl
theorem infoR (F : Nat → Nat) : (Try.prog.info? 60).map (·.size) = some (rowN F).toArray.size := by rw [List.size_toArray, rowN_len]; exact info60
theorem infoL (F : Nat → Nat) : (Try.prog.info? 60).map (·.size) = some (rowN F).length := by rw [rowN_len]; exact info60
theorem tb_range {W : World} {g : Nat} {s m : Value} {F C : Nat → Nat} (h : TB W g s m F C) : W.rangeAt g 2 (rowN F) := by
  intro j v hj
  have hl : j < 17 := by have := (List.getElem?_eq_some_iff.1 hj).1; rwa [rowN_len] at this
  rw [rowN_get _ hl] at hj
  cases hj
  exact tb_F h hl
theorem nx_there {W : World} {g : Nat} {F : Nat → Nat} (h : NX W g F) (G : Nat → Nat) : W.there g 0 (rowN G).toArray.size := by
  intro j hj
  rw [List.size_toArray, rowN_len] at hj
  rw [Nat.zero_add]
  exact ⟨by rw [nx_c h hj]; rfl, nx_f h j⟩
theorem nx_copy {W : World} {g : Nat} {F : Nat → Nat} (h : NX W g F) (G : Nat → Nat) : NX (W.setCells g 0 (rowN G)) g G := by
  obtain ⟨cur', h3, h4, h5⟩ := setCells_row (rowN G) 0 W _ h (by simp [rowN_len])
  have e : cur' = (rowN G).toArray := by
    apply Array.toList_inj.1
    rw [h5, List.take_zero, List.nil_append, List.drop_of_length_le (by rw [List.toList_toArray, rowN_len, rowN_len]; omega), List.append_nil]
  rw [e] at h3
  exact h3
theorem below_cells {B0 g : Nat} {a W : World} (h : Below B0 a W) (hg : B0 ≤ g) (vs : List Value) (o : Nat) : Below B0 a (W.setCells g o vs) := by
  induction vs generalizing o W with
  | nil => exact h
  | cons v r ih => exact ih (h.setCell (p := ⟨g, o, none⟩) hg v) (o + 1)
theorem FK_upd (l : List Int) (k i : Nat) : upd (FK l k) k (fs l k) i = FK l (k + 1) i := by
  by_cases e : i = k
  · subst e; rw [upd_same]; unfold FK; rw [if_pos (by omega)]
  · rw [upd_other _ _ e]; unfold FK
    by_cases h : i < k
    · rw [if_pos h, if_pos (by omega)]
    · rw [if_neg h, if_neg (by omega)]
theorem FK_one (l : List Int) (i : Nat) : zf i = FK l 1 i := by
  unfold FK zf
  by_cases h : i < 1
  · obtain rfl : i = 0 := by omega
    rfl
  · rw [if_neg h]
/-- the new table's blocks, and the row of next codes. -/
structure NT (W w : World) (l : List Int) (gx : Nat) (F C f c nx : Nat → Nat) (n : Nat) (D : DataW Unit) : Prop where
  ns : NS W w l F C f c n D
  nx : NX w gx nx
  gt : W.heap.size + 1 + 1 < gx
theorem nt_drew {W w : World} {l : List Int} {gx : Nat} {F C f c nx : Nat → Nat} {n : Nat} {D : DataW Unit} (h : NT W w l gx F C f c nx n D) : NT W w.drew l gx F C f c nx n D := ⟨ns_drew h.ns, h.nx, h.gt⟩
theorem nt_setF {W w : World} {l : List Int} {gx : Nat} {F C f c nx : Nat → Nat} {n : Nat} {D : DataW Unit} (h : NT W w l gx F C f c nx n D) {i : Nat} (hi : i < 17) (x : Nat) : NT W (w.setCell ⟨W.heap.size + 1 + 1, 2 + i, none⟩ (.int .i64 (x : Int))) l gx (upd F i x) C f c nx n D :=
  ⟨ns_setF h.ns hi x, nx_far h.nx (by have := h.gt; show gx ≠ W.heap.size + 1 + 1; omega) _, h.gt⟩
theorem nt_setN {W w : World} {l : List Int} {gx : Nat} {F C f c nx : Nat → Nat} {n : Nat} {D : DataW Unit} (h : NT W w l gx F C f c nx n D) {i : Nat} (hi : i < 17) (x : Nat) : NT W (w.setCell ⟨gx, i, none⟩ (.int .i64 (x : Int))) l gx F C f c (upd nx i x) n D :=
  ⟨⟨tb_far h.ns.tb (by have := h.gt; show W.heap.size + 1 + 1 ≠ gx; omega) _, cb_far h.ns.cb (by have := h.gt; show W.heap.size + 1 ≠ gx; omega) _, map_set h.ns.mp (by have := h.gt; show W.heap.size ≠ gx; omega) _, h.ns.below.setCell (by have := h.gt; show W.heap.size ≤ gx; omega) _⟩, nx_set h.nx hi x, h.gt⟩
theorem fs_bound {l : List Int} (h : Ok l) (hk : kr l ≤ 32768) (n : Nat) (hn : n ≤ 15) : fs l n + ct l n ≤ 32768 := by
  have h1 := fits h hk n hn
  have h2 : 2 ^ n ≤ 2 ^ 15 := Nat.pow_le_pow_right (by omega) hn
  have e : (2 : Nat) ^ 15 = 32768 := by decide
  omega
/-- the first k symbols' codes. -/
def fc (l : List Int) (k : Nat) : Nat → Nat := fun s => if s < k then ln l s else 0
def cc (l : List Int) (k : Nat) : Nat → Nat := fun s => if s < k then cz l s else 0
def NF (l : List Int) (k : Nat) : Nat → Nat := fun i => FK l 16 i + ct (l.take k) i
theorem fc_zero (l : List Int) (i : Nat) : zf i = fc l 0 i := by unfold fc zf; rw [if_neg (by omega)]
theorem cc_zero (l : List Int) (i : Nat) : zf i = cc l 0 i := by unfold cc zf; rw [if_neg (by omega)]
theorem NF_zero (l : List Int) (i : Nat) : FK l 16 i = NF l 0 i := by unfold NF; rw [List.take_zero, ct_nil]; rfl
/-- 'm[k] = v' as a step of a region that draws. -/
theorem map_put_step {P : Program} {ops : Array Oper} {o : Oper} {a : Act} {Q : Exit → Act → World → Prop} {K : Act → World → Prop} {E : Prop} {w : World} (hw : Region.wanted o (yielded ops a.tmps) = true) (m x v : Operand) (t : TypeId) (hop : o.op = Op.mapUpdate t m x v)
    (k e : TypeId) (KD : Maps.Keyed P k) (ht : P.underlying t = some (.map k e)) (R : Value → Option (DataW Unit × List MemPlace)) (b n : Nat) (D : DataW Unit)
    (hm : a.eval m = .map (some b)) (hown : w.ownsMap P k R b n D) (hn : n < maxLen) (key val : Value) (kl : Lit) (hx : a.eval x = key) (hv : a.eval v = val) (hkey : keyOf P k key = some kl)
    (d : DataW Unit) (ps : List MemPlace) (hval : R val = some (d, ps))
    (h : ∀ w', w'.ownsMap P k R b (n + 1) (D.put kl d) → w.grownBy w' (some b) → K (a.put o.dst undef) w') :
    if Region.wanted o (yielded ops a.tmps) = true then Oper.wp P o a w K Q else E := by
  rw [if_pos hw]
  obtain ⟨w', hrun, r1, r2⟩ := hown.update KD ht hn hkey hval
  unfold Oper.wp
  simp [execOp, hop, hm, hx, hv, hrun, Result.andThen]
  exact h w' r1 r2
section
variable {W w : World} {l : List Int} {gx : Nat} {F C f c nx : Nat → Nat} {n : Nat} {D : DataW Unit}
theorem nt_code (h : NT W w l gx F C f c nx n D) {i : Nat} (hi : i < l.length) (x y : Nat) : NT W ((w.setCell ⟨W.heap.size + 1, i * 2, none⟩ (.int .i64 (x : Int))).setCell ⟨W.heap.size + 1, i * 2 + 1, none⟩ (.int .u32 (y : Int))) l gx F C (upd f i x) (upd c i y) nx n D :=
  have e1 : W.heap.size + 1 + 1 ≠ W.heap.size + 1 := by omega
  have e2 : W.heap.size ≠ W.heap.size + 1 := by omega
  have e3 : gx ≠ W.heap.size + 1 := by have := h.gt; omega
  have e4 : W.heap.size ≤ W.heap.size + 1 := by omega
  ⟨⟨tb_far (tb_far h.ns.tb e1 _) e1 _, cb_set h.ns.cb hi x y, map_set (map_set h.ns.mp e2 _) e2 _, (h.ns.below.setCell e4 _).setCell e4 _⟩, nx_far (nx_far h.nx e3 _) e3 _, h.gt⟩
theorem nt_map {w' : World} {n' : Nat} {D' : DataW Unit} (h : NT W w l gx F C f c nx n D) (hm : w'.ownsMap Try.prog 64 (plainElem (H := Unit) Try.prog 3) W.heap.size n' D') (hg : w.grownBy w' (some W.heap.size)) : NT W w' l gx F C f c nx n' D' :=
  ⟨⟨blk_grown h.ns.tb hg (by simp; omega), blk_grown h.ns.cb hg (by simp), hm, h.ns.below.grown hg h.ns.below.size (fun j hj => by cases hj; exact Nat.le_refl _)⟩, blk_grown h.nx hg (by have := h.gt; simp; omega), h.gt⟩
theorem nt_congr {F' C' f' c' nx' : Nat → Nat} (h : NT W w l gx F C f c nx n D) (h1 : ∀ i, i < 17 → F i = F' i) (h2 : ∀ i, i < 17 → C i = C' i) (h3 : ∀ i, i < l.length → f i = f' i) (h4 : ∀ i, i < l.length → c i = c' i) (h5 : ∀ i, i < 17 → nx i = nx' i) : NT W w l gx F' C' f' c' nx' n D :=
  ⟨ns_congr h.ns h1 h2 h3 h4, nx_congr h.nx h5, h.gt⟩
end
theorem fc_upd (l : List Int) (k n : Nat) (hn : ln l k = n) (i : Nat) : upd (fc l k) k n i = fc l (k + 1) i := by
  by_cases e : i = k
  · subst e; rw [upd_same]; unfold fc; rw [if_pos (by omega), hn]
  · rw [upd_other _ _ e]; unfold fc
    by_cases h : i < k
    · rw [if_pos h, if_pos (by omega)]
    · rw [if_neg h, if_neg (by omega)]
theorem cc_upd (l : List Int) (k x : Nat) (hx : cz l k = x) (i : Nat) : upd (cc l k) k x i = cc l (k + 1) i := by
  by_cases e : i = k
  · subst e; rw [upd_same]; unfold cc; rw [if_pos (by omega), hx]
  · rw [upd_other _ _ e]; unfold cc
    by_cases h : i < k
    · rw [if_pos h, if_pos (by omega)]
    · rw [if_neg h, if_neg (by omega)]
theorem fc_keep {l : List Int} {k : Nat} (hk : k < l.length) (h0 : ¬ 0 < l[k]) (hO : Ok l) (i : Nat) : fc l k i = fc l (k + 1) i := by
  unfold fc
  by_cases e : i = k
  · subst e; rw [if_neg (by omega), if_pos (by omega), ln_of hk]; have := ok_at hO hk; omega
  · by_cases h : i < k
    · rw [if_pos h, if_pos (by omega)]
    · rw [if_neg h, if_neg (by omega)]
theorem cc_keep {l : List Int} {k : Nat} (hk : k < l.length) (h0 : ¬ 0 < l[k]) (i : Nat) : cc l k i = cc l (k + 1) i := by
  unfold cc
  by_cases e : i = k
  · subst e; rw [if_neg (by omega), if_pos (by omega)]; unfold cz; rw [if_neg (by simpa [List.getD, hk] using h0)]
  · by_cases h : i < k
    · rw [if_pos h, if_pos (by omega)]
    · rw [if_neg h, if_neg (by omega)]
theorem NF_upd {l : List Int} {k n : Nat} (h : k < l.length) (hn : l[k] = (n : Int)) (h0 : 0 < l[k]) (i : Nat) : upd (NF l k) n (NF l k n + 1) i = NF l (k + 1) i := by
  unfold NF
  rw [ct_take_succ l k i h]
  by_cases e : i = n
  · subst e; rw [upd_same, if_pos ⟨h0, hn⟩]; omega
  · rw [upd_other _ _ e, if_neg (by omega)]; rfl
theorem NF_keep {l : List Int} {k : Nat} (h : k < l.length) (h0 : ¬ 0 < l[k]) (i : Nat) : NF l k i = NF l (k + 1) i := by
  unfold NF; rw [ct_keep h h0]
theorem us_take {l : List Int} {k : Nat} (h : k < l.length) : us (l.take (k + 1)) = us (l.take k) + if 0 < l[k] then 1 else 0 := by
  unfold us; rw [List.take_succ_eq_append_getElem h, List.countP_append]; congr 1
  simp [List.countP_cons]
theorem us_le (l : List Int) : us l ≤ l.length := List.countP_le_length
theorem us_take_le (l : List Int) (k : Nat) : us (l.take k) ≤ l.length := Nat.le_trans (us_le _) (List.length_take_le' _ _)
theorem ct_take_len (l : List Int) (k n : Nat) : ct (l.take k) n ≤ l.length := Nat.le_trans (ct_le _ _) (List.length_take_le' _ _)
set_option maxHeartbeats 8000000 in
set_option maxRecDepth 100000 in
theorem new_calls (A : Option Addr) (c : Nat) (l : List Int) (W : World) (hr : Kd.C (Kd.int .i64) W A l.length l) (hc : l.length ≤ c) : Calls Try.prog 10 #[.slice A l.length c] W (NewPost l W) := by
  obtain ⟨⟨kk, hkf⟩, _⟩ := krs_f l
  have HKR := Aside0.mk (huffman_Kraft.calls kk A c l _ _ W hr hc hkf)
  have HR := Aside0.mk hr
  clear hkf hr hc
  by_cases hok : Ok l ∧ l.length ≤ 320
  · have e1 : krs l = (((kr l : Nat) : Int), true) := by unfold krs; rw [if_pos hok]
    rw [e1] at HKR
    clear e1
    have hmk := make_codes l.length hok.2
    have hmm := @run_makeMap Try.prog
    have HOK := Aside0.mk hok
    clear hok
    go_enter Try.func10, Try.ntmps10
    go_wp2_with (go_at_call 8; (with_reducible refine (HKR.out).mono ?_); rintro e w1 ⟨rfl, hd⟩; obtain ⟨⟨nd, rfl⟩⟩ := hd)
    clear hmk hmm
    go_loopg [7, 29] (l.length + 1) (fun kq v7 v29 w' => ∃ k : Nat, v7 = .int .i64 (us (l.take k) : Int) ∧ v29 = .int .i64 (k : Int) ∧ k + kq = l.length + 1 ∧ k ≤ l.length ∧ Aside0 (NS W w' l zf (ct (l.take k)) zf zf 0 (.map [])))
    case atStart =>
      obtain ⟨a1, a2, a3, a4⟩ := alloc3 (W.drewN nd) (.map #[] 0) (.cells (codL l.length (fun x => 0) fun x => 0).toArray 64) (.cells (tabL (.slice (some ⟨W.heap.size + 1, 0, none⟩) l.length l.length) (.map (some W.heap.size)) zf zf).toArray 62)
      exact ⟨0, by simp [us], rfl, by omega, by omega, ⟨a3, a2, ((World.ownsMap_made (W.drewN nd) _ _ _).alloc _).alloc _, below_then (pw_below_drewN (Below.refl _ _) nd) (Nat.le_refl _) a4⟩⟩
    case round =>
      obtain ⟨k, rfl, rfl, hkq, hkl, HS⟩ := hrel
      cases gk with
      | zero => exact absurd hkq (by omega)
      | succ k1 =>
      have hl320 := HOK.out.2
      by_cases hlt : k < l.length
      · have hb : decide ((k : Int) < (l.length : Int)) = true := decide_eq_true (by omega)
        have HC := Aside0.mk (Kd.C_below HR.out HS.out.below)
        obtain ⟨ad, rfl, hcell⟩ := Kd.at_int HC.out (k : Int) (by omega) (by omega)
        rw [rd_at hlt, Int.toNat_natCast] at hcell
        have hk0 : (0 : Int) ≤ (k : Int) := by omega
        have hk1 : (k : Int) < (l.length : Int) := by omega
        obtain ⟨o0, o1⟩ := ok_at HOK.out.1 hlt
        have hus := us_take hlt
        have husl := us_take_le l k
        by_cases hp : 0 < l[k]
        · have hpb : decide (0 < l[k]) = true := decide_eq_true hp
          obtain ⟨n, hn⟩ : ∃ n : Nat, l[k] = (n : Int) := ⟨l[k].toNat, by omega⟩
          rw [hn] at hcell hpb
          have HX : Aside0 (l[k] = (n : Int) ∧ 0 < l[k] ∧ n ≤ 15 ∧ us (l.take (k + 1)) = us (l.take k) + 1) := ⟨hn, hp, by omega, by rw [hus, if_pos hp]⟩
          clear hus hp hn o0 o1
          have hn15 : (n : Int) ≤ 15 := by have := HX.out.2.2.1; omega
          have hct := ct_take_len l k n
          have HSd : Aside0 (NS W wr.drew l zf (ct (l.take k)) zf zf 0 (.map [])) := ⟨ns_drew HS.out⟩
          have hcC := tb_C HSd.out.tb (i := n) (by omega)
          have hfC := tb_f HSd.out.tb (19 + n)
          have hn0 : (0 : Int) ≤ (n : Int) := by omega
          have hn17 : (n : Int) < 17 := by omega
          have hn1 : 0 < n := by have := HX.out.2.1; have := HX.out.1; omega
          have hw1 : IntKind.i64.wrap ((ct (l.take k) n : Int) + 1) = ((ct (l.take k) n + 1 : Nat) : Int) := by simp [IntKind.wrap, IntKind.bits, IntKind.signed]; omega
          have HW := Aside0.mk (ns_setC HSd.out (i := n) (by omega) (ct (l.take k) n + 1))
          clear HC hct
          go_wp2
          refine start_ (n := 11) (S := fun w' => w'.cell? ⟨W.heap.size + 1 + 1, 19 + n, none⟩ = some (.int .i64 (ct (l.take k) n : Int))) (ds := [10]) #[false, false, false, false, false, false, false, false, false, false, false] (by kernel_rfl) rfl rfl (hcC) (fun hHeld => ?_)
          generalize wr.drew = w2 at HSd hcC hfC HW hHeld ⊢
          refine pure_ (i := 0) (N := some 37) (v := ?_) (a' := ?_) #[true, false, false, false, false, false, false, false, false, false, false] rfl rfl (by kernel_rfl) (fun _ _ _ h => h) (Or.inl ⟨by rfl, ?_⟩) ?_ ?_
          rotate_left
          · intro w'
            go_simp
            with_reducible rfl
          rotate_left
          · simp only [Act.put, List.setIfInBounds_toArray, List.set_cons_zero, List.set_cons_succ, i64_w, i32_w]
            rfl
          refine pure_ (i := 1) (N := some 38) (v := ?_) (a' := ?_) #[true, true, false, false, false, false, false, false, false, false, false] rfl rfl (by kernel_rfl) (fun _ _ _ h => h) (Or.inl ⟨by rfl, ?_⟩) ?_ ?_
          rotate_left
          · intro w'
            go_simp
            with_reducible rfl
          rotate_left
          · simp only [Act.put, List.setIfInBounds_toArray, List.set_cons_zero, List.set_cons_succ, i64_w, i32_w]
            rfl
          refine pure_ (i := 2) (N := some 39) (v := ?_) (a' := ?_) #[true, true, true, false, false, false, false, false, false, false, false] rfl rfl (by kernel_rfl) (fun _ _ _ h => h) (Or.inl ⟨by rfl, ?_⟩) ?_ ?_
          rotate_left
          · intro w'
            go_simp
            with_reducible rfl
          rotate_left
          · simp only [Act.put, List.setIfInBounds_toArray, List.set_cons_zero, List.set_cons_succ, i64_w, i32_w]
            rfl
          refine pure_ (i := 3) (N := some 40) (v := ?_) (a' := ?_) #[true, true, true, true, false, false, false, false, false, false, false] rfl rfl (by kernel_rfl) (fun _ _ _ h => h) (Or.inl ⟨by rfl, ?_⟩) ?_ ?_
          rotate_left
          · intro w'
            go_simp
            with_reducible rfl
          rotate_left
          · simp only [Act.put, List.setIfInBounds_toArray, List.set_cons_zero, List.set_cons_succ, i64_w, i32_w]
            rfl
          refine pure_ (i := 4) (N := some 41) (v := ?_) (a' := ?_) #[true, true, true, true, true, false, false, false, false, false, false] rfl rfl (by kernel_rfl) (fun _ _ _ h => h) (Or.inl ⟨by rfl, ?_⟩) ?_ ?_
          rotate_left
          · intro w'
            go_simp
            with_reducible rfl
          rotate_left
          · simp only [Act.put, List.setIfInBounds_toArray, List.set_cons_zero, List.set_cons_succ, i64_w, i32_w]
            rfl
          refine pure_ (i := 7) (N := some 44) (v := ?_) (a' := ?_) #[true, true, true, true, true, false, false, true, false, false, false] rfl rfl (by kernel_rfl) (fun _ _ _ h => h) (Or.inl ⟨by rfl, ?_⟩) ?_ ?_
          rotate_left
          · intro w'
            go_simp
            with_reducible rfl
          rotate_left
          · simp only [Act.put, List.setIfInBounds_toArray, List.set_cons_zero, List.set_cons_succ, i64_w, i32_w]
            rfl
          refine pure_ (i := 8) (N := some 45) (v := ?_) (a' := ?_) #[true, true, true, true, true, false, false, true, true, false, false] rfl rfl (by kernel_rfl) (fun _ _ _ h => h) (Or.inl ⟨by rfl, ?_⟩) ?_ ?_
          rotate_left
          · intro w'
            go_simp
            with_reducible rfl
          rotate_left
          · simp only [Act.put, List.setIfInBounds_toArray, List.set_cons_zero, List.set_cons_succ, i64_w, i32_w]
            rfl
          refine take_ (i := 5) (N := some 42) (v := ?_) (a' := ?_) #[true, true, true, true, true, true, false, true, true, false, false] rfl rfl (by kernel_rfl) (fun _ _ _ h => h) (Or.inl ⟨by rfl, ?_⟩) hHeld ?_ ?_
          rotate_left
          · intro w' s0
            go_simp
            with_reducible rfl
          rotate_left
          · simp only [Act.put, List.setIfInBounds_toArray, List.set_cons_zero, List.set_cons_succ, i64_w, i32_w]
            rfl
          refine pure_ (i := 6) (N := some 43) (v := ?_) (a' := ?_) #[true, true, true, true, true, true, true, true, true, false, false] rfl rfl (by kernel_rfl) (fun _ _ _ h => h) (Or.inl ⟨by rfl, ?_⟩) ?_ ?_
          rotate_left
          · intro w'
            go_simp
            with_reducible rfl
          rotate_left
          · simp only [Act.put, List.setIfInBounds_toArray, List.set_cons_zero, List.set_cons_succ, i64_w, i32_w]
            rfl
          refine pure_ (i := 9) (N := some 46) (v := ?_) (a' := ?_) #[true, true, true, true, true, true, true, true, true, true, false] rfl rfl (by kernel_rfl) (fun _ _ _ h => h) (Or.inl ⟨by rfl, ?_⟩) ?_ ?_
          rotate_left
          · intro w'
            go_simp
            with_reducible rfl
          rotate_left
          · simp only [Act.put, List.setIfInBounds_toArray, List.set_cons_zero, List.set_cons_succ, i64_w, i32_w]
            rfl
          refine last_ (i := 10) (N := none) #[true, true, true, true, true, true, true, true, true, true, true] rfl rfl (by kernel_rfl) (by decide) (fun K hK => ?_)
          refine skip_ (w1 := ?_) (by rfl) rfl ?_ ?_
          rotate_left
          · go_simp
            rfl
          refine hK.out _ _ ?_
          clear hK K
          refine done_ (by kernel_rfl) ?_
          go_wp2
          go_roundg k1
          case measure => omega
          case rel => exact ⟨k + 1, by rw [HX.out.2.2.2]; rfl, rfl, by omega, by omega, ⟨ns_congr HW.out (fun _ _ => rfl) (fun i _ => ct_upd hlt HX.out.1 HX.out.2.1 i) (fun _ _ => rfl) (fun _ _ => rfl)⟩⟩
        · have hpb : decide (0 < l[k]) = false := decide_eq_false hp
          rw [if_neg hp] at hus
          have HX := Aside0.mk hus
          have HW : Aside0 (NS W wr l zf (ct (l.take (k + 1))) zf zf 0 (.map [])) := ⟨ns_congr HS.out (fun _ _ => rfl) (fun i _ => ct_keep hlt hp i) (fun _ _ => rfl) (fun _ _ => rfl)⟩
          generalize l[k] = x at *
          clear hus hp o0 o1
          go_wp2
          go_roundg k1
          case measure => omega
          case rel => exact ⟨k + 1, by rw [HX.out]; rfl, rfl, by omega, by omega, HW⟩
      · have hb : decide ((k : Int) < (l.length : Int)) = false := decide_eq_false (by omega)
        obtain rfl : k = l.length := by omega
        rw [List.take_length] at HS ⊢
        clear hkq hkl hlt
        have hc1 : wr.cell? ⟨W.heap.size + 1 + 1, 20, none⟩ = some (.int .i64 (ct l 1 : Int)) := tb_C HS.out.tb (i := 1) (by omega)
        go_upto_block 2 with (fail)
        go_cut [] (fun wc => Aside0 (NS W wc l zf (ct l) zf zf 0 (.map [])) ∧ Aside0 (er l = 0))
        case first =>
          by_cases h1 : 32768 < kr l
          · have h1a : decide ((32768 : Int) < (kr l : Int)) = true := decide_eq_true (by omega)
            have E := Aside0.mk (er_80 HOK.out h1)
            clear h1
            go_wp2
            go_ret2
            exact .inl ⟨by rw [E.out]; decide, by rw [E.out]; rfl, HS.out.below⟩
          · have h1a : decide ((32768 : Int) < (kr l : Int)) = false := decide_eq_false (by omega)
            by_cases h2 : kr l < 32768
            · have h2a : decide ((kr l : Int) < 32768) = true := decide_eq_true (by omega)
              by_cases h3 : 0 < us l
              · have h3a : decide (0 < us l) = true := decide_eq_true h3
                by_cases h4 : us l = 1
                · have h4a : ((us l : Int) == 1) = true := beq_iff_eq.2 (by omega)
                  by_cases h5 : ct l 1 = 1
                  · have h5a : ((ct l 1 : Int) == 1) = true := beq_iff_eq.2 (by omega)
                    have E := Aside0.mk (er_0 HOK.out (by omega) (.inr (.inr ⟨h4, h5⟩)))
                    clear h1 h2 h3 h4 h5
                    go_wp2
                    go_meet
                    case rel => exact ⟨HS, E⟩
                  · have h5a : ((ct l 1 : Int) == 1) = false := beq_eq_false_iff_ne.2 (by omega)
                    have E := Aside0.mk (er_81 HOK.out h2 h3 (fun h => h5 h.2))
                    clear h1 h2 h3 h4 h5
                    go_wp2
                    go_ret2
                    exact .inl ⟨by rw [E.out]; decide, by rw [E.out]; rfl, HS.out.below⟩
                · have h4a : ((us l : Int) == 1) = false := beq_eq_false_iff_ne.2 (by omega)
                  have E := Aside0.mk (er_81 HOK.out h2 h3 (fun h => h4 h.1))
                  clear h1 h2 h3 h4
                  go_wp2
                  go_ret2
                  exact .inl ⟨by rw [E.out]; decide, by rw [E.out]; rfl, HS.out.below⟩
              · have h3a : decide (0 < us l) = false := decide_eq_false h3
                have E := Aside0.mk (er_0 HOK.out (by omega) (.inr (.inl (by omega))))
                clear h1 h2 h3
                go_wp2
                go_meet
                case rel => exact ⟨HS, E⟩
            · have h2a : decide ((kr l : Int) < 32768) = false := decide_eq_false (by omega)
              have E := Aside0.mk (er_0 HOK.out (by omega) (.inl (by omega)))
              clear h1 h2
              go_wp2
              go_meet
              case rel => exact ⟨HS, E⟩
        case rest =>
          clear HS hc1
          obtain ⟨HS, E⟩ := hcut
          have HRG := Aside0.mk (tb_range HS.out.tb)
          have HN0 : Aside0 (NX (wc.alloc (.cells (rowN zf).toArray 60)) wc.heap.size zf) := ⟨blk_new wc _⟩
          have HTH := Aside0.mk (nx_there HN0.out zf)
          go_wp2_with (first
            | ((with_reducible refine wpList_load_mid ?_ 60 (.tmp 73) ?_ (W.heap.size + 1 + 1) 2 ?_ (rowN zf) _ HRG.out Try.underlying60 ?_ (infoL zf) ?_); (· rfl); (· rfl); (· rfl); (· rfl))
            | ((refine wpList_store_mid ?_ 60 (.tmp 10) (.tmp 74) ?_ wc.heap.size 0 (rowN zf).toArray ?_ ?_ ?_ (infoR zf) (rowN_one zf) ?_); (· rfl); (· rfl); (· rfl); (· rfl); (· exact HTH.out)))
          have hgt : W.heap.size + 1 + 1 < wc.heap.size := blk_lt HS.out.tb
          have HB3 : Below wc.heap.size wc (World.setCells (wc.alloc (.cells (rowN zf).toArray 60)) wc.heap.size 0 (rowN zf)) := below_cells (below_alloc (Below.refl _ _) _) (Nat.le_refl _) _ _
          have HT0 : Aside0 (NT W (World.setCells (wc.alloc (.cells (rowN zf).toArray 60)) wc.heap.size 0 (rowN zf)) l wc.heap.size (FK l 1) (ct l) zf zf (FK l 1) 0 (.map [])) :=
            ⟨ns_congr (ns_step HS.out HB3) (fun i _ => FK_one l i) (fun _ _ => rfl) (fun _ _ => rfl) (fun _ _ => rfl), nx_congr (nx_copy HN0.out zf) (fun i _ => FK_one l i), hgt⟩
          clear HRG HN0 HTH HB3 HS hgt
          generalize wc.heap.size = gx at *
          go_loopg [11] 17 (fun kq v11 w' => ∃ k : Nat, v11 = .int .i64 (k : Int) ∧ k + kq = 18 ∧ 1 ≤ k ∧ k ≤ 16 ∧ Aside0 (NT W w' l gx (FK l k) (ct l) zf zf (FK l k) 0 (.map [])))
          case atStart => exact ⟨1, rfl, by omega, by omega, by omega, HT0⟩
          case round =>
            clear HT0
            obtain ⟨k, rfl, hkq, hk1, hk16, HT⟩ := hrel
            cases gk with
            | zero => exact absurd hkq (by omega)
            | succ k1 =>
            by_cases hlt : k ≤ 15
            · have hb : decide ((k : Int) ≤ 15) = true := decide_eq_true (by omega)
              have hb2 : decide (k ≤ 15) = true := decide_eq_true (by omega)
              obtain ⟨j, hj⟩ : ∃ j, k = j + 1 := ⟨k - 1, by omega⟩
              have hkj : IntKind.i64.wrap ((k : Int) - 1) = (j : Int) := by simp [IntKind.wrap, IntKind.bits, IntKind.signed]; omega
              have hEO := er_ok E.out
              have hbd := fs_bound hEO.1 hEO.2.2 j (by omega)
              have HTd : Aside0 (NT W wr.drew l gx (FK l k) (ct l) zf zf (FK l k) 0 (.map [])) := ⟨nt_drew HT.out⟩
              have hcF := tb_F HTd.out.ns.tb (i := j) (by omega)
              rw [show FK l k j = fs l j by unfold FK; rw [if_pos (by omega)]] at hcF
              have hcC := tb_C HTd.out.ns.tb (i := j) (by omega)
              have hfk : fs l k = 2 * (fs l j + ct l j) := by rw [hj]; rfl
              have hcS := tb_F HTd.out.ns.tb (i := k) (by omega)
              have hfS := tb_f HTd.out.ns.tb (2 + k)
              have HW := Aside0.mk (nt_setF HTd.out (i := k) (by omega) (fs l k))
              generalize fs l j = a at *
              generalize ct l j = b at *
              have hs1 : IntKind.i64.wrap ((a : Int) + (b : Int)) = ((a + b : Nat) : Int) := by simp [IntKind.wrap, IntKind.bits, IntKind.signed]; omega
              have hs2 : IntKind.i64.wrap (2 * ((a + b : Nat) : Int)) = ((fs l k : Nat) : Int) := by rw [hfk]; simp [IntKind.wrap, IntKind.bits, IntKind.signed]; omega
              have HFK := Aside0.mk hfk
              have HJ := Aside0.mk hj
              have hk0 : (0 : Int) ≤ (k : Int) := by omega
              have hk17 : (k : Int) < 17 := by omega
              have hj0 : (0 : Int) ≤ (j : Int) := by omega
              have hj17 : (j : Int) < 17 := by omega
              clear hfk hj hEO hbd HT
              generalize a + b = s at *
              go_wp2
              refine start_ (n := 22) (S := fun w' => w'.cell? ⟨W.heap.size + 1 + 1, 2 + j, none⟩ = some (.int .i64 (a : Int)) ∧ w'.cell? ⟨W.heap.size + 1 + 1, 19 + j, none⟩ = some (.int .i64 (b : Int))) (ds := [21]) #[false, false, false, false, false, false, false, false, false, false, false, false, false, false, false, false, false, false, false, false, false, false] (by kernel_rfl) rfl rfl ⟨hcF, hcC⟩ (fun hHeld => ?_)
              generalize wr.drew = w2 at HTd hcF hcC hcS hfS HW hHeld ⊢
              refine pure_ (i := 0) (N := some 79) (v := ?_) (a' := ?_) #[true, false, false, false, false, false, false, false, false, false, false, false, false, false, false, false, false, false, false, false, false, false] rfl rfl (by kernel_rfl) (fun _ _ _ h => h) (Or.inl ⟨by rfl, ?_⟩) ?_ ?_
              rotate_left
              · intro w'
                go_simp
                with_reducible rfl
              rotate_left
              · simp only [Act.put, List.setIfInBounds_toArray, List.set_cons_zero, List.set_cons_succ, i64_w, i32_w]
                rfl
              refine pure_ (i := 1) (N := some 80) (v := ?_) (a' := ?_) #[true, true, false, false, false, false, false, false, false, false, false, false, false, false, false, false, false, false, false, false, false, false] rfl rfl (by kernel_rfl) (fun _ _ _ h => h) (Or.inl ⟨by rfl, ?_⟩) ?_ ?_
              rotate_left
              · intro w'
                go_simp
                with_reducible rfl
              rotate_left
              · simp only [Act.put, List.setIfInBounds_toArray, List.set_cons_zero, List.set_cons_succ, i64_w, i32_w]
                rfl
              refine pure_ (i := 2) (N := some 81) (v := ?_) (a' := ?_) #[true, true, true, false, false, false, false, false, false, false, false, false, false, false, false, false, false, false, false, false, false, false] rfl rfl (by kernel_rfl) (fun _ _ _ h => h) (Or.inl ⟨by rfl, ?_⟩) ?_ ?_
              rotate_left
              · intro w'
                go_simp
                with_reducible rfl
              rotate_left
              · simp only [Act.put, List.setIfInBounds_toArray, List.set_cons_zero, List.set_cons_succ, i64_w, i32_w]
                rfl
              refine pure_ (i := 3) (N := some 82) (v := ?_) (a' := ?_) #[true, true, true, true, false, false, false, false, false, false, false, false, false, false, false, false, false, false, false, false, false, false] rfl rfl (by kernel_rfl) (fun _ _ _ h => h) (Or.inl ⟨by rfl, ?_⟩) ?_ ?_
              rotate_left
              · intro w'
                go_simp
                with_reducible rfl
              rotate_left
              · simp only [Act.put, List.setIfInBounds_toArray, List.set_cons_zero, List.set_cons_succ, i64_w, i32_w]
                rfl
              refine pure_ (i := 4) (N := some 83) (v := ?_) (a' := ?_) #[true, true, true, true, true, false, false, false, false, false, false, false, false, false, false, false, false, false, false, false, false, false] rfl rfl (by kernel_rfl) (fun _ _ _ h => h) (Or.inl ⟨by rfl, ?_⟩) ?_ ?_
              rotate_left
              · intro w'
                go_simp
                with_reducible rfl
              rotate_left
              · simp only [Act.put, List.setIfInBounds_toArray, List.set_cons_zero, List.set_cons_succ, i64_w, i32_w]
                rfl
              refine pure_ (i := 5) (N := some 84) (v := ?_) (a' := ?_) #[true, true, true, true, true, true, false, false, false, false, false, false, false, false, false, false, false, false, false, false, false, false] rfl rfl (by kernel_rfl) (fun _ _ _ h => h) (Or.inl ⟨by rfl, ?_⟩) ?_ ?_
              rotate_left
              · intro w'
                go_simp
                with_reducible rfl
              rotate_left
              · simp only [Act.put, List.setIfInBounds_toArray, List.set_cons_zero, List.set_cons_succ, i64_w, i32_w]
                rfl
              refine pure_ (i := 6) (N := some 85) (v := ?_) (a' := ?_) #[true, true, true, true, true, true, true, false, false, false, false, false, false, false, false, false, false, false, false, false, false, false] rfl rfl (by kernel_rfl) (fun _ _ _ h => h) (Or.inl ⟨by rfl, ?_⟩) ?_ ?_
              rotate_left
              · intro w'
                go_simp
                with_reducible rfl
              rotate_left
              · simp only [Act.put, List.setIfInBounds_toArray, List.set_cons_zero, List.set_cons_succ, i64_w, i32_w]
                rfl
              refine pure_ (i := 7) (N := some 86) (v := ?_) (a' := ?_) #[true, true, true, true, true, true, true, true, false, false, false, false, false, false, false, false, false, false, false, false, false, false] rfl rfl (by kernel_rfl) (fun _ _ _ h => h) (Or.inl ⟨by rfl, ?_⟩) ?_ ?_
              rotate_left
              · intro w'
                go_simp
                with_reducible rfl
              rotate_left
              · simp only [Act.put, List.setIfInBounds_toArray, List.set_cons_zero, List.set_cons_succ, i64_w, i32_w]
                rfl
              refine pure_ (i := 9) (N := some 88) (v := ?_) (a' := ?_) #[true, true, true, true, true, true, true, true, false, true, false, false, false, false, false, false, false, false, false, false, false, false] rfl rfl (by kernel_rfl) (fun _ _ _ h => h) (Or.inl ⟨by rfl, ?_⟩) ?_ ?_
              rotate_left
              · intro w'
                go_simp
                with_reducible rfl
              rotate_left
              · simp only [Act.put, List.setIfInBounds_toArray, List.set_cons_zero, List.set_cons_succ, i64_w, i32_w]
                rfl
              refine pure_ (i := 10) (N := some 89) (v := ?_) (a' := ?_) #[true, true, true, true, true, true, true, true, false, true, true, false, false, false, false, false, false, false, false, false, false, false] rfl rfl (by kernel_rfl) (fun _ _ _ h => h) (Or.inl ⟨by rfl, ?_⟩) ?_ ?_
              rotate_left
              · intro w'
                go_simp
                with_reducible rfl
              rotate_left
              · simp only [Act.put, List.setIfInBounds_toArray, List.set_cons_zero, List.set_cons_succ, i64_w, i32_w]
                rfl
              refine pure_ (i := 11) (N := some 90) (v := ?_) (a' := ?_) #[true, true, true, true, true, true, true, true, false, true, true, true, false, false, false, false, false, false, false, false, false, false] rfl rfl (by kernel_rfl) (fun _ _ _ h => h) (Or.inl ⟨by rfl, ?_⟩) ?_ ?_
              rotate_left
              · intro w'
                go_simp
                with_reducible rfl
              rotate_left
              · simp only [Act.put, List.setIfInBounds_toArray, List.set_cons_zero, List.set_cons_succ, i64_w, i32_w]
                rfl
              refine pure_ (i := 12) (N := some 91) (v := ?_) (a' := ?_) #[true, true, true, true, true, true, true, true, false, true, true, true, true, false, false, false, false, false, false, false, false, false] rfl rfl (by kernel_rfl) (fun _ _ _ h => h) (Or.inl ⟨by rfl, ?_⟩) ?_ ?_
              rotate_left
              · intro w'
                go_simp
                with_reducible rfl
              rotate_left
              · simp only [Act.put, List.setIfInBounds_toArray, List.set_cons_zero, List.set_cons_succ, i64_w, i32_w]
                rfl
              refine pure_ (i := 13) (N := some 92) (v := ?_) (a' := ?_) #[true, true, true, true, true, true, true, true, false, true, true, true, true, true, false, false, false, false, false, false, false, false] rfl rfl (by kernel_rfl) (fun _ _ _ h => h) (Or.inl ⟨by rfl, ?_⟩) ?_ ?_
              rotate_left
              · intro w'
                go_simp
                with_reducible rfl
              rotate_left
              · simp only [Act.put, List.setIfInBounds_toArray, List.set_cons_zero, List.set_cons_succ, i64_w, i32_w]
                rfl
              refine pure_ (i := 14) (N := some 93) (v := ?_) (a' := ?_) #[true, true, true, true, true, true, true, true, false, true, true, true, true, true, true, false, false, false, false, false, false, false] rfl rfl (by kernel_rfl) (fun _ _ _ h => h) (Or.inl ⟨by rfl, ?_⟩) ?_ ?_
              rotate_left
              · intro w'
                go_simp
                with_reducible rfl
              rotate_left
              · simp only [Act.put, List.setIfInBounds_toArray, List.set_cons_zero, List.set_cons_succ, i64_w, i32_w]
                rfl
              refine pure_ (i := 18) (N := some 97) (v := ?_) (a' := ?_) #[true, true, true, true, true, true, true, true, false, true, true, true, true, true, true, false, false, false, true, false, false, false] rfl rfl (by kernel_rfl) (fun _ _ _ h => h) (Or.inl ⟨by rfl, ?_⟩) ?_ ?_
              rotate_left
              · intro w'
                go_simp
                with_reducible rfl
              rotate_left
              · simp only [Act.put, List.setIfInBounds_toArray, List.set_cons_zero, List.set_cons_succ, i64_w, i32_w]
                rfl
              refine pure_ (i := 19) (N := some 98) (v := ?_) (a' := ?_) #[true, true, true, true, true, true, true, true, false, true, true, true, true, true, true, false, false, false, true, true, false, false] rfl rfl (by kernel_rfl) (fun _ _ _ h => h) (Or.inl ⟨by rfl, ?_⟩) ?_ ?_
              rotate_left
              · intro w'
                go_simp
                with_reducible rfl
              rotate_left
              · simp only [Act.put, List.setIfInBounds_toArray, List.set_cons_zero, List.set_cons_succ, i64_w, i32_w]
                rfl
              refine take_ (i := 8) (N := some 87) (v := ?_) (a' := ?_) #[true, true, true, true, true, true, true, true, true, true, true, true, true, true, true, false, false, false, true, true, false, false] rfl rfl (by kernel_rfl) (fun _ _ _ h => h) (Or.inl ⟨by rfl, ?_⟩) hHeld ?_ ?_
              rotate_left
              · rintro w' ⟨s0, s1⟩
                go_simp
                with_reducible rfl
              rotate_left
              · simp only [Act.put, List.setIfInBounds_toArray, List.set_cons_zero, List.set_cons_succ, i64_w, i32_w]
                rfl
              refine take_ (i := 15) (N := some 94) (v := ?_) (a' := ?_) #[true, true, true, true, true, true, true, true, true, true, true, true, true, true, true, true, false, false, true, true, false, false] rfl rfl (by kernel_rfl) (fun _ _ _ h => h) (Or.inl ⟨by rfl, ?_⟩) hHeld ?_ ?_
              rotate_left
              · rintro w' ⟨s0, s1⟩
                go_simp
                with_reducible rfl
              rotate_left
              · simp only [Act.put, List.setIfInBounds_toArray, List.set_cons_zero, List.set_cons_succ, i64_w, i32_w]
                rfl
              refine pure_ (i := 16) (N := some 95) (v := ?_) (a' := ?_) #[true, true, true, true, true, true, true, true, true, true, true, true, true, true, true, true, true, false, true, true, false, false] rfl rfl (by kernel_rfl) (fun _ _ _ h => h) (Or.inl ⟨by rfl, ?_⟩) ?_ ?_
              rotate_left
              · intro w'
                go_simp
                with_reducible rfl
              rotate_left
              · simp only [Act.put, List.setIfInBounds_toArray, List.set_cons_zero, List.set_cons_succ, i64_w, i32_w]
                rfl
              refine pure_ (i := 17) (N := some 96) (v := ?_) (a' := ?_) #[true, true, true, true, true, true, true, true, true, true, true, true, true, true, true, true, true, true, true, true, false, false] rfl rfl (by kernel_rfl) (fun _ _ _ h => h) (Or.inl ⟨by rfl, ?_⟩) ?_ ?_
              rotate_left
              · intro w'
                go_simp
                with_reducible rfl
              rotate_left
              · simp only [Act.put, List.setIfInBounds_toArray, List.set_cons_zero, List.set_cons_succ, i64_w, i32_w]
                rfl
              refine pure_ (i := 20) (N := some 99) (v := ?_) (a' := ?_) #[true, true, true, true, true, true, true, true, true, true, true, true, true, true, true, true, true, true, true, true, true, false] rfl rfl (by kernel_rfl) (fun _ _ _ h => h) (Or.inl ⟨by rfl, ?_⟩) ?_ ?_
              rotate_left
              · intro w'
                go_simp
                with_reducible rfl
              rotate_left
              · simp only [Act.put, List.setIfInBounds_toArray, List.set_cons_zero, List.set_cons_succ, i64_w, i32_w]
                rfl
              refine last_ (i := 21) (N := none) #[true, true, true, true, true, true, true, true, true, true, true, true, true, true, true, true, true, true, true, true, true, true] rfl rfl (by kernel_rfl) (by decide) (fun K hK => ?_)
              refine skip_ (w1 := ?_) (by rfl) rfl ?_ ?_
              rotate_left
              · go_simp
                rfl
              refine hK.out _ _ ?_
              clear hK K
              refine done_ (by kernel_rfl) ?_
              clear hcF hcC hcS hfS hs1 hs2 HTd hHeld
              generalize w2.setCell ⟨W.heap.size + 1 + 1, 2 + k, none⟩ (.int .i64 ((fs l k : Nat) : Int)) = w3 at *
              have h3F := tb_F HW.out.ns.tb (i := k) (by omega)
              rw [upd_same] at h3F
              have h3n := nx_c HW.out.nx (i := k) (by omega)
              have h3f := nx_f HW.out.nx k
              have HW4 : Aside0 (NT W (w3.setCell ⟨gx, k, none⟩ (.int .i64 ((fs l k : Nat) : Int))) l gx (FK l (k + 1)) (ct l) zf zf (FK l (k + 1)) 0 (.map [])) := by
                have h := nt_setN HW.out (i := k) (by omega) (fs l k)
                exact ⟨ns_congr h.ns (fun i _ => FK_upd l k i) (fun _ _ => rfl) (fun _ _ => rfl) (fun _ _ => rfl), nx_congr h.nx (fun i _ => FK_upd l k i), h.gt⟩
              clear HW
              generalize fs l k = x at *
              go_wp2
              go_roundg k1
              case measure => omega
              case rel => exact ⟨k + 1, rfl, by omega, by omega, by omega, HW4⟩
            · have hb : decide ((k : Int) ≤ 15) = false := decide_eq_false (by omega)
              have hb2 : decide (k ≤ 15) = false := decide_eq_false (by omega)
              obtain rfl : k = 16 := by omega
              clear hkq hk1 hk16 hlt
              have HT0 : Aside0 (NT W wr l gx (FK l 16) (ct l) (fc l 0) (cc l 0) (NF l 0) 0 (.map [])) := ⟨ns_congr HT.out.ns (fun _ _ => rfl) (fun _ _ => rfl) (fun i _ => fc_zero l i) (fun i _ => cc_zero l i), nx_congr HT.out.nx (fun i _ => NF_zero l i), HT.out.gt⟩
              clear HT
              go_wp2
              go_loopg [110] (l.length + 1) (fun kq v110 w' => ∃ (k n : Nat) (D : DataW Unit), v110 = .int .i64 (k : Int) ∧ k + kq = l.length + 1 ∧ k ≤ l.length ∧ n ≤ k ∧ Aside0 (MD l k D) ∧ Aside0 (NT W w' l gx (FK l 16) (ct l) (fc l k) (cc l k) (NF l k) n D))
              case atStart => exact ⟨0, 0, _, rfl, by omega, by omega, by omega, ⟨md_zero l⟩, HT0⟩
              case round =>
                clear HT0
                obtain ⟨k, n0, D, rfl, hkq, hkl, hn0, HM, HT⟩ := hrel
                cases gk with
                | zero => exact absurd hkq (by omega)
                | succ k2 =>
                have hEO := Aside0.mk (er_ok E.out)
                have hl320 := hEO.out.2.1
                by_cases hlt : k < l.length
                · have hb : decide ((k : Int) < (l.length : Int)) = true := decide_eq_true (by omega)
                  have HC := Aside0.mk (Kd.C_below HR.out HT.out.ns.below)
                  obtain ⟨ad, rfl, hcell⟩ := Kd.at_int HC.out (k : Int) (by omega) (by omega)
                  rw [rd_at hlt, Int.toNat_natCast] at hcell
                  have hk0 : (0 : Int) ≤ (k : Int) := by omega
                  have hk1 : (k : Int) < (l.length : Int) := by omega
                  obtain ⟨o0, o1⟩ := ok_at hEO.out.1 hlt
                  by_cases hp : 0 < l[k]
                  · have hpb : decide (0 < l[k]) = true := decide_eq_true hp
                    obtain ⟨n, hn⟩ : ∃ n : Nat, l[k] = (n : Int) := ⟨l[k].toNat, by omega⟩
                    have hln : ln l k = n := by rw [ln_of hlt, hn]; simp
                    have hcd : NF l k n = cd l k := by unfold NF cd FK; rw [hln, if_pos (by omega)]
                    have hbd := cd_bound hEO.out.1 hEO.out.2.2 hlt hp
                    have hcb : cd l k < 32768 := by
                      have h2 : 2 ^ ln l k ≤ 2 ^ 15 := Nat.pow_le_pow_right (by omega) hbd.1
                      have e : (2 : Nat) ^ 15 = 32768 := by decide
                      omega
                    rw [hn] at hcell hpb
                    have HX : Aside0 (l[k] = (n : Int) ∧ 0 < l[k] ∧ n ≤ 15 ∧ ln l k = n) := ⟨hn, hp, by omega, hln⟩
                    have hn1 : 0 < n := by omega
                    have hnn : (0 : Int) ≤ (n : Int) := by omega
                    have hn17 : (n : Int) < 17 := by omega
                    have HTd : Aside0 (NT W wr.drew l gx (FK l 16) (ct l) (fc l k) (cc l k) (NF l k) n0 D) := ⟨nt_drew HT.out⟩
                    have hc0 := tb_c0 HTd.out.ns.tb
                    have hcN := nx_c HTd.out.nx (i := n) (by omega)
                    rw [hcd] at hcN
                    have hu : IntKind.u32.wrap ((cd l k : Nat) : Int) = ((cd l k : Nat) : Int) := by simp [IntKind.wrap, IntKind.bits, IntKind.signed]; omega
                    have hb0 := cb_0 HTd.out.ns.cb hlt
                    have hb1 := cb_1 HTd.out.ns.cb hlt
                    have hf0 := cb_f HTd.out.ns.cb (k * 2)
                    have hf1 := cb_f HTd.out.ns.cb (k * 2 + 1)
                    have HCD := Aside0.mk hcd
                    clear hn hln hcd hbd hp o0 o1 HT HC
                    obtain ⟨x, hx⟩ : ∃ x, cd l k = x := ⟨_, rfl⟩
                    rw [hx] at hcN hu hcb HCD
                    have HXX := Aside0.mk hx
                    have HXC : Aside0 (x < 32768) := ⟨hcb⟩
                    clear hx hcb
                    go_wp2
                    refine start_ (n := 13) (S := fun w' => w'.cell? ⟨W.heap.size + 1 + 1, 0, none⟩ = some (.slice (some ⟨W.heap.size + 1, 0, none⟩) l.length l.length) ∧ w'.cell? ⟨gx, n, none⟩ = some (.int .i64 (x : Int))) (ds := [12]) #[false, false, false, false, false, false, false, false, false, false, false, false, false] (by kernel_rfl) rfl rfl ⟨hc0, hcN⟩ (fun hHeld => ?_)
                    generalize wr.drew = w2 at HTd hc0 hcN hb0 hb1 hf0 hf1 hHeld ⊢
                    refine pure_ (i := 0) (N := some 117) (v := ?_) (a' := ?_) #[true, false, false, false, false, false, false, false, false, false, false, false, false] rfl rfl (by kernel_rfl) (fun _ _ _ h => h) (Or.inl ⟨by rfl, ?_⟩) ?_ ?_
                    rotate_left
                    · intro w'
                      go_simp
                      with_reducible rfl
                    rotate_left
                    · simp only [Act.put, List.setIfInBounds_toArray, List.set_cons_zero, List.set_cons_succ, i64_w, i32_w]
                      rfl
                    refine pure_ (i := 1) (N := some 118) (v := ?_) (a' := ?_) #[true, true, false, false, false, false, false, false, false, false, false, false, false] rfl rfl (by kernel_rfl) (fun _ _ _ h => h) (Or.inl ⟨by rfl, ?_⟩) ?_ ?_
                    rotate_left
                    · intro w'
                      go_simp
                      with_reducible rfl
                    rotate_left
                    · simp only [Act.put, List.setIfInBounds_toArray, List.set_cons_zero, List.set_cons_succ, i64_w, i32_w]
                      rfl
                    refine pure_ (i := 2) (N := some 119) (v := ?_) (a' := ?_) #[true, true, true, false, false, false, false, false, false, false, false, false, false] rfl rfl (by kernel_rfl) (fun _ _ _ h => h) (Or.inl ⟨by rfl, ?_⟩) ?_ ?_
                    rotate_left
                    · intro w'
                      go_simp
                      with_reducible rfl
                    rotate_left
                    · simp only [Act.put, List.setIfInBounds_toArray, List.set_cons_zero, List.set_cons_succ, i64_w, i32_w]
                      rfl
                    refine pure_ (i := 4) (N := some 121) (v := ?_) (a' := ?_) #[true, true, true, false, true, false, false, false, false, false, false, false, false] rfl rfl (by kernel_rfl) (fun _ _ _ h => h) (Or.inl ⟨by rfl, ?_⟩) ?_ ?_
                    rotate_left
                    · intro w'
                      go_simp
                      with_reducible rfl
                    rotate_left
                    · simp only [Act.put, List.setIfInBounds_toArray, List.set_cons_zero, List.set_cons_succ, i64_w, i32_w]
                      rfl
                    refine pure_ (i := 5) (N := some 122) (v := ?_) (a' := ?_) #[true, true, true, false, true, true, false, false, false, false, false, false, false] rfl rfl (by kernel_rfl) (fun _ _ _ h => h) (Or.inl ⟨by rfl, ?_⟩) ?_ ?_
                    rotate_left
                    · intro w'
                      go_simp
                      with_reducible rfl
                    rotate_left
                    · simp only [Act.put, List.setIfInBounds_toArray, List.set_cons_zero, List.set_cons_succ, i64_w, i32_w]
                      rfl
                    refine pure_ (i := 6) (N := some 123) (v := ?_) (a' := ?_) #[true, true, true, false, true, true, true, false, false, false, false, false, false] rfl rfl (by kernel_rfl) (fun _ _ _ h => h) (Or.inl ⟨by rfl, ?_⟩) ?_ ?_
                    rotate_left
                    · intro w'
                      go_simp
                      with_reducible rfl
                    rotate_left
                    · simp only [Act.put, List.setIfInBounds_toArray, List.set_cons_zero, List.set_cons_succ, i64_w, i32_w]
                      rfl
                    refine pure_ (i := 7) (N := some 124) (v := ?_) (a' := ?_) #[true, true, true, false, true, true, true, true, false, false, false, false, false] rfl rfl (by kernel_rfl) (fun _ _ _ h => h) (Or.inl ⟨by rfl, ?_⟩) ?_ ?_
                    rotate_left
                    · intro w'
                      go_simp
                      with_reducible rfl
                    rotate_left
                    · simp only [Act.put, List.setIfInBounds_toArray, List.set_cons_zero, List.set_cons_succ, i64_w, i32_w]
                      rfl
                    refine take_ (i := 3) (N := some 120) (v := ?_) (a' := ?_) #[true, true, true, true, true, true, true, true, false, false, false, false, false] rfl rfl (by kernel_rfl) (fun _ _ _ h => h) (Or.inl ⟨by rfl, ?_⟩) hHeld ?_ ?_
                    rotate_left
                    · rintro w' ⟨s0, s1⟩
                      go_simp
                      with_reducible rfl
                    rotate_left
                    · simp only [Act.put, List.setIfInBounds_toArray, List.set_cons_zero, List.set_cons_succ, i64_w, i32_w]
                      rfl
                    refine take_ (i := 8) (N := some 125) (v := ?_) (a' := ?_) #[true, true, true, true, true, true, true, true, true, false, false, false, false] rfl rfl (by kernel_rfl) (fun _ _ _ h => h) (Or.inl ⟨by rfl, ?_⟩) hHeld ?_ ?_
                    rotate_left
                    · rintro w' ⟨s0, s1⟩
                      go_simp
                      with_reducible rfl
                    rotate_left
                    · simp only [Act.put, List.setIfInBounds_toArray, List.set_cons_zero, List.set_cons_succ, i64_w, i32_w]
                      rfl
                    refine pure_ (i := 9) (N := some 126) (v := ?_) (a' := ?_) #[true, true, true, true, true, true, true, true, true, true, false, false, false] rfl rfl (by kernel_rfl) (fun _ _ _ h => h) (Or.inl ⟨by rfl, ?_⟩) ?_ ?_
                    rotate_left
                    · intro w'
                      go_simp
                      with_reducible rfl
                    rotate_left
                    · simp only [Act.put, List.setIfInBounds_toArray, List.set_cons_zero, List.set_cons_succ, i64_w, i32_w]
                      rfl
                    refine pure_ (i := 10) (N := some 127) (v := ?_) (a' := ?_) #[true, true, true, true, true, true, true, true, true, true, true, false, false] rfl rfl (by kernel_rfl) (fun _ _ _ h => h) (Or.inl ⟨by rfl, ?_⟩) ?_ ?_
                    rotate_left
                    · intro w'
                      go_simp
                      with_reducible rfl
                    rotate_left
                    · simp only [Act.put, List.setIfInBounds_toArray, List.set_cons_zero, List.set_cons_succ, i64_w, i32_w]
                      rfl
                    refine pure_ (i := 11) (N := some 128) (v := ?_) (a' := ?_) #[true, true, true, true, true, true, true, true, true, true, true, true, false] rfl rfl (by kernel_rfl) (fun _ _ _ h => h) (Or.inl ⟨by rfl, ?_⟩) ?_ ?_
                    rotate_left
                    · intro w'
                      go_simp
                      with_reducible rfl
                    rotate_left
                    · simp only [Act.put, List.setIfInBounds_toArray, List.set_cons_zero, List.set_cons_succ, i64_w, i32_w]
                      rfl
                    refine last_ (i := 12) (N := none) #[true, true, true, true, true, true, true, true, true, true, true, true, true] rfl rfl (by kernel_rfl) (by decide) (fun K hK => ?_)
                    refine skip_ (w1 := ?_) (by rfl) rfl ?_ ?_
                    rotate_left
                    · go_simp
                      rfl
                    refine hK.out _ _ ?_
                    clear hK K
                    refine done_ (by kernel_rfl) ?_
                    have HW := Aside0.mk (nt_drew (nt_code HTd.out hlt n x))
                    clear hb0 hb1 hf0 hf1 hc0 hcN hHeld HTd
                    have hc0 := tb_c0 HW.out.ns.tb
                    have hc1 := tb_c1 HW.out.ns.tb
                    have hb0 := cb_0 HW.out.ns.cb hlt
                    have hb1 := cb_1 HW.out.ns.cb hlt
                    rw [upd_same] at hb0 hb1
                    have hkey := key_mk (wfn (n := n) (by have := HX.out; omega)) (wfc (c := x) (by have := HXC.out; omega))
                    have HKY := Aside0.mk hkey
                    clear hkey
                    go_wp2
                    refine start_ (n := 13) (S := fun w' => w'.cell? ⟨W.heap.size + 1 + 1, 0, none⟩ = some (.slice (some ⟨W.heap.size + 1, 0, none⟩) l.length l.length) ∧ w'.cell? ⟨W.heap.size + 1 + 1, 1, none⟩ = some (.map (some W.heap.size)) ∧ w'.cell? ⟨W.heap.size + 1, k * 2, none⟩ = some (.int .i64 (n : Int)) ∧ w'.cell? ⟨W.heap.size + 1, k * 2 + 1, none⟩ = some (.int .u32 (x : Int))) (ds := [12]) #[false, false, false, false, false, false, false, false, false, false, false, false, false] (by kernel_rfl) rfl rfl ⟨hc0, hc1, hb0, hb1⟩ (fun hHeld => ?_)
                    generalize (World.drew (World.setCell (w2.setCell ⟨W.heap.size + 1, k * 2, none⟩ (.int .i64 (n : Int))) ⟨W.heap.size + 1, k * 2 + 1, none⟩ (.int .u32 (x : Int)))) = w4 at HW hc0 hc1 hb0 hb1 hHeld ⊢
                    refine pure_ (i := 0) (N := some 129) (v := ?_) (a' := ?_) #[true, false, false, false, false, false, false, false, false, false, false, false, false] rfl rfl (by kernel_rfl) (fun _ _ _ h => h) (Or.inl ⟨by rfl, ?_⟩) ?_ ?_
                    rotate_left
                    · intro w'
                      go_simp
                      with_reducible rfl
                    rotate_left
                    · simp only [Act.put, List.setIfInBounds_toArray, List.set_cons_zero, List.set_cons_succ, i64_w, i32_w]
                      rfl
                    refine pure_ (i := 1) (N := some 130) (v := ?_) (a' := ?_) #[true, true, false, false, false, false, false, false, false, false, false, false, false] rfl rfl (by kernel_rfl) (fun _ _ _ h => h) (Or.inl ⟨by rfl, ?_⟩) ?_ ?_
                    rotate_left
                    · intro w'
                      go_simp
                      with_reducible rfl
                    rotate_left
                    · simp only [Act.put, List.setIfInBounds_toArray, List.set_cons_zero, List.set_cons_succ, i64_w, i32_w]
                      rfl
                    refine pure_ (i := 2) (N := some 131) (v := ?_) (a' := ?_) #[true, true, true, false, false, false, false, false, false, false, false, false, false] rfl rfl (by kernel_rfl) (fun _ _ _ h => h) (Or.inl ⟨by rfl, ?_⟩) ?_ ?_
                    rotate_left
                    · intro w'
                      go_simp
                      with_reducible rfl
                    rotate_left
                    · simp only [Act.put, List.setIfInBounds_toArray, List.set_cons_zero, List.set_cons_succ, i64_w, i32_w]
                      rfl
                    refine pure_ (i := 4) (N := some 133) (v := ?_) (a' := ?_) #[true, true, true, false, true, false, false, false, false, false, false, false, false] rfl rfl (by kernel_rfl) (fun _ _ _ h => h) (Or.inl ⟨by rfl, ?_⟩) ?_ ?_
                    rotate_left
                    · intro w'
                      go_simp
                      with_reducible rfl
                    rotate_left
                    · simp only [Act.put, List.setIfInBounds_toArray, List.set_cons_zero, List.set_cons_succ, i64_w, i32_w]
                      rfl
                    refine pure_ (i := 5) (N := some 134) (v := ?_) (a' := ?_) #[true, true, true, false, true, true, false, false, false, false, false, false, false] rfl rfl (by kernel_rfl) (fun _ _ _ h => h) (Or.inl ⟨by rfl, ?_⟩) ?_ ?_
                    rotate_left
                    · intro w'
                      go_simp
                      with_reducible rfl
                    rotate_left
                    · simp only [Act.put, List.setIfInBounds_toArray, List.set_cons_zero, List.set_cons_succ, i64_w, i32_w]
                      rfl
                    refine pure_ (i := 6) (N := some 135) (v := ?_) (a' := ?_) #[true, true, true, false, true, true, true, false, false, false, false, false, false] rfl rfl (by kernel_rfl) (fun _ _ _ h => h) (Or.inl ⟨by rfl, ?_⟩) ?_ ?_
                    rotate_left
                    · intro w'
                      go_simp
                      with_reducible rfl
                    rotate_left
                    · simp only [Act.put, List.setIfInBounds_toArray, List.set_cons_zero, List.set_cons_succ, i64_w, i32_w]
                      rfl
                    refine pure_ (i := 8) (N := some 137) (v := ?_) (a' := ?_) #[true, true, true, false, true, true, true, false, true, false, false, false, false] rfl rfl (by kernel_rfl) (fun _ _ _ h => h) (Or.inl ⟨by rfl, ?_⟩) ?_ ?_
                    rotate_left
                    · intro w'
                      go_simp
                      with_reducible rfl
                    rotate_left
                    · simp only [Act.put, List.setIfInBounds_toArray, List.set_cons_zero, List.set_cons_succ, i64_w, i32_w]
                      rfl
                    refine pure_ (i := 11) (N := some 140) (v := ?_) (a' := ?_) #[true, true, true, false, true, true, true, false, true, false, false, true, false] rfl rfl (by kernel_rfl) (fun _ _ _ h => h) (Or.inl ⟨by rfl, ?_⟩) ?_ ?_
                    rotate_left
                    · intro w'
                      go_simp
                      with_reducible rfl
                    rotate_left
                    · simp only [Act.put, List.setIfInBounds_toArray, List.set_cons_zero, List.set_cons_succ, i64_w, i32_w]
                      rfl
                    refine take_ (i := 3) (N := some 132) (v := ?_) (a' := ?_) #[true, true, true, true, true, true, true, false, true, false, false, true, false] rfl rfl (by kernel_rfl) (fun _ _ _ h => h) (Or.inl ⟨by rfl, ?_⟩) hHeld ?_ ?_
                    rotate_left
                    · rintro w' ⟨s0, s1, s2, s3⟩
                      go_simp
                      with_reducible rfl
                    rotate_left
                    · simp only [Act.put, List.setIfInBounds_toArray, List.set_cons_zero, List.set_cons_succ, i64_w, i32_w]
                      rfl
                    refine take_ (i := 7) (N := some 136) (v := ?_) (a' := ?_) #[true, true, true, true, true, true, true, true, true, false, false, true, false] rfl rfl (by kernel_rfl) (fun _ _ _ h => h) (Or.inl ⟨by rfl, ?_⟩) hHeld ?_ ?_
                    rotate_left
                    · rintro w' ⟨s0, s1, s2, s3⟩
                      go_simp
                      with_reducible rfl
                    rotate_left
                    · simp only [Act.put, List.setIfInBounds_toArray, List.set_cons_zero, List.set_cons_succ, i64_w, i32_w]
                      rfl
                    refine pure_ (i := 9) (N := some 138) (v := ?_) (a' := ?_) #[true, true, true, true, true, true, true, true, true, true, false, true, false] rfl rfl (by kernel_rfl) (fun _ _ _ h => h) (Or.inl ⟨by rfl, ?_⟩) ?_ ?_
                    rotate_left
                    · intro w'
                      go_simp
                      with_reducible rfl
                    rotate_left
                    · simp only [Act.put, List.setIfInBounds_toArray, List.set_cons_zero, List.set_cons_succ, i64_w, i32_w]
                      rfl
                    refine take_ (i := 10) (N := some 139) (v := ?_) (a' := ?_) #[true, true, true, true, true, true, true, true, true, true, true, true, false] rfl rfl (by kernel_rfl) (fun _ _ _ h => h) (Or.inl ⟨by rfl, ?_⟩) hHeld ?_ ?_
                    rotate_left
                    · rintro w' ⟨s0, s1, s2, s3⟩
                      go_simp
                      with_reducible rfl
                    rotate_left
                    · simp only [Act.put, List.setIfInBounds_toArray, List.set_cons_zero, List.set_cons_succ, i64_w, i32_w]
                      rfl
                    refine last_ (i := 12) (N := none) #[true, true, true, true, true, true, true, true, true, true, true, true, true] rfl rfl (by kernel_rfl) (by decide) (fun K hK => ?_)
                    refine map_put_step (by rfl) (.tmp 132) (.tmp 139) (.tmp 140) 58 rfl 64 3 law64 Try.underlying58 _ W.heap.size n0 D rfl HW.out.ns.mp (by have := hn0; unfold maxLen; omega) (keyV n x) (.int .i64 (k : Int)) (KL n x) rfl rfl HKY.out _ [] (plainElem_int Try.underlying3 (wfn (n := k) (by omega))) ?_
                    intro w5 hown hgrow
                    have HW5 := Aside0.mk (nt_map HW.out hown hgrow)
                    clear hown hgrow
                    refine hK.out _ _ ?_
                    clear hK K
                    refine done_ (by kernel_rfl) ?_
                    clear hc0 hc1 hb0 hb1 HW hHeld
                    have h5n := nx_c HW5.out.nx (i := n) (by omega)
                    rw [HCD.out] at h5n
                    have h5f := nx_f HW5.out.nx n
                    have hw5 : IntKind.i64.wrap ((x : Int) + 1) = ((x + 1 : Nat) : Int) := by have := HXC.out; simp [IntKind.wrap, IntKind.bits, IntKind.signed]; omega
                    have hx5 : x < 32768 := HXC.out
                    have HW6 : Aside0 (NT W (w5.setCell ⟨gx, n, none⟩ (.int .i64 ((x + 1 : Nat) : Int))) l gx (FK l 16) (ct l) (fc l (k + 1)) (cc l (k + 1)) (NF l (k + 1)) (n0 + 1) (D.put (KL n x) (LI k))) :=
                      ⟨nt_congr (nt_setN HW5.out (i := n) (by omega) (x + 1)) (fun _ _ => rfl) (fun _ _ => rfl) (fun i _ => fc_upd l k n HX.out.2.2.2 i) (fun i _ => cc_upd l k x (by unfold cz; rw [if_pos (by have := HX.out.2.1; simpa [List.getD, hlt] using this)]; exact HXX.out) i)
                        (fun i _ => by have := NF_upd hlt HX.out.1 HX.out.2.1 i; rw [HCD.out] at this; exact this)⟩
                    have HM6 : Aside0 (MD l (k + 1) (D.put (KL n x) (LI k))) := ⟨by have := md_put HM.out hEO.out.1 hEO.out.2.2 hlt HX.out.2.1; rw [HX.out.2.2.2, HXX.out] at this; exact this⟩
                    clear HW5 HM
                    go_wp2
                    go_roundg k2
                    case measure => omega
                    case rel => exact ⟨k + 1, n0 + 1, _, rfl, by omega, by omega, by omega, HM6, HW6⟩
                  · have hpb : decide (0 < l[k]) = false := decide_eq_false hp
                    have HM6 := Aside0.mk (md_skip HM.out hlt hp)
                    have HW6 : Aside0 (NT W wr l gx (FK l 16) (ct l) (fc l (k + 1)) (cc l (k + 1)) (NF l (k + 1)) n0 D) := ⟨nt_congr HT.out (fun _ _ => rfl) (fun _ _ => rfl) (fun i _ => fc_keep hlt hp hEO.out.1 i) (fun i _ => cc_keep hlt hp i) (fun i _ => NF_keep hlt hp i)⟩
                    generalize l[k] = x at *
                    clear hp o0 o1 HM HT
                    go_wp2
                    go_roundg k2
                    case measure => omega
                    case rel => exact ⟨k + 1, n0, _, rfl, by omega, by omega, by omega, HM6, HW6⟩
                · have hb : decide ((k : Int) < (l.length : Int)) = false := decide_eq_false (by omega)
                  obtain rfl : k = l.length := by omega
                  clear hkq hkl hlt
                  go_wp2
                  go_ret2
                  exact .inr ⟨E.out, _, _, _, rfl, ⟨tb_congr HT.out.ns.tb (fun _ _ => rfl) (fun _ _ => rfl), cb_congr HT.out.ns.cb (fun i hi => by unfold fc; rw [if_pos hi]) (fun i hi => by unfold cc; rw [if_pos hi]), ⟨n0, D, HT.out.ns.mp, HM.out⟩⟩, HT.out.ns.below, by omega, by omega, Nat.le_refl _⟩
  · have e1 : krs l = (0, false) := by unfold krs; rw [if_neg hok]
    rw [e1] at HKR
    have e2 := er_2 hok
    clear e1 hok
    go_enter Try.func10, Try.ntmps10
    go_wp2_with (go_at_call 8; (with_reducible refine (HKR.out).mono ?_); rintro e w1 ⟨rfl, hd⟩; have HD := Aside0.mk hd; clear hd)
    go_ret2
    exact .inl ⟨by rw [e2]; decide, by rw [e2]; rfl, HD.out.below⟩
end Go.Proofs.Yteamaaiicjjidaa.PAll
