/- A table of codes in memory: its block's 36 cells, the block of codes, the row of next codes, the map's keys. -/
import Derived.Test.YteamaaiicjjidaaAbs
import Derived.Test.YteamaaiicjjidaaOwn
import Derived.Test.YteamaaiicjjidaaHufM
import Derived.Maps.Own
import Derived.Maps.OwnOps
import Derived.Maps.OwnSet
import Derived.Maps.Views
import Derived.DeepKeys4
import Derived.MapViews
namespace Go.Proofs.Yteamaaiicjjidaa.PAll
open Go.RowKit Go.Proofs.Yteamaaiicjjidaa.Huf Go.Proofs.YteamaaiicjjidaaW.PrintWords Go.Proofs.YteamaaiicjjidaaW.PrintLast Go.Proofs.YteamaaiicjjidaaW.PrintMore
set_option linter.unusedVariables false
set_option linter.unusedSimpArgs false
/-- 17 numbers. -/
def rowN (F : Nat → Nat) : List Value := (List.range 17).map fun i => Value.int .i64 (F i : Int)
theorem rowN_len (F : Nat → Nat) : (rowN F).length = 17 := by simp [rowN]
theorem rowN_get (F : Nat → Nat) {i : Nat} (h : i < 17) : (rowN F)[i]? = some (.int .i64 (F i : Int)) := by
  unfold rowN; rw [List.getElem?_map, List.getElem?_range h]; rfl
def upd (F : Nat → Nat) (i x : Nat) : Nat → Nat := fun j => if j = i then x else F j
theorem upd_same (F : Nat → Nat) (i x : Nat) : upd F i x i = x := if_pos rfl
theorem upd_other (F : Nat → Nat) {i j : Nat} (x : Nat) (h : j ≠ i) : upd F i x j = F j := if_neg h
theorem rowN_set (F : Nat → Nat) {i : Nat} (h : i < 17) (x : Nat) : (rowN F).set i (.int .i64 (x : Int)) = rowN (upd F i x) := by
  apply List.ext_getElem?
  intro j
  by_cases hj : j < 17
  · rw [rowN_get _ hj]
    by_cases hij : i = j
    · subst hij; rw [List.getElem?_set_self (by rw [rowN_len]; exact h), upd_same]
    · rw [List.getElem?_set_ne hij, rowN_get _ hj, upd_other _ _ (Ne.symm hij)]
  · rw [List.getElem?_eq_none (by rw [List.length_set, rowN_len]; omega), List.getElem?_eq_none (by rw [rowN_len]; omega)]
theorem rowN_congr {F G : Nat → Nat} (h : ∀ i, i < 17 → F i = G i) : rowN F = rowN G := by
  unfold rowN
  apply List.map_congr_left
  intro i hi
  rw [h i (List.mem_range.1 hi)]
/-- the table's cells. -/
def tabL (s m : Value) (F C : Nat → Nat) : List Value := s :: m :: (rowN F ++ rowN C)
theorem tabL_F (s m : Value) (F C : Nat → Nat) {i : Nat} (h : i < 17) : (tabL s m F C)[2 + i]? = some (.int .i64 (F i : Int)) := by
  rw [show 2 + i = i + 1 + 1 by omega]
  simp only [tabL, List.getElem?_cons_succ]
  rw [List.getElem?_append_left (by rw [rowN_len]; exact h), rowN_get _ h]
theorem tabL_C (s m : Value) (F C : Nat → Nat) {i : Nat} (h : i < 17) : (tabL s m F C)[19 + i]? = some (.int .i64 (C i : Int)) := by
  rw [show 19 + i = (17 + i) + 1 + 1 by omega]
  simp only [tabL, List.getElem?_cons_succ]
  rw [List.getElem?_append_right (by rw [rowN_len]; omega), rowN_len, show 17 + i - 17 = i by omega, rowN_get _ h]
theorem tabL_setF (s m : Value) (F C : Nat → Nat) {i : Nat} (h : i < 17) (x : Nat) : (tabL s m F C).set (2 + i) (.int .i64 (x : Int)) = tabL s m (upd F i x) C := by
  rw [show 2 + i = i + 1 + 1 by omega]
  simp only [tabL, List.set_cons_succ]
  rw [List.set_append_left _ _ (by rw [rowN_len]; exact h), rowN_set _ h]
theorem tabL_setC (s m : Value) (F C : Nat → Nat) {i : Nat} (h : i < 17) (x : Nat) : (tabL s m F C).set (19 + i) (.int .i64 (x : Int)) = tabL s m F (upd C i x) := by
  rw [show 19 + i = (17 + i) + 1 + 1 by omega]
  simp only [tabL, List.set_cons_succ]
  rw [List.set_append_right _ _ (by rw [rowN_len]; omega), rowN_len, show 17 + i - 17 = i by omega, rowN_set _ h]
/-- a table's block. -/
def TB (W : World) (g : Nat) (s m : Value) (F C : Nat → Nat) : Prop := W.heap[g]? = some (.cells (tabL s m F C).toArray 62 (0, 0))
section
variable {W W' : World} {g : Nat} {s m : Value} {F C : Nat → Nat}
theorem tb_c0 (h : TB W g s m F C) : W.cell? ⟨g, 0, none⟩ = some s := by rw [blk_cell h, List.getElem?_toArray]; rfl
theorem tb_c1 (h : TB W g s m F C) : W.cell? ⟨g, 1, none⟩ = some m := by rw [blk_cell h, List.getElem?_toArray]; rfl
theorem tb_F (h : TB W g s m F C) {i : Nat} (hi : i < 17) : W.cell? ⟨g, 2 + i, none⟩ = some (.int .i64 (F i : Int)) := by rw [blk_cell h, List.getElem?_toArray, tabL_F _ _ _ _ hi]
theorem tb_C (h : TB W g s m F C) {i : Nat} (hi : i < 17) : W.cell? ⟨g, 19 + i, none⟩ = some (.int .i64 (C i : Int)) := by rw [blk_cell h, List.getElem?_toArray, tabL_C _ _ _ _ hi]
theorem tb_f (h : TB W g s m F C) (i : Nat) : W.frozen? ⟨g, i, none⟩ = false := blk_frozen h i
theorem tb_put {cs : List Value} (h : TB W g s m F C) (i : Nat) (u : Value) (e : (tabL s m F C).set i u = cs) : (W.setCell ⟨g, i, none⟩ u).heap[g]? = some (.cells cs.toArray 62 (0, 0)) := by
  rw [blk_set h i u, ← e]; simp
theorem tb_setF (h : TB W g s m F C) {i : Nat} (hi : i < 17) (x : Nat) : TB (W.setCell ⟨g, 2 + i, none⟩ (.int .i64 (x : Int))) g s m (upd F i x) C := tb_put h _ _ (tabL_setF s m F C hi x)
theorem tb_setC (h : TB W g s m F C) {i : Nat} (hi : i < 17) (x : Nat) : TB (W.setCell ⟨g, 19 + i, none⟩ (.int .i64 (x : Int))) g s m F (upd C i x) := tb_put h _ _ (tabL_setC s m F C hi x)
theorem tb_congr {F' C' : Nat → Nat} (h : TB W g s m F C) (h1 : ∀ i, i < 17 → F i = F' i) (h2 : ∀ i, i < 17 → C i = C' i) : TB W g s m F' C' := by
  unfold TB tabL at h ⊢; rw [← rowN_congr h1, ← rowN_congr h2]; exact h
theorem tb_far (h : TB W g s m F C) {p : Addr} (hne : g ≠ p.block) (u : Value) : TB (W.setCell p u) g s m F C := blk_far h hne u
theorem tb_below (h : TB W g s m F C) (hb : Below W.heap.size W W') : TB W' g s m F C := (hb.block g (blk_lt h)).trans h
end
/-- the row of next codes. -/
def NX (W : World) (g : Nat) (F : Nat → Nat) : Prop := W.heap[g]? = some (.cells (rowN F).toArray 60 (0, 0))
section
variable {W W' : World} {g : Nat} {F : Nat → Nat}
theorem nx_c (h : NX W g F) {i : Nat} (hi : i < 17) : W.cell? ⟨g, i, none⟩ = some (.int .i64 (F i : Int)) := by rw [blk_cell h, List.getElem?_toArray, rowN_get _ hi]
theorem nx_f (h : NX W g F) (i : Nat) : W.frozen? ⟨g, i, none⟩ = false := blk_frozen h i
theorem nx_set (h : NX W g F) {i : Nat} (hi : i < 17) (x : Nat) : NX (W.setCell ⟨g, i, none⟩ (.int .i64 (x : Int))) g (upd F i x) := by
  unfold NX; rw [blk_set h i _, ← rowN_set F hi x]; simp
theorem nx_congr {F' : Nat → Nat} (h : NX W g F) (h1 : ∀ i, i < 17 → F i = F' i) : NX W g F' := by unfold NX at h ⊢; rw [← rowN_congr h1]; exact h
theorem nx_far (h : NX W g F) {p : Addr} (hne : g ≠ p.block) (u : Value) : NX (W.setCell p u) g F := blk_far h hne u
end
/-- the codes of n symbols: how many bits, and the number. -/
def codL (n : Nat) (f c : Nat → Nat) : List Value := (List.range (2 * n)).map fun j => if j % 2 = 0 then Value.int .i64 (f (j / 2) : Int) else .int .u32 (c (j / 2) : Int)
theorem codL_len (n : Nat) (f c : Nat → Nat) : (codL n f c).length = 2 * n := by simp [codL]
theorem codL_0 {n : Nat} (f c : Nat → Nat) {i : Nat} (h : i < n) : (codL n f c)[i * 2]? = some (.int .i64 (f i : Int)) := by
  unfold codL; rw [List.getElem?_map, List.getElem?_range (by omega)]; simp
theorem codL_1 {n : Nat} (f c : Nat → Nat) {i : Nat} (h : i < n) : (codL n f c)[i * 2 + 1]? = some (.int .u32 (c i : Int)) := by
  unfold codL; rw [List.getElem?_map, List.getElem?_range (by omega)]
  rw [Option.map_some, if_neg (by omega), show (i * 2 + 1) / 2 = i by omega]
theorem codL_get {n : Nat} (f c : Nat → Nat) {j : Nat} (h : j < 2 * n) : (codL n f c)[j]? = some (if j % 2 = 0 then Value.int .i64 (f (j / 2) : Int) else .int .u32 (c (j / 2) : Int)) := by
  unfold codL; rw [List.getElem?_map, List.getElem?_range h]; rfl
theorem codL_set {n : Nat} (f c : Nat → Nat) {i : Nat} (h : i < n) (x y : Nat) : ((codL n f c).set (i * 2) (.int .i64 (x : Int))).set (i * 2 + 1) (.int .u32 (y : Int)) = codL n (upd f i x) (upd c i y) := by
  apply List.ext_getElem?
  intro j
  by_cases hj : j < 2 * n
  · rw [codL_get _ _ hj]
    by_cases h1 : i * 2 + 1 = j
    · subst h1
      rw [List.getElem?_set_self (by rw [List.length_set, codL_len]; exact hj), if_neg (by omega), show (i * 2 + 1) / 2 = i by omega, upd_same]
    · rw [List.getElem?_set_ne h1]
      by_cases h0 : i * 2 = j
      · subst h0
        rw [List.getElem?_set_self (by rw [codL_len]; exact hj), if_pos (by omega), show i * 2 / 2 = i by omega, upd_same]
      · rw [List.getElem?_set_ne h0, codL_get _ _ hj, upd_other _ _ (by omega), upd_other _ _ (by omega)]
  · rw [List.getElem?_eq_none (by rw [List.length_set, List.length_set, codL_len]; omega), List.getElem?_eq_none (by rw [codL_len]; omega)]
theorem codL_congr {n : Nat} {f c f' c' : Nat → Nat} (h1 : ∀ i, i < n → f i = f' i) (h2 : ∀ i, i < n → c i = c' i) : codL n f c = codL n f' c' := by
  unfold codL
  apply List.map_congr_left
  intro j hj
  have := List.mem_range.1 hj
  rw [h1 (j / 2) (by omega), h2 (j / 2) (by omega)]
def CB (W : World) (g n : Nat) (f c : Nat → Nat) : Prop := W.heap[g]? = some (.cells (codL n f c).toArray 64 (0, 0))
section
variable {W W' : World} {g n : Nat} {f c : Nat → Nat}
theorem cb_0 (h : CB W g n f c) {i : Nat} (hi : i < n) : W.cell? ⟨g, i * 2, none⟩ = some (.int .i64 (f i : Int)) := by rw [blk_cell h, List.getElem?_toArray, codL_0 _ _ hi]
theorem cb_1 (h : CB W g n f c) {i : Nat} (hi : i < n) : W.cell? ⟨g, i * 2 + 1, none⟩ = some (.int .u32 (c i : Int)) := by rw [blk_cell h, List.getElem?_toArray, codL_1 _ _ hi]
theorem cb_f (h : CB W g n f c) (i : Nat) : W.frozen? ⟨g, i, none⟩ = false := blk_frozen h i
theorem cb_set (h : CB W g n f c) {i : Nat} (hi : i < n) (x y : Nat) : CB ((W.setCell ⟨g, i * 2, none⟩ (.int .i64 (x : Int))).setCell ⟨g, i * 2 + 1, none⟩ (.int .u32 (y : Int))) g n (upd f i x) (upd c i y) := by
  unfold CB
  rw [blk_set (blk_set h _ _) _ _, ← codL_set f c hi x y]; simp
theorem cb_congr {f' c' : Nat → Nat} (h : CB W g n f c) (h1 : ∀ i, i < n → f i = f' i) (h2 : ∀ i, i < n → c i = c' i) : CB W g n f' c' := by unfold CB at h ⊢; rw [← codL_congr h1 h2]; exact h
theorem cb_far (h : CB W g n f c) {p : Addr} (hne : g ≠ p.block) (u : Value) : CB (W.setCell p u) g n f c := blk_far h hne u
end
/-- the map's keys: a number of bits and a number. -/
theorem laidOut : laidOutB Try.prog = true := by kernel_rfl
theorem wide64 : (match Try.prog.underlying 64 with | some (.array _ _) | some (.struct _) => true | _ => false) = true := by rw [Try.underlying64]
theorem row64 : (64 : TypeId) < Try.prog.types.size := of_decide_eq_true (by kernel_rfl)
theorem law64 : Maps.Keyed Try.prog 64 := Maps.Keyed.of_law (deep_law_laid laidOut (m := 2) (by omega) row64 (by kernel_rfl) wide64)
abbrev keyV (n c : Nat) : Value := .agg #[.int .i64 (n : Int), .int .u32 (c : Int)]
theorem cells64 : Try.prog.cellsOf 64 = 2 := by kernel_rfl
theorem cells3 : Try.prog.cellsOf 3 = 1 := by kernel_rfl
theorem cells34 : Try.prog.cellsOf 34 = 1 := by kernel_rfl
theorem kt64 : Try.prog.keyType 64 = true := by kernel_rfl
theorem tsz : ∃ m, Try.prog.types.size = m + 2 := ⟨Try.prog.types.size - 2, by kernel_rfl⟩
theorem key_mk {n c : Nat} (hn : (Lit.int .i64 (n : Int)).wf = true) (hc : (Lit.int .u32 (c : Int)).wf = true) : keyOf Try.prog 64 (keyV n c) = some (.string (keyBytes [.int .i64 (n : Int), .int .u32 (c : Int)])) := by
  obtain ⟨m, hm⟩ := tsz
  unfold keyOf
  simp only [Try.underlying64]
  rw [if_pos (by simp [kt64, Value.formed, Try.underlying64, cells64]), hm]
  unfold Program.keyLits
  simp only [Try.underlying64, Value.cells]
  rw [if_pos (by rw [cells64]; simp)]
  simp [List.mapM_cons, Program.keyLits, Try.underlying3, Try.underlying34, hn, hc, cells3, cells34]
abbrev KL (n c : Nat) : Lit := .string (keyBytes [.int .i64 (n : Int), .int .u32 (c : Int)])
theorem wfn {n : Nat} (h : n ≤ 1000000) : (Lit.int .i64 (n : Int)).wf = true := by simp [Lit.wf, IntKind.min, IntKind.max, IntKind.signed, IntKind.bits]; omega
theorem wfc {c : Nat} (h : c < 4294967296) : (Lit.int .u32 (c : Int)).wf = true := by simp [Lit.wf, IntKind.min, IntKind.max, IntKind.signed, IntKind.bits]; omega
theorem KL_inj {n c n' c' : Nat} (hn : n ≤ 1000000) (hc : c < 4294967296) (hn' : n' ≤ 1000000) (hc' : c' < 4294967296) (h : KL n c = KL n' c') : n = n' ∧ c = c' := by
  have h1 := key_mk (wfn hn) (wfc hc)
  have h2 := key_mk (wfn hn') (wfc hc')
  have e : some (KL n c) = some (KL n' c') := congrArg some h
  have h3 : keyOf Try.prog 64 (keyV n c) = some (KL n' c') := h1.trans e
  have := law64.inj h3 h2
  simp [keyV] at this
  omega
theorem KL_key {n c : Nat} (hn : n ≤ 1000000) (hc : c < 4294967296) : WideAt.IsKeyLit (KL n c) := law64.key (key_mk (wfn hn) (wfc hc))
abbrev LI (n : Nat) : DataW Unit := .lit (.int .i64 (n : Int))
/-- the map of the first k symbols' codes. -/
def MD (l : List Int) (k : Nat) (D : DataW Unit) : Prop :=
  Maps.IsMap D ∧ (∀ s, ∀ h : s < l.length, s < k → 0 < l[s] → D.atKey (KL (ln l s) (cd l s)) (LI 0) = LI s) ∧ (Maps.size D = 0 → ∀ s, ∀ h : s < l.length, s < k → ¬ 0 < l[s])
theorem md_zero (l : List Int) : MD l 0 (.map []) := ⟨⟨[], rfl⟩, fun s _ h => by omega, fun _ s _ h => by omega⟩
theorem md_skip {l : List Int} {k : Nat} {D : DataW Unit} (h : MD l k D) (hk : k < l.length) (h0 : ¬ 0 < l[k]) : MD l (k + 1) D :=
  ⟨h.1, fun s hs h1 h2 => by
    by_cases e : s = k
    · subst e; exact absurd h2 h0
    · exact h.2.1 s hs (by omega) h2, fun hz s hs h1 => by
    by_cases e : s = k
    · subst e; exact h0
    · exact h.2.2 hz s hs (by omega)⟩
theorem md_put {l : List Int} {k : Nat} {D : DataW Unit} (h : MD l k D) (hO : Ok l) (hK : kr l ≤ 32768) (hk : k < l.length) (h0 : 0 < l[k]) : MD l (k + 1) (D.put (KL (ln l k) (cd l k)) (LI k)) := by
  have hb : ∀ s, (hs : s < l.length) → 0 < l[s] → ln l s ≤ 1000000 ∧ cd l s < 4294967296 := fun s hs h1 => by
    obtain ⟨b1, b2⟩ := cd_bound hO hK hs h1
    have : 2 ^ ln l s ≤ 2 ^ 15 := Nat.pow_le_pow_right (by omega) b1
    have e : (2 : Nat) ^ 15 = 32768 := by decide
    omega
  obtain ⟨k1, k2⟩ := hb k hk h0
  refine ⟨h.1.put _ _, fun s hs h1 h2 => ?_, fun hz => ?_⟩
  · by_cases e : s = k
    · subst e; exact Maps.atKey_put_same h.1 (KL_key k1 k2) _ _
    · obtain ⟨s1, s2⟩ := hb s hs h2
      rw [Maps.atKey_put_other (fun he => e (by
        obtain ⟨e1, e2⟩ := KL_inj s1 s2 k1 k2 he
        exact cd_inj hs hk h2 h0 e1 e2))]
      exact h.2.1 s hs (by omega) h2
  · obtain ⟨es, rfl⟩ := h.1
    rw [DataW.put_eq, Maps.size_eq] at hz
    unfold ChangeMaps.putKey at hz
    rw [length_insert] at hz
    omega
end Go.Proofs.Yteamaaiicjjidaa.PAll
