/- CrcKnown: the document's examples. -/
import Derived.Test.YtlinaloemppniaaDoorSteps
import Derived.Test.YtlinaloemppniaaDoorJoin
import Derived.Deep.MidRow
import Derived.Test.YtlinaloemppniaaDoorWMark
namespace Go.Proofs.YtlinaloemppniaaDoor.PAll
open Go.RowKit Go.Proofs.YtlinaloemppniaaDoor.Crc Go.Proofs.YtlinaloemppniaaDoor.CrcMath Go.Proofs.YtlinaloemppniaaDoorW.PrintWords Go.Proofs.YtlinaloemppniaaDoorW.PrintLast Go.Proofs.YtlinaloemppniaaDoorW.PrintMore Go.Proofs.YtlinaloemppniaaDoorW.PrintMark
attribute [local go_sem] max2_int min2_int max_two min_two max_three min_three max_four min_four   -- for this text's walks alone
set_option linter.unusedVariables false
set_option linter.unusedSimpArgs false
def nine : List Int := [49, 50, 51, 52, 53, 54, 55, 56, 57]
/-- the table, the nine digits in a block of the call's own. -/
def KS (w W : World) : Prop := Tab W ∧ (∀ j, j < 9 → W.cell? ⟨w.heap.size, j, none⟩ = some (.int .u8 (nine.getD j 0))) ∧ Below w.heap.size w W
theorem ks_below {w W W' : World} (h : KS w W) (hb : Below W.heap.size W W') : KS w W' :=
  ⟨tab_below h.1 hb rfl, fun j hj => pw_cell_below hb (h.2.1 j hj), below_step h.2.2 hb⟩
theorem ks_drawn {w W W' : World} (h : KS w W) (hd : Drawn0 W W') : KS w W' := ks_below h hd.below
/-- a cut of the nine digits. -/
theorem ks_rd {w W : World} (h : KS w W) (o : Nat) (l : List Int) (hl : ∀ j, j < l.length → nine[o + j]? = some (l.getD j 0)) (hm : l.length ≤ 9) : Rd W (some ⟨w.heap.size, o, none⟩) l := by
  refine ⟨rfl, by omega, fun _ => ⟨_, rfl, fun j hj => ?_⟩⟩
  have h1 := hl j hj
  have h9 : o + j < 9 := by have := (List.getElem?_eq_some_iff.1 h1).1; simpa [nine] using this
  rw [Addr.add_mid, h.2.1 _ h9, List.getD_eq_getElem?_getD, h1]
  rfl
theorem nine_bytes (l : List Int) (h : l.all (fun x => decide (0 ≤ x ∧ x ≤ 255)) = true) : Bytes l := fun x hx => by
  have := List.all_eq_true.1 h x hx
  simpa using this
theorem ks_sum {w W : World} (h : Aside0 (KS w W)) (o c : Nat) (l : List Int) (hl : ∀ j, j < l.length → nine[o + j]? = some (l.getD j 0)) (hm : l.length ≤ 9) (hc : l.length ≤ c) (hb : l.all (fun x => decide (0 ≤ x ∧ x ≤ 255)) = true) :
    Calls Tryd.prog 8 #[.slice (some ⟨w.heap.size, o, none⟩) l.length c] W fun e W' => e = .returned (.int .u32 (I (sumB 0#32 l))) ∧ KS w W' :=
  (sum_reads _ c l W ⟨ks_rd h.out o l hl hm⟩ hc (by omega) ⟨nine_bytes l hb⟩ ⟨h.out.1⟩).mono fun e W' ⟨he, hd⟩ => ⟨he, ks_drawn h.out hd⟩
theorem n9 : I (sumB 0#32 nine) = 3421780262 := by decide +kernel
theorem k_s {w W : World} (h : Aside0 (KS w W)) : Calls Tryd.prog 8 #[.slice (some ⟨w.heap.size, 0, none⟩) 9 9] W fun e W' => e = .returned (.int .u32 3421780262) ∧ KS w W' := by
  have := ks_sum h 0 9 nine (by decide) (by decide) (by decide) (by decide)
  rw [n9] at this; exact this
theorem k_4 {w W : World} (h : Aside0 (KS w W)) : Calls Tryd.prog 8 #[.slice (some ⟨w.heap.size, 0, none⟩) 4 9] W fun e W' => e = .returned (.int .u32 (I (sumB 0#32 [49, 50, 51, 52]))) ∧ KS w W' :=
  ks_sum h 0 9 [49, 50, 51, 52] (by decide) (by decide) (by decide) (by decide)
theorem k_5 {w W : World} (h : Aside0 (KS w W)) : Calls Tryd.prog 8 #[.slice (some ⟨w.heap.size, 4, none⟩) 5 5] W fun e W' => e = .returned (.int .u32 (I (sumB 0#32 [53, 54, 55, 56, 57]))) ∧ KS w W' :=
  ks_sum h 4 5 [53, 54, 55, 56, 57] (by decide) (by decide) (by decide) (by decide)
theorem k_lit {w W : World} (h : Aside0 (KS w W)) (l : List Int) (hl : l.length ≤ 9) (hb : l.all (fun x => decide (0 ≤ x ∧ x ≤ 255)) = true) :
    Calls Tryd.prog 8 #[.slice (some ⟨W.heap.size, 0, none⟩) l.length l.length] (W.alloc (.cells (encs (Value.int .u8) l).toArray 5)) fun e W' => e = .returned (.int .u32 (I (sumB 0#32 l))) ∧ KS w W' :=
  (lit_sum l (by omega) ⟨nine_bytes l hb⟩ W ⟨h.out.1⟩).mono fun e W' ⟨he, hb⟩ => ⟨he, ks_below h.out hb⟩
theorem n97 : I (sumB 0#32 [97]) = 3904355907 := by decide +kernel
theorem freeze_below {w W : World} {g k : Nat} (h : Below w.heap.size w W) (hg : w.heap.size ≤ g) : Below w.heap.size w (W.freeze ⟨g, k, none⟩ 1) :=
  h.grown (freeze_grown W g k) h.size (fun j hj => by injection hj with hj; omega)
theorem k_97 {w W : World} (h : Aside0 (KS w W)) (k : Nat) : Calls Tryd.prog 8 #[.slice (some ⟨W.heap.size, 0, none⟩) 1 1] ((W.alloc (.cells #[.int .u8 97] 5)).freeze ⟨W.heap.size, k, none⟩ 1) fun e W' => e = .returned (.int .u32 3904355907) ∧ KS w W' := by
  have hbW : Below W.heap.size W ((W.alloc (.cells #[.int .u8 97] 5)).freeze ⟨W.heap.size, k, none⟩ 1) := freeze_below (below_alloc (Below.refl _ _) _) (Nat.le_refl _)
  have hr : Rd ((W.alloc (.cells #[.int .u8 97] 5)).freeze ⟨W.heap.size, k, none⟩ 1) (some ⟨W.heap.size, 0, none⟩) [97] := by
    have := rd_lit W [97] (by decide)
    refine ⟨this.1, this.2.1, fun hn => ?_⟩
    obtain ⟨ad, e1, hc⟩ := this.2.2 hn
    exact ⟨ad, e1, fun j hj => by rw [freeze_cell]; exact hc j hj⟩
  have := sum_reads _ 1 [97] _ ⟨hr⟩ (by decide) (by decide) ⟨nine_bytes [97] rfl⟩ ⟨tab_below h.out.1 hbW rfl⟩
  rw [n97] at this
  exact this.mono fun e W' ⟨he, hd⟩ => ⟨he, ks_drawn (ks_below h.out hbW) hd⟩
theorem mark_one (W : World) : ∃ k, (convert 22 22 (.slice (some ⟨W.heap.size, 0, none⟩) 1 1)).run Tryd.prog (W.alloc (.cells #[.int .u8 97] 5)) = .ok (.slice (some ⟨W.heap.size, 0, none⟩) 1 1) ((W.alloc (.cells #[.int .u8 97] 5)).freeze ⟨W.heap.size, k, none⟩ 1) :=
  mark_run (P := Tryd.prog) (W.alloc (.cells #[.int .u8 97] 5)) 22 5 Tryd.underlying22 Tryd.underlying5 W.heap.size 1 1 _ (0, 0) (heap_alloc_new W _)
theorem mark_nine (W : World) : ∃ k, (convert 22 22 (.slice (some ⟨W.heap.size, 0, none⟩) 9 9)).run Tryd.prog (W.alloc (.cells #[.int .u8 49, .int .u8 50, .int .u8 51, .int .u8 52, .int .u8 53, .int .u8 54, .int .u8 55, .int .u8 56, .int .u8 57] 5)) = .ok (.slice (some ⟨W.heap.size, 0, none⟩) 9 9) ((W.alloc (.cells #[.int .u8 49, .int .u8 50, .int .u8 51, .int .u8 52, .int .u8 53, .int .u8 54, .int .u8 55, .int .u8 56, .int .u8 57] 5)).freeze ⟨W.heap.size, k, none⟩ 1) :=
  mark_run (P := Tryd.prog) (W.alloc (.cells #[.int .u8 49, .int .u8 50, .int .u8 51, .int .u8 52, .int .u8 53, .int .u8 54, .int .u8 55, .int .u8 56, .int .u8 57] 5)) 22 5 Tryd.underlying22 Tryd.underlying5 W.heap.size 9 9 _ (0, 0) (heap_alloc_new W _)
theorem k_0 {w W : World} (h : Aside0 (KS w W)) : Calls Tryd.prog 8 #[.slice (some ⟨W.heap.size, 0, none⟩) 1 1] (W.alloc (.cells #[.int .u8 0] 5)) fun e W' => e = .returned (.int .u32 3523407757) ∧ KS w W' := by
  have := k_lit h [0] (by decide) (by decide)
  rw [sum_zero] at this; exact this
theorem k_nil {w W : World} (h : Aside0 (KS w W)) : Calls Tryd.prog 8 #[.slice none 0 0] W fun e W' => e = .returned (.int .u32 0) ∧ KS w W' :=
  (sum_reads none 0 [] W ⟨ReadsOf.nil _ _ _⟩ (by decide) (by decide) ⟨nine_bytes [] rfl⟩ ⟨h.out.1⟩).mono fun e W' ⟨he, hd⟩ => ⟨he, ks_drawn h.out hd⟩
theorem njoin : I (joinB (sumB 0#32 [49, 50, 51, 52]) (sumB 0#32 [53, 54, 55, 56, 57]) 5) = 3421780262 := by decide +kernel
theorem k_join {w W : World} (h : Aside0 (KS w W)) : Calls Tryd.prog 12 #[.int .u32 (I (sumB 0#32 [49, 50, 51, 52])), .int .u32 (I (sumB 0#32 [53, 54, 55, 56, 57])), .int .i64 5] W fun e W' => e = .returned (.int .u32 3421780262) ∧ KS w W' := by
  have := join_calls (sumB 0#32 [49, 50, 51, 52]) (sumB 0#32 [53, 54, 55, 56, 57]) 5 (by decide) W
  rw [njoin] at this
  exact this.mono fun e W' ⟨he, hb⟩ => ⟨he, ks_below h.out hb⟩
theorem ks_start {w : World} (h : Tab w) (k : Nat) : KS w ((w.alloc (.cells #[.int .u8 49, .int .u8 50, .int .u8 51, .int .u8 52, .int .u8 53, .int .u8 54, .int .u8 55, .int .u8 56, .int .u8 57] 5)).freeze ⟨w.heap.size, k, none⟩ 1).drew := by
  have hb : Below w.heap.size w ((w.alloc (.cells #[.int .u8 49, .int .u8 50, .int .u8 51, .int .u8 52, .int .u8 53, .int .u8 54, .int .u8 55, .int .u8 56, .int .u8 57] 5)).freeze ⟨w.heap.size, k, none⟩ 1) := freeze_below (below_alloc (Below.refl _ _) _) (Nat.le_refl _)
  refine ⟨fun i hi => tab_below h hb rfl i hi, fun j hj => ?_, below_drew hb⟩
  show World.cell? ((w.alloc (.cells #[.int .u8 49, .int .u8 50, .int .u8 51, .int .u8 52, .int .u8 53, .int .u8 54, .int .u8 55, .int .u8 56, .int .u8 57] 5)).freeze ⟨w.heap.size, k, none⟩ 1) _ = _
  rw [freeze_cell, blk_cell (heap_alloc_new w _)]
  have e : (#[.int .u8 49, .int .u8 50, .int .u8 51, .int .u8 52, .int .u8 53, .int .u8 54, .int .u8 55, .int .u8 56, .int .u8 57] : Array Value) = (nine.map (Value.int .u8)).toArray := rfl
  have h9 : nine[j]? = some (nine.getD j 0) := by
    rw [List.getD_eq_getElem?_getD, List.getElem?_eq_getElem (by simpa [nine] using hj)]; rfl
  rw [e, List.getElem?_toArray, List.getElem?_map, h9]
  rfl
set_option maxHeartbeats 8000000 in
set_option maxRecDepth 100000 in
theorem known_walk (w : World) (hT : Tab w) : Calls Tryd.prog 6 #[] w fun e w' => e = .returned (.bool true) ∧ Below w.heap.size w w' := by
  obtain ⟨k0, hmk⟩ := mark_nine w
  have HK := Aside0.mk (ks_start hT k0)
  clear hT
  go_enter Tryd.func6, Tryd.ntmps6
  go_wp2
  refine start_ (n := 29) (S := fun w' => True) (ds := []) #[false, false, false, false, false, false, false, false, false, false, false, false, false, false, false, false, false, false, false, false, false, false, false, false, false, false, false, false, false] (by kernel_rfl) rfl rfl trivial (fun hHeld => ?_)
  generalize ((w.alloc (.cells #[.int .u8 49, .int .u8 50, .int .u8 51, .int .u8 52, .int .u8 53, .int .u8 54, .int .u8 55, .int .u8 56, .int .u8 57] 5)).freeze ⟨w.heap.size, k0, none⟩ 1).drew = W0 at HK hHeld ⊢
  refine pure_ (i := 0) (N := some 4) (v := ?_) (a' := ?_) #[true, false, false, false, false, false, false, false, false, false, false, false, false, false, false, false, false, false, false, false, false, false, false, false, false, false, false, false, false] rfl rfl (by kernel_rfl) (fun _ _ _ h => h) (Or.inl ⟨by rfl, ?_⟩) ?_ ?_
  rotate_left
  · intro w'
    go_simp
    with_reducible rfl
  rotate_left
  · simp only [Act.put, List.setIfInBounds_toArray, List.set_cons_zero, List.set_cons_succ, i64_w, i32_w]
    rfl
  refine one_ (i := 1) (N := some 5) #[true, true, false, false, false, false, false, false, false, false, false, false, false, false, false, false, false, false, false, false, false, false, false, false, false, false, false, false, false] rfl rfl (by kernel_rfl) (by decide) (fun K hK => ?_)
  refine goes_ Tryd.func8 (by kernel_rfl) rfl #[.slice (some ⟨w.heap.size, 0, none⟩) 9 9] (by rfl) rfl rfl (by simp only [List.map_toArray, List.map_cons, List.map_nil]; rfl) ?_
  with_reducible refine (k_s HK).mono ?_
  rintro e w1 ⟨rfl, hk⟩
  refine ⟨_, rfl, ?_⟩
  clear HK
  have HK := Aside0.mk hk
  clear hk
  generalize w1 = W1 at HK hHeld ⊢
  refine hK.out _ _ trivial (fun hHeld => ?_)
  clear hK K
  refine norm_ (a' := ?_) ?_ ?_
  rotate_left
  · show Act.put _ (some 5) _ = _
    simp only [Act.put, List.setIfInBounds_toArray, List.set_cons_zero, List.set_cons_succ, i64_w, i32_w]
    rfl
  refine pure_ (i := 2) (N := some 6) (v := ?_) (a' := ?_) #[true, true, true, false, false, false, false, false, false, false, false, false, false, false, false, false, false, false, false, false, false, false, false, false, false, false, false, false, false] rfl rfl (by kernel_rfl) (fun _ _ _ h => h) (Or.inl ⟨by rfl, ?_⟩) ?_ ?_
  rotate_left
  · intro w'
    go_simp
    with_reducible rfl
  rotate_left
  · simp only [Act.put, List.setIfInBounds_toArray, List.set_cons_zero, List.set_cons_succ, i64_w, i32_w]
    rfl
  refine pure_ (i := 3) (N := some 7) (v := ?_) (a' := ?_) #[true, true, true, true, false, false, false, false, false, false, false, false, false, false, false, false, false, false, false, false, false, false, false, false, false, false, false, false, false] rfl rfl (by kernel_rfl) (fun _ _ _ h => h) (Or.inl ⟨by rfl, ?_⟩) ?_ ?_
  rotate_left
  · intro w'
    go_simp
    with_reducible rfl
  rotate_left
  · simp only [Act.put, List.setIfInBounds_toArray, List.set_cons_zero, List.set_cons_succ, i64_w, i32_w]
    rfl
  refine one_ (i := 4) (N := some 8) #[true, true, true, true, true, false, false, false, false, false, false, false, false, false, false, false, false, false, false, false, false, false, false, false, false, false, false, false, false] rfl rfl (by kernel_rfl) (by decide) (fun K hK => ?_)
  refine value_ (w1 := ?_) (v := ?_) (by rfl) rfl ?_ ?_
  rotate_left 2
  · go_simp
    constructor
    · rfl
    · rfl
  obtain ⟨k1, hmk1⟩ := mark_one W1
  refine hK.out _ _ trivial (fun hHeld => ?_)
  clear hK K
  refine norm_ (a' := ?_) ?_ ?_
  rotate_left
  · show Act.put _ (some 8) _ = _
    simp only [Act.put, List.setIfInBounds_toArray, List.set_cons_zero, List.set_cons_succ, i64_w, i32_w]
    rfl
  refine one_ (i := 5) (N := some 9) #[true, true, true, true, true, true, false, false, false, false, false, false, false, false, false, false, false, false, false, false, false, false, false, false, false, false, false, false, false] rfl rfl (by kernel_rfl) (by decide) (fun K hK => ?_)
  refine value_ (w1 := ?_) (v := ?_) (by rfl) rfl ?_ ?_
  rotate_left 2
  · go_simp
    constructor
    · rfl
    · rfl
  clear hmk1
  refine hK.out _ _ trivial (fun hHeld => ?_)
  clear hK K
  refine norm_ (a' := ?_) ?_ ?_
  rotate_left
  · show Act.put _ (some 9) _ = _
    simp only [Act.put, List.setIfInBounds_toArray, List.set_cons_zero, List.set_cons_succ, i64_w, i32_w]
    rfl
  refine one_ (i := 6) (N := some 10) #[true, true, true, true, true, true, true, false, false, false, false, false, false, false, false, false, false, false, false, false, false, false, false, false, false, false, false, false, false] rfl rfl (by kernel_rfl) (by decide) (fun K hK => ?_)
  refine goes_ Tryd.func8 (by kernel_rfl) rfl #[.slice (some ⟨_, 0, none⟩) 1 1] (by rfl) rfl rfl (by simp only [List.map_toArray, List.map_cons, List.map_nil]; rfl) ?_
  with_reducible refine (k_97 HK _).mono ?_
  rintro e w1 ⟨rfl, hk⟩
  refine ⟨_, rfl, ?_⟩
  clear HK
  have HK := Aside0.mk hk
  clear hk
  refine hK.out _ _ trivial (fun hHeld => ?_)
  clear hK K
  refine norm_ (a' := ?_) ?_ ?_
  rotate_left
  · show Act.put _ (some 10) _ = _
    simp only [Act.put, List.setIfInBounds_toArray, List.set_cons_zero, List.set_cons_succ, i64_w, i32_w]
    rfl
  refine pure_ (i := 7) (N := some 11) (v := ?_) (a' := ?_) #[true, true, true, true, true, true, true, true, false, false, false, false, false, false, false, false, false, false, false, false, false, false, false, false, false, false, false, false, false] rfl rfl (by kernel_rfl) (fun _ _ _ h => h) (Or.inl ⟨by rfl, ?_⟩) ?_ ?_
  rotate_left
  · intro w'
    go_simp
    with_reducible rfl
  rotate_left
  · simp only [Act.put, List.setIfInBounds_toArray, List.set_cons_zero, List.set_cons_succ, i64_w, i32_w]
    rfl
  refine pure_ (i := 8) (N := some 12) (v := ?_) (a' := ?_) #[true, true, true, true, true, true, true, true, true, false, false, false, false, false, false, false, false, false, false, false, false, false, false, false, false, false, false, false, false] rfl rfl (by kernel_rfl) (fun _ _ _ h => h) (Or.inl ⟨by rfl, ?_⟩) ?_ ?_
  rotate_left
  · intro w'
    go_simp
    with_reducible rfl
  rotate_left
  · simp only [Act.put, List.setIfInBounds_toArray, List.set_cons_zero, List.set_cons_succ, i64_w, i32_w]
    rfl
  refine pure_ (i := 9) (N := some 13) (v := ?_) (a' := ?_) #[true, true, true, true, true, true, true, true, true, true, false, false, false, false, false, false, false, false, false, false, false, false, false, false, false, false, false, false, false] rfl rfl (by kernel_rfl) (fun _ _ _ h => h) (Or.inl ⟨by rfl, ?_⟩) ?_ ?_
  rotate_left
  · intro w'
    go_simp
    with_reducible rfl
  rotate_left
  · simp only [Act.put, List.setIfInBounds_toArray, List.set_cons_zero, List.set_cons_succ, i64_w, i32_w]
    rfl
  refine one_ (i := 10) (N := some 14) #[true, true, true, true, true, true, true, true, true, true, true, false, false, false, false, false, false, false, false, false, false, false, false, false, false, false, false, false, false] rfl rfl (by kernel_rfl) (by decide) (fun K hK => ?_)
  refine value_ (w1 := ?_) (v := ?_) (by rfl) rfl ?_ ?_
  rotate_left 2
  · go_simp
    constructor
    · rfl
    · rfl
  refine hK.out _ _ trivial (fun hHeld => ?_)
  clear hK K
  refine norm_ (a' := ?_) ?_ ?_
  rotate_left
  · show Act.put _ (some 14) _ = _
    simp only [Act.put, List.setIfInBounds_toArray, List.set_cons_zero, List.set_cons_succ, i64_w, i32_w]
    rfl
  refine one_ (i := 11) (N := some 15) #[true, true, true, true, true, true, true, true, true, true, true, true, false, false, false, false, false, false, false, false, false, false, false, false, false, false, false, false, false] rfl rfl (by kernel_rfl) (by decide) (fun K hK => ?_)
  refine goes_ Tryd.func8 (by kernel_rfl) rfl #[.slice (some ⟨_, 0, none⟩) 1 1] (by rfl) rfl rfl (by simp only [List.map_toArray, List.map_cons, List.map_nil]; rfl) ?_
  with_reducible refine (k_0 HK).mono ?_
  rintro e w1 ⟨rfl, hk⟩
  refine ⟨_, rfl, ?_⟩
  clear HK
  have HK := Aside0.mk hk
  clear hk
  refine hK.out _ _ trivial (fun hHeld => ?_)
  clear hK K
  refine norm_ (a' := ?_) ?_ ?_
  rotate_left
  · show Act.put _ (some 15) _ = _
    simp only [Act.put, List.setIfInBounds_toArray, List.set_cons_zero, List.set_cons_succ, i64_w, i32_w]
    rfl
  refine pure_ (i := 12) (N := some 16) (v := ?_) (a' := ?_) #[true, true, true, true, true, true, true, true, true, true, true, true, true, false, false, false, false, false, false, false, false, false, false, false, false, false, false, false, false] rfl rfl (by kernel_rfl) (fun _ _ _ h => h) (Or.inl ⟨by rfl, ?_⟩) ?_ ?_
  rotate_left
  · intro w'
    go_simp
    with_reducible rfl
  rotate_left
  · simp only [Act.put, List.setIfInBounds_toArray, List.set_cons_zero, List.set_cons_succ, i64_w, i32_w]
    rfl
  refine pure_ (i := 13) (N := some 17) (v := ?_) (a' := ?_) #[true, true, true, true, true, true, true, true, true, true, true, true, true, true, false, false, false, false, false, false, false, false, false, false, false, false, false, false, false] rfl rfl (by kernel_rfl) (fun _ _ _ h => h) (Or.inl ⟨by rfl, ?_⟩) ?_ ?_
  rotate_left
  · intro w'
    go_simp
    with_reducible rfl
  rotate_left
  · simp only [Act.put, List.setIfInBounds_toArray, List.set_cons_zero, List.set_cons_succ, i64_w, i32_w]
    rfl
  refine pure_ (i := 14) (N := some 18) (v := ?_) (a' := ?_) #[true, true, true, true, true, true, true, true, true, true, true, true, true, true, true, false, false, false, false, false, false, false, false, false, false, false, false, false, false] rfl rfl (by kernel_rfl) (fun _ _ _ h => h) (Or.inl ⟨by rfl, ?_⟩) ?_ ?_
  rotate_left
  · intro w'
    go_simp
    with_reducible rfl
  rotate_left
  · simp only [Act.put, List.setIfInBounds_toArray, List.set_cons_zero, List.set_cons_succ, i64_w, i32_w]
    rfl
  refine one_ (i := 15) (N := some 19) #[true, true, true, true, true, true, true, true, true, true, true, true, true, true, true, true, false, false, false, false, false, false, false, false, false, false, false, false, false] rfl rfl (by kernel_rfl) (by decide) (fun K hK => ?_)
  refine goes_ Tryd.func8 (by kernel_rfl) rfl #[.slice none 0 0] (by rfl) rfl rfl (by simp only [List.map_toArray, List.map_cons, List.map_nil]; rfl) ?_
  with_reducible refine (k_nil HK).mono ?_
  rintro e w1 ⟨rfl, hk⟩
  refine ⟨_, rfl, ?_⟩
  clear HK
  have HK := Aside0.mk hk
  clear hk
  refine hK.out _ _ trivial (fun hHeld => ?_)
  clear hK K
  refine norm_ (a' := ?_) ?_ ?_
  rotate_left
  · show Act.put _ (some 19) _ = _
    simp only [Act.put, List.setIfInBounds_toArray, List.set_cons_zero, List.set_cons_succ, i64_w, i32_w]
    rfl
  refine pure_ (i := 16) (N := some 20) (v := ?_) (a' := ?_) #[true, true, true, true, true, true, true, true, true, true, true, true, true, true, true, true, true, false, false, false, false, false, false, false, false, false, false, false, false] rfl rfl (by kernel_rfl) (fun _ _ _ h => h) (Or.inl ⟨by rfl, ?_⟩) ?_ ?_
  rotate_left
  · intro w'
    go_simp
    with_reducible rfl
  rotate_left
  · simp only [Act.put, List.setIfInBounds_toArray, List.set_cons_zero, List.set_cons_succ, i64_w, i32_w]
    rfl
  refine pure_ (i := 17) (N := some 21) (v := ?_) (a' := ?_) #[true, true, true, true, true, true, true, true, true, true, true, true, true, true, true, true, true, true, false, false, false, false, false, false, false, false, false, false, false] rfl rfl (by kernel_rfl) (fun _ _ _ h => h) (Or.inl ⟨by rfl, ?_⟩) ?_ ?_
  rotate_left
  · intro w'
    go_simp
    with_reducible rfl
  rotate_left
  · simp only [Act.put, List.setIfInBounds_toArray, List.set_cons_zero, List.set_cons_succ, i64_w, i32_w]
    rfl
  refine pure_ (i := 18) (N := some 22) (v := ?_) (a' := ?_) #[true, true, true, true, true, true, true, true, true, true, true, true, true, true, true, true, true, true, true, false, false, false, false, false, false, false, false, false, false] rfl rfl (by kernel_rfl) (fun _ _ _ h => h) (Or.inl ⟨by rfl, ?_⟩) ?_ ?_
  rotate_left
  · intro w'
    go_simp
    with_reducible rfl
  rotate_left
  · simp only [Act.put, List.setIfInBounds_toArray, List.set_cons_zero, List.set_cons_succ, i64_w, i32_w]
    rfl
  refine pure_ (i := 19) (N := some 23) (v := ?_) (a' := ?_) #[true, true, true, true, true, true, true, true, true, true, true, true, true, true, true, true, true, true, true, true, false, false, false, false, false, false, false, false, false] rfl rfl (by kernel_rfl) (fun _ _ _ h => h) (Or.inl ⟨by rfl, ?_⟩) ?_ ?_
  rotate_left
  · intro w'
    go_simp
    with_reducible rfl
  rotate_left
  · simp only [Act.put, List.setIfInBounds_toArray, List.set_cons_zero, List.set_cons_succ, i64_w, i32_w]
    rfl
  refine pure_ (i := 20) (N := some 24) (v := ?_) (a' := ?_) #[true, true, true, true, true, true, true, true, true, true, true, true, true, true, true, true, true, true, true, true, true, false, false, false, false, false, false, false, false] rfl rfl (by kernel_rfl) (fun _ _ _ h => h) (Or.inl ⟨by rfl, ?_⟩) ?_ ?_
  rotate_left
  · intro w'
    go_simp
    with_reducible rfl
  rotate_left
  · simp only [Act.put, List.setIfInBounds_toArray, List.set_cons_zero, List.set_cons_succ, i64_w, i32_w]
    rfl
  refine pure_ (i := 22) (N := some 26) (v := ?_) (a' := ?_) #[true, true, true, true, true, true, true, true, true, true, true, true, true, true, true, true, true, true, true, true, true, false, true, false, false, false, false, false, false] rfl rfl (by kernel_rfl) (fun _ _ _ h => h) (Or.inl ⟨by rfl, ?_⟩) ?_ ?_
  rotate_left
  · intro w'
    go_simp
    with_reducible rfl
  rotate_left
  · simp only [Act.put, List.setIfInBounds_toArray, List.set_cons_zero, List.set_cons_succ, i64_w, i32_w]
    rfl
  refine pure_ (i := 23) (N := some 27) (v := ?_) (a' := ?_) #[true, true, true, true, true, true, true, true, true, true, true, true, true, true, true, true, true, true, true, true, true, false, true, true, false, false, false, false, false] rfl rfl (by kernel_rfl) (fun _ _ _ h => h) (Or.inl ⟨by rfl, ?_⟩) ?_ ?_
  rotate_left
  · intro w'
    go_simp
    with_reducible rfl
  rotate_left
  · simp only [Act.put, List.setIfInBounds_toArray, List.set_cons_zero, List.set_cons_succ, i64_w, i32_w]
    rfl
  refine one_ (i := 21) (N := some 25) #[true, true, true, true, true, true, true, true, true, true, true, true, true, true, true, true, true, true, true, true, true, true, true, true, false, false, false, false, false] rfl rfl (by kernel_rfl) (by decide) (fun K hK => ?_)
  refine goes_ Tryd.func8 (by kernel_rfl) rfl #[.slice (some ⟨w.heap.size, 0, none⟩) 4 9] (by rfl) rfl rfl (by simp only [List.map_toArray, List.map_cons, List.map_nil]; rfl) ?_
  with_reducible refine (k_4 HK).mono ?_
  rintro e w1 ⟨rfl, hk⟩
  refine ⟨_, rfl, ?_⟩
  clear HK
  have HK := Aside0.mk hk
  clear hk
  refine hK.out _ _ trivial (fun hHeld => ?_)
  clear hK K
  refine norm_ (a' := ?_) ?_ ?_
  rotate_left
  · show Act.put _ (some 25) _ = _
    simp only [Act.put, List.setIfInBounds_toArray, List.set_cons_zero, List.set_cons_succ, i64_w, i32_w]
    rfl
  refine one_ (i := 24) (N := some 28) #[true, true, true, true, true, true, true, true, true, true, true, true, true, true, true, true, true, true, true, true, true, true, true, true, true, false, false, false, false] rfl rfl (by kernel_rfl) (by decide) (fun K hK => ?_)
  refine goes_ Tryd.func8 (by kernel_rfl) rfl #[.slice (some ⟨w.heap.size, 4, none⟩) 5 5] (by rfl) rfl rfl (by simp only [List.map_toArray, List.map_cons, List.map_nil]; rfl) ?_
  with_reducible refine (k_5 HK).mono ?_
  rintro e w1 ⟨rfl, hk⟩
  refine ⟨_, rfl, ?_⟩
  clear HK
  have HK := Aside0.mk hk
  clear hk
  refine hK.out _ _ trivial (fun hHeld => ?_)
  clear hK K
  refine norm_ (a' := ?_) ?_ ?_
  rotate_left
  · show Act.put _ (some 28) _ = _
    simp only [Act.put, List.setIfInBounds_toArray, List.set_cons_zero, List.set_cons_succ, i64_w, i32_w]
    rfl
  refine one_ (i := 25) (N := some 29) #[true, true, true, true, true, true, true, true, true, true, true, true, true, true, true, true, true, true, true, true, true, true, true, true, true, true, false, false, false] rfl rfl (by kernel_rfl) (by decide) (fun K hK => ?_)
  refine goes_ Tryd.func12 (by kernel_rfl) rfl #[.int .u32 (I (sumB 0#32 [49, 50, 51, 52])), .int .u32 (I (sumB 0#32 [53, 54, 55, 56, 57])), .int .i64 5] (by rfl) rfl rfl (by simp only [List.map_toArray, List.map_cons, List.map_nil]; rfl) ?_
  with_reducible refine (k_join HK).mono ?_
  rintro e w1 ⟨rfl, hk⟩
  refine ⟨_, rfl, ?_⟩
  clear HK
  have HK := Aside0.mk hk
  clear hk
  refine hK.out _ _ trivial (fun hHeld => ?_)
  clear hK K
  refine norm_ (a' := ?_) ?_ ?_
  rotate_left
  · show Act.put _ (some 29) _ = _
    simp only [Act.put, List.setIfInBounds_toArray, List.set_cons_zero, List.set_cons_succ, i64_w, i32_w]
    rfl
  refine pure_ (i := 26) (N := some 30) (v := ?_) (a' := ?_) #[true, true, true, true, true, true, true, true, true, true, true, true, true, true, true, true, true, true, true, true, true, true, true, true, true, true, true, false, false] rfl rfl (by kernel_rfl) (fun _ _ _ h => h) (Or.inl ⟨by rfl, ?_⟩) ?_ ?_
  rotate_left
  · intro w'
    go_simp
    with_reducible rfl
  rotate_left
  · simp only [Act.put, List.setIfInBounds_toArray, List.set_cons_zero, List.set_cons_succ, i64_w, i32_w]
    rfl
  refine pure_ (i := 27) (N := some 31) (v := ?_) (a' := ?_) #[true, true, true, true, true, true, true, true, true, true, true, true, true, true, true, true, true, true, true, true, true, true, true, true, true, true, true, true, false] rfl rfl (by kernel_rfl) (fun _ _ _ h => h) (Or.inl ⟨by rfl, ?_⟩) ?_ ?_
  rotate_left
  · intro w'
    go_simp
    with_reducible rfl
  rotate_left
  · simp only [Act.put, List.setIfInBounds_toArray, List.set_cons_zero, List.set_cons_succ, i64_w, i32_w]
    rfl
  refine pure_ (i := 28) (N := some 0) (v := ?_) (a' := ?_) #[true, true, true, true, true, true, true, true, true, true, true, true, true, true, true, true, true, true, true, true, true, true, true, true, true, true, true, true, true] rfl rfl (by kernel_rfl) (fun _ _ _ h => h) (Or.inl ⟨by rfl, ?_⟩) ?_ ?_
  rotate_left
  · intro w'
    go_simp
    with_reducible rfl
  rotate_left
  · simp only [Act.put, List.setIfInBounds_toArray, List.set_cons_zero, List.set_cons_succ, i64_w, i32_w]
    rfl
  refine done_ (by kernel_rfl) ?_
  go_wp2
  go_ret
  exact ⟨rfl, HK.out.2.2⟩
end Go.Proofs.YtlinaloemppniaaDoor.PAll
