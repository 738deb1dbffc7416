/- The decoder's methods: say, free. -/
import Derived.Test.YtemdlahghbbkoaaDec
import Derived.Deep.MidRow
namespace Go.Proofs.Ytemdlahghbbkoaa.PAll
open Go.RowKit Go.Proofs.YtemdlahghbbkoaaW.PrintWords Go.Proofs.YtemdlahghbbkoaaW.PrintLast Go.Proofs.YtemdlahghbbkoaaW.PrintMore
attribute [local go_sem] max2_int min2_int max_two min_two max_three min_three max_four min_four   -- for this text's walks alone
set_option linter.unusedVariables false
set_option linter.unusedSimpArgs false
theorem el46 : Try.prog.elem 46 = 5 ∧ Try.prog.arrayLen 46 = 64 ∧ Try.prog.underlying 46 = some (.array (Try.prog.arrayLen 46) (Try.prog.elem 46)) := by
  have h1 : Try.prog.elem 46 = 5 := by simp [Program.elem, Try.underlying46]
  have h2 : Try.prog.arrayLen 46 = 64 := by simp [Program.arrayLen, Try.underlying46]
  exact ⟨h1, h2, by rw [h1, h2]; exact Try.underlying46⟩
theorem el47 : Try.prog.elem 47 = 5 ∧ Try.prog.arrayLen 47 = 68 ∧ Try.prog.underlying 47 = some (.array (Try.prog.arrayLen 47) (Try.prog.elem 47)) := by
  have h1 : Try.prog.elem 47 = 5 := by simp [Program.elem, Try.underlying47]
  have h2 : Try.prog.arrayLen 47 = 68 := by simp [Program.arrayLen, Try.underlying47]
  exact ⟨h1, h2, by rw [h1, h2]; exact Try.underlying47⟩
theorem add_off (g o k : Nat) : (⟨g, o, none⟩ : Addr).add k = ⟨g, o + k, none⟩ := by unfold Addr.add; split <;> simp_all
/-- out[n:], blanks[:m], blanks[:], blanks[1:]. -/
theorem sl47_l (W : World) (g n O : Nat) (h : n ≤ 68) (hO : O = if 68 = n then 69 else 69 + n) : (Instr.sliceAt 47 (.pointer (some ⟨g, 69, none⟩)) (some (.int .i64 (n : Int))) none none).run Try.prog W = .ok (.slice (some ⟨g, O, none⟩) (68 - n) (68 - n)) W := by
  subst hO
  obtain ⟨h1, h2, hu⟩ := el47
  obtain ⟨i0, hi, _, hsz, _⟩ := info_parts info5'
  rw [run_sliceAt_array_l W 47 _ hu .i64 (n : Int) (by omega) (by rw [h2]; omega), h1, h2]
  simp only [sizeOf, typeInfo, hi, hsz, slicedAt, Result.andThen, Int.toNat_natCast, Nat.mul_one, add_off]
  by_cases h0 : 68 = n
  · simp [h0, hi, hsz]
  · simp [h0, hi, hsz, add_off]
theorem sl46_h (W : World) (g m : Nat) (h : m ≤ 64) : (Instr.sliceAt 46 (.pointer (some ⟨g, 4, none⟩)) none (some (.int .i64 (m : Int))) none).run Try.prog W = .ok (.slice (some ⟨g, 4, none⟩) m 64) W := by
  obtain ⟨h1, h2, hu⟩ := el46
  obtain ⟨i0, hi, _, hsz, _⟩ := info_parts info5'
  rw [run_sliceAt_array_h W 46 _ hu .i64 (m : Int) (by omega) (by rw [h2]; omega), h1, h2]
  simp [sizeOf, typeInfo, hi, hsz, slicedAt, Result.andThen, add_off]
theorem sl46_a (W : World) (g : Nat) : (Instr.sliceAt 46 (.pointer (some ⟨g, 4, none⟩)) none none none).run Try.prog W = .ok (.slice (some ⟨g, 4, none⟩) 64 64) W := by
  obtain ⟨h1, h2, hu⟩ := el46
  obtain ⟨i0, hi, _, hsz, _⟩ := info_parts info5'
  rw [run_sliceAt_array_all W 46 _ hu, h1, h2]
  simp [sizeOf, typeInfo, hi, hsz, slicedAt, Result.andThen, add_off]
theorem sl46_1 (W : World) (g : Nat) : (Instr.sliceAt 46 (.pointer (some ⟨g, 4, none⟩)) (some (.int .i64 1)) none none).run Try.prog W = .ok (.slice (some ⟨g, 5, none⟩) 63 63) W := by
  obtain ⟨h1, h2, hu⟩ := el46
  obtain ⟨i0, hi, _, hsz, _⟩ := info_parts info5'
  rw [run_sliceAt_array_l W 46 _ hu .i64 1 (by omega) (by rw [h2]; omega), h1, h2]
  simp [sizeOf, typeInfo, hi, hsz, slicedAt, Result.andThen, add_off]
section
variable {W : World} {g : Nat} {st hi : Int} {en : Bool} {wh : Int} {bl : List Int} {hd : Int} {ou : List Int} {f0 t0 : Int}
/-- a copy from a cut of blanks to a place of the decoder's block. -/
theorem dc_copy (h : Aside0 (DC W g st hi en wh bl hd ou f0 t0)) {o s m dLen dCap c : Nat} {cs : List Value} (hs : s + m ≤ 64) (hd' : m ≤ dLen) (hm0 : o + m ≤ 139)
    (e : (decL st hi en wh bl hd ou f0 t0).take o ++ nums .u8 ((bl.drop s).take m) ++ (decL st hi en wh bl hd ou f0 t0).drop (o + m) = cs) :
    ∃ W', (Builtin.copy_ #[22, 22] 3 #[.slice (some ⟨g, o, none⟩) dLen dCap, .slice (some ⟨g, 4 + s, none⟩) m c]).run Try.prog W = .ok (.int .i64 (m : Int)) W' ∧ W'.heap[g]? = some (.cells cs.toArray 49 (0, 0)) ∧ DK W W' g := by
  have hlen : (nums .u8 ((bl.drop s).take m)).length = m := by have := h.out.2.1; simp [nums]; omega
  have hr := run_copy_cells (P := Try.prog) W 22 22 3 5 g o dLen dCap ⟨g, 4 + s, none⟩ m c (nums .u8 ((bl.drop s).take m)) Try.underlying22 (by have := info5'; obtain ⟨i, hi, he⟩ := Option.map_eq_some_iff.1 this; rw [hi]; simp only [Prod.mk.injEq] at he; simp [he.2.1]) (by rw [hlen]; exact (Nat.min_eq_left hd').symm)
    (fun j v hj => by
      have hjm : j < m := by have := (List.getElem?_eq_some_iff.1 hj).1; omega
      rw [add_off, Nat.add_assoc, dc_bl h.out (s + j) (by omega)]
      have hsj : s + j < bl.length := by have := h.out.2.1; omega
      simp [nums, hjm, List.getElem?_drop] at hj
      obtain ⟨a, ha, rfl⟩ := hj
      simp [List.getD, ha])
    (fun j hj => by
      rw [blk_cell h.out.1, List.getElem?_toArray]
      have := decL_len (st := st) (hi := hi) (en := en) (wh := wh) (hd := hd) (f0 := f0) (t0 := t0) h.out.2.1 h.out.2.2
      rw [List.getElem?_eq_getElem (by omega)]
      simp)
    (fun j _ => blk_frozen h.out.1 _) (fun v hv => by simp only [nums, List.mem_map] at hv; obtain ⟨x, _, rfl⟩ := hv; rfl)
  rw [hlen] at hr
  exact ⟨_, hr, dc_cells h.out o _ (by rw [hlen]; exact hm0) (by rw [hlen]; exact e), (DK.refl W g).sets _ _⟩
theorem fr_copy {n m O : Nat} {OU : List Int} (h : Aside0 (DC W g st hi en wh bl (m : Int) ou f0 (n : Int))) (hnm : n + m ≤ 68) (hm : m ≤ 64) (hO : Aside0 (O = if 68 = n then 69 else 69 + n)) (hU : Aside0 (OU = ou.take n ++ bl.take m ++ ou.drop (n + m))) :
    ∃ W', (Builtin.copy_ #[22, 22] 3 #[.slice (some ⟨g, O, none⟩) (68 - n) (68 - n), .slice (some ⟨g, 4, none⟩) m 64]).run Try.prog W = .ok (.int .i64 (m : Int)) W' ∧ DC W' g st hi en wh bl (m : Int) OU f0 (n : Int) ∧ DK W W' g := by
  have hb := h.out.2.1
  have ho := h.out.2.2
  have hO' := hO.out
  have hU' := hU.out
  have hl : (bl.take m).length = m := by rw [List.length_take]; omega
  have hlU : OU.length = 68 := by rw [hU', List.length_append, List.length_append, hl, List.length_take, List.length_drop]; omega
  by_cases h0 : 68 = n
  · obtain rfl : m = 0 := by omega
    rw [if_pos h0] at hO'
    subst hO'
    have e : OU = ou := by rw [hU', ← h0, List.take_zero, List.append_nil, Nat.add_zero, List.take_append_drop]
    obtain ⟨W', h1, h2, h3⟩ := dc_copy h (o := 69) (s := 0) (m := 0) (dLen := 68 - n) (dCap := 68 - n) (c := 64) (cs := decL st hi en wh bl ((0 : Nat) : Int) ou f0 (n : Int)) (by omega) (by omega) (by omega) (by simp [nums])
    exact ⟨W', h1, ⟨by rw [h2, e], hb, hlU⟩, h3⟩
  · rw [if_neg h0] at hO'
    subst hO'
    obtain ⟨W', h1, h2, h3⟩ := dc_copy h (o := 69 + n) (s := 0) (m := m) (dLen := 68 - n) (dCap := 68 - n) (c := 64) (cs := decL st hi en wh bl (m : Int) OU f0 (n : Int)) (by omega) (by omega) (by omega) (by
      have := decL_cou (st := st) (hi := hi) (en := en) (wh := wh) (hd := (m : Int)) (f0 := f0) (t0 := (n : Int)) hb ho n (bl.take m) (by omega)
      rw [hl] at this
      rw [List.drop_zero, hU']; exact this)
    exact ⟨W', h1, ⟨h2, hb, hlU⟩, h3⟩
theorem sh_copy (h : Aside0 (DC W g st hi en wh bl hd ou f0 t0)) :
    ∃ W', (Builtin.copy_ #[22, 22] 3 #[.slice (some ⟨g, 4, none⟩) 64 64, .slice (some ⟨g, 5, none⟩) 63 63]).run Try.prog W = .ok (.int .i64 63) W' ∧ DC W' g st hi en wh (bl.drop 1 ++ bl.drop 63) hd ou f0 t0 ∧ DK W W' g := by
  have hb := h.out.2.1
  have ho := h.out.2.2
  have hl : ((bl.drop 1).take 63).length = 63 := by simp; omega
  have e1 : (bl.drop 1).take 63 = bl.drop 1 := List.take_of_length_le (by simp; omega)
  obtain ⟨W', h1, h2, h3⟩ := dc_copy h (o := 4) (s := 1) (m := 63) (dLen := 64) (dCap := 64) (c := 63) (cs := decL st hi en wh (bl.drop 1 ++ bl.drop 63) hd ou f0 t0) (by omega) (by omega) (by omega) (by
      have := decL_cbl (st := st) (hi := hi) (en := en) (wh := wh) (hd := hd) (ou := ou) (f0 := f0) (t0 := t0) hb 0 ((bl.drop 1).take 63) (by omega)
      rw [hl] at this
      rw [e1, List.take_zero, List.nil_append] at this
      rw [e1]; exact this)
  exact ⟨W', h1, ⟨h2, by simp; omega, ho⟩, h3⟩
end
section
variable {W : World} {g : Nat} {st hi : Int} {en : Bool} {wh : Int} {bl : List Int} {hd : Int} {ou : List Int} {f0 : Int}
set_option maxHeartbeats 8000000 in
set_option maxRecDepth 100000 in
theorem dm_say (n : Nat) (b : Int) (h : Aside0 (DC W g st hi en wh bl hd ou f0 (n : Int))) (hn : n < 68) :
    Calls Try.prog 37 #[.pointer (some ⟨g, 0, none⟩), .int .u8 b] W fun e W' => e = .returned (.tuple #[]) ∧ DC W' g st hi en wh bl hd (ou.set n b) f0 ((n : Int) + 1) ∧ DK W W' g := by
  have H := Aside0.mk (dc_drew h.out)
  have HK := Aside0.mk (DK.refl W g).drew
  have hc := dc_t0 H.out
  have hf := dc_f H.out (69 + n)
  have hx := dc_ou H.out n hn
  have hn0 : (0 : Int) ≤ (n : Int) := by omega
  have hn1 : (n : Int) < 68 := by omega
  have hw : wrap64 ((n : Int) + 1) = (n : Int) + 1 := by unfold wrap64; omega
  clear h
  go_enter Try.func37, Try.ntmps37
  go_wp2
  refine start_ (n := 10) (S := fun w' => w'.cell? ⟨g, 138, none⟩ = some (.int .i64 (n : Int))) (ds := [9]) #[false, false, false, false, false, false, false, false, false, false] (by kernel_rfl) rfl rfl (hc) (fun hHeld => ?_)
  generalize W.drew = W1 at H hc hf hx HK hHeld ⊢
  refine pure_ (i := 0) (N := some 4) (v := ?_) (a' := ?_) #[true, false, false, false, false, false, false, false, false, false] rfl rfl (by kernel_rfl) (fun _ _ _ h => h) (Or.inl ⟨by rfl, ?_⟩) ?_ ?_
  rotate_left
  · intro w'
    go_simp
    with_reducible rfl
  rotate_left
  · simp only [Act.put, List.setIfInBounds_toArray, List.set_cons_zero, List.set_cons_succ, i64_w, i32_w]
    rfl
  refine pure_ (i := 1) (N := some 5) (v := ?_) (a' := ?_) #[true, true, false, false, false, false, false, false, false, false] rfl rfl (by kernel_rfl) (fun _ _ _ h => h) (Or.inl ⟨by rfl, ?_⟩) ?_ ?_
  rotate_left
  · intro w'
    go_simp
    with_reducible rfl
  rotate_left
  · simp only [Act.put, List.setIfInBounds_toArray, List.set_cons_zero, List.set_cons_succ, i64_w, i32_w]
    rfl
  refine pure_ (i := 2) (N := some 6) (v := ?_) (a' := ?_) #[true, true, true, false, false, false, false, false, false, false] rfl rfl (by kernel_rfl) (fun _ _ _ h => h) (Or.inl ⟨by rfl, ?_⟩) ?_ ?_
  rotate_left
  · intro w'
    go_simp
    with_reducible rfl
  rotate_left
  · simp only [Act.put, List.setIfInBounds_toArray, List.set_cons_zero, List.set_cons_succ, i64_w, i32_w]
    rfl
  refine pure_ (i := 3) (N := some 7) (v := ?_) (a' := ?_) #[true, true, true, true, false, false, false, false, false, false] rfl rfl (by kernel_rfl) (fun _ _ _ h => h) (Or.inl ⟨by rfl, ?_⟩) ?_ ?_
  rotate_left
  · intro w'
    go_simp
    with_reducible rfl
  rotate_left
  · simp only [Act.put, List.setIfInBounds_toArray, List.set_cons_zero, List.set_cons_succ, i64_w, i32_w]
    rfl
  refine pure_ (i := 5) (N := some 9) (v := ?_) (a' := ?_) #[true, true, true, true, false, true, false, false, false, false] rfl rfl (by kernel_rfl) (fun _ _ _ h => h) (Or.inl ⟨by rfl, ?_⟩) ?_ ?_
  rotate_left
  · intro w'
    go_simp
    with_reducible rfl
  rotate_left
  · simp only [Act.put, List.setIfInBounds_toArray, List.set_cons_zero, List.set_cons_succ, i64_w, i32_w]
    rfl
  refine pure_ (i := 6) (N := some 10) (v := ?_) (a' := ?_) #[true, true, true, true, false, true, true, false, false, false] rfl rfl (by kernel_rfl) (fun _ _ _ h => h) (Or.inl ⟨by rfl, ?_⟩) ?_ ?_
  rotate_left
  · intro w'
    go_simp
    with_reducible rfl
  rotate_left
  · simp only [Act.put, List.setIfInBounds_toArray, List.set_cons_zero, List.set_cons_succ, i64_w, i32_w]
    rfl
  refine pure_ (i := 7) (N := some 11) (v := ?_) (a' := ?_) #[true, true, true, true, false, true, true, true, false, false] rfl rfl (by kernel_rfl) (fun _ _ _ h => h) (Or.inl ⟨by rfl, ?_⟩) ?_ ?_
  rotate_left
  · intro w'
    go_simp
    with_reducible rfl
  rotate_left
  · simp only [Act.put, List.setIfInBounds_toArray, List.set_cons_zero, List.set_cons_succ, i64_w, i32_w]
    rfl
  refine take_ (i := 4) (N := some 8) (v := ?_) (a' := ?_) #[true, true, true, true, true, true, true, true, false, false] rfl rfl (by kernel_rfl) (fun _ _ _ h => h) (Or.inl ⟨by rfl, ?_⟩) hHeld ?_ ?_
  rotate_left
  · intro w' s0
    go_simp
    with_reducible rfl
  rotate_left
  · simp only [Act.put, List.setIfInBounds_toArray, List.set_cons_zero, List.set_cons_succ, i64_w, i32_w]
    rfl
  refine pure_ (i := 8) (N := some 12) (v := ?_) (a' := ?_) #[true, true, true, true, true, true, true, true, true, false] rfl rfl (by kernel_rfl) (fun _ _ _ h => h) (Or.inl ⟨by rfl, ?_⟩) ?_ ?_
  rotate_left
  · intro w'
    go_simp
    with_reducible rfl
  rotate_left
  · simp only [Act.put, List.setIfInBounds_toArray, List.set_cons_zero, List.set_cons_succ, i64_w, i32_w]
    rfl
  refine last_ (i := 9) (N := none) #[true, true, true, true, true, true, true, true, true, true] rfl rfl (by kernel_rfl) (by decide) (fun K hK => ?_)
  refine skip_ (w1 := ?_) (by rfl) rfl ?_ ?_
  rotate_left
  · go_simp
    rfl
  refine hK.out _ _ ?_
  clear hK K
  refine done_ (by kernel_rfl) ?_
  clear hc hf hx hHeld
  have H2 := Aside0.mk (dc_sou H.out n hn b)
  have HK2 := Aside0.mk (HK.out.set (69 + n) (.int .u8 b))
  clear H HK
  generalize W1.setCell ⟨g, 69 + n, none⟩ (.int .u8 b) = W2 at *
  have hc := dc_t0 H2.out
  have hf := dc_f H2.out 138
  go_wp2
  go_end0
  exact ⟨rfl, dc_st0 H2.out ((n : Int) + 1), HK2.out.set 138 (.int .i64 ((n : Int) + 1))⟩
set_option maxHeartbeats 8000000 in
set_option maxRecDepth 100000 in
theorem dm_free (n m : Nat) (h : Aside0 (DC W g st hi en wh bl (m : Int) ou f0 (n : Int))) (hnm : n + m ≤ 68) (hm : m ≤ 64) {OU : List Int} (hU : Aside0 (OU = ou.take n ++ bl.take m ++ ou.drop (n + m))) :
    Calls Try.prog 36 #[.pointer (some ⟨g, 0, none⟩)] W fun e W' => e = .returned (.tuple #[]) ∧ DC W' g st hi en wh bl 0 OU f0 ((n + m : Nat) : Int) ∧ DK W W' g := by
  obtain ⟨O, HO⟩ : ∃ O : Nat, Aside0 (O = if 68 = n then 69 else 69 + n) := ⟨_, ⟨rfl⟩⟩
  have H := Aside0.mk (dc_drew h.out)
  have HK := Aside0.mk (DK.refl W g).drew
  have hc := dc_t0 H.out
  have hh := dc_hd H.out
  have hs1 := fun W => sl47_l W g n O (by omega) HO.out
  have hs2 := fun W => sl46_h W g m (by omega)
  have hn0 : (0 : Int) ≤ (n : Int) := by omega
  have hsum : (n : Int) + (m : Int) = ((n + m : Nat) : Int) := by omega
  have hw : wrap64 ((n + m : Nat) : Int) = ((n + m : Nat) : Int) := by unfold wrap64; omega
  obtain ⟨T, hT⟩ : ∃ T, n + m = T := ⟨_, rfl⟩
  have HT := Aside0.mk hT
  rw [hT] at hsum hw
  clear h hT
  go_enter Try.func36, Try.ntmps36
  go_wp2
  refine start_ (n := 25) (S := fun w' => w'.cell? ⟨g, 138, none⟩ = some (.int .i64 (n : Int)) ∧ w'.cell? ⟨g, 68, none⟩ = some (.int .i64 (m : Int))) (ds := [24]) #[false, false, false, false, false, false, false, false, false, false, false, false, false, false, false, false, false, false, false, false, false, false, false, false, false] (by kernel_rfl) rfl rfl ⟨hc, hh⟩ (fun hHeld => ?_)
  generalize W.drew = W1 at H hc hh HK hHeld ⊢
  refine pure_ (i := 0) (N := some 2) (v := ?_) (a' := ?_) #[true, false, false, false, false, false, false, false, false, false, false, false, false, false, false, false, false, false, false, false, false, false, false, false, false] rfl rfl (by kernel_rfl) (fun _ _ _ h => h) (Or.inl ⟨by rfl, ?_⟩) ?_ ?_
  rotate_left
  · intro w'
    go_simp
    with_reducible rfl
  rotate_left
  · simp only [Act.put, List.setIfInBounds_toArray, List.set_cons_zero, List.set_cons_succ, i64_w, i32_w]
    rfl
  refine pure_ (i := 1) (N := some 3) (v := ?_) (a' := ?_) #[true, true, false, false, false, false, false, false, false, false, false, false, false, false, false, false, false, false, false, false, false, false, false, false, false] rfl rfl (by kernel_rfl) (fun _ _ _ h => h) (Or.inl ⟨by rfl, ?_⟩) ?_ ?_
  rotate_left
  · intro w'
    go_simp
    with_reducible rfl
  rotate_left
  · simp only [Act.put, List.setIfInBounds_toArray, List.set_cons_zero, List.set_cons_succ, i64_w, i32_w]
    rfl
  refine pure_ (i := 2) (N := some 4) (v := ?_) (a' := ?_) #[true, true, true, false, false, false, false, false, false, false, false, false, false, false, false, false, false, false, false, false, false, false, false, false, false] rfl rfl (by kernel_rfl) (fun _ _ _ h => h) (Or.inl ⟨by rfl, ?_⟩) ?_ ?_
  rotate_left
  · intro w'
    go_simp
    with_reducible rfl
  rotate_left
  · simp only [Act.put, List.setIfInBounds_toArray, List.set_cons_zero, List.set_cons_succ, i64_w, i32_w]
    rfl
  refine pure_ (i := 4) (N := some 6) (v := ?_) (a' := ?_) #[true, true, true, false, true, false, false, false, false, false, false, false, false, false, false, false, false, false, false, false, false, false, false, false, false] rfl rfl (by kernel_rfl) (fun _ _ _ h => h) (Or.inl ⟨by rfl, ?_⟩) ?_ ?_
  rotate_left
  · intro w'
    go_simp
    with_reducible rfl
  rotate_left
  · simp only [Act.put, List.setIfInBounds_toArray, List.set_cons_zero, List.set_cons_succ, i64_w, i32_w]
    rfl
  refine pure_ (i := 5) (N := some 7) (v := ?_) (a' := ?_) #[true, true, true, false, true, true, false, false, false, false, false, false, false, false, false, false, false, false, false, false, false, false, false, false, false] rfl rfl (by kernel_rfl) (fun _ _ _ h => h) (Or.inl ⟨by rfl, ?_⟩) ?_ ?_
  rotate_left
  · intro w'
    go_simp
    with_reducible rfl
  rotate_left
  · simp only [Act.put, List.setIfInBounds_toArray, List.set_cons_zero, List.set_cons_succ, i64_w, i32_w]
    rfl
  refine pure_ (i := 6) (N := some 8) (v := ?_) (a' := ?_) #[true, true, true, false, true, true, true, false, false, false, false, false, false, false, false, false, false, false, false, false, false, false, false, false, false] rfl rfl (by kernel_rfl) (fun _ _ _ h => h) (Or.inl ⟨by rfl, ?_⟩) ?_ ?_
  rotate_left
  · intro w'
    go_simp
    with_reducible rfl
  rotate_left
  · simp only [Act.put, List.setIfInBounds_toArray, List.set_cons_zero, List.set_cons_succ, i64_w, i32_w]
    rfl
  refine pure_ (i := 7) (N := some 9) (v := ?_) (a' := ?_) #[true, true, true, false, true, true, true, true, false, false, false, false, false, false, false, false, false, false, false, false, false, false, false, false, false] rfl rfl (by kernel_rfl) (fun _ _ _ h => h) (Or.inl ⟨by rfl, ?_⟩) ?_ ?_
  rotate_left
  · intro w'
    go_simp
    with_reducible rfl
  rotate_left
  · simp only [Act.put, List.setIfInBounds_toArray, List.set_cons_zero, List.set_cons_succ, i64_w, i32_w]
    rfl
  refine pure_ (i := 8) (N := some 10) (v := ?_) (a' := ?_) #[true, true, true, false, true, true, true, true, true, false, false, false, false, false, false, false, false, false, false, false, false, false, false, false, false] rfl rfl (by kernel_rfl) (fun _ _ _ h => h) (Or.inl ⟨by rfl, ?_⟩) ?_ ?_
  rotate_left
  · intro w'
    go_simp
    with_reducible rfl
  rotate_left
  · simp only [Act.put, List.setIfInBounds_toArray, List.set_cons_zero, List.set_cons_succ, i64_w, i32_w]
    rfl
  refine pure_ (i := 9) (N := some 11) (v := ?_) (a' := ?_) #[true, true, true, false, true, true, true, true, true, true, false, false, false, false, false, false, false, false, false, false, false, false, false, false, false] rfl rfl (by kernel_rfl) (fun _ _ _ h => h) (Or.inl ⟨by rfl, ?_⟩) ?_ ?_
  rotate_left
  · intro w'
    go_simp
    with_reducible rfl
  rotate_left
  · simp only [Act.put, List.setIfInBounds_toArray, List.set_cons_zero, List.set_cons_succ, i64_w, i32_w]
    rfl
  refine pure_ (i := 12) (N := some 14) (v := ?_) (a' := ?_) #[true, true, true, false, true, true, true, true, true, true, false, false, true, false, false, false, false, false, false, false, false, false, false, false, false] rfl rfl (by kernel_rfl) (fun _ _ _ h => h) (Or.inl ⟨by rfl, ?_⟩) ?_ ?_
  rotate_left
  · intro w'
    go_simp
    with_reducible rfl
  rotate_left
  · simp only [Act.put, List.setIfInBounds_toArray, List.set_cons_zero, List.set_cons_succ, i64_w, i32_w]
    rfl
  refine pure_ (i := 13) (N := some 15) (v := ?_) (a' := ?_) #[true, true, true, false, true, true, true, true, true, true, false, false, true, true, false, false, false, false, false, false, false, false, false, false, false] rfl rfl (by kernel_rfl) (fun _ _ _ h => h) (Or.inl ⟨by rfl, ?_⟩) ?_ ?_
  rotate_left
  · intro w'
    go_simp
    with_reducible rfl
  rotate_left
  · simp only [Act.put, List.setIfInBounds_toArray, List.set_cons_zero, List.set_cons_succ, i64_w, i32_w]
    rfl
  refine pure_ (i := 14) (N := some 16) (v := ?_) (a' := ?_) #[true, true, true, false, true, true, true, true, true, true, false, false, true, true, true, false, false, false, false, false, false, false, false, false, false] rfl rfl (by kernel_rfl) (fun _ _ _ h => h) (Or.inl ⟨by rfl, ?_⟩) ?_ ?_
  rotate_left
  · intro w'
    go_simp
    with_reducible rfl
  rotate_left
  · simp only [Act.put, List.setIfInBounds_toArray, List.set_cons_zero, List.set_cons_succ, i64_w, i32_w]
    rfl
  refine pure_ (i := 15) (N := some 17) (v := ?_) (a' := ?_) #[true, true, true, false, true, true, true, true, true, true, false, false, true, true, true, true, false, false, false, false, false, false, false, false, false] rfl rfl (by kernel_rfl) (fun _ _ _ h => h) (Or.inl ⟨by rfl, ?_⟩) ?_ ?_
  rotate_left
  · intro w'
    go_simp
    with_reducible rfl
  rotate_left
  · simp only [Act.put, List.setIfInBounds_toArray, List.set_cons_zero, List.set_cons_succ, i64_w, i32_w]
    rfl
  refine pure_ (i := 16) (N := some 18) (v := ?_) (a' := ?_) #[true, true, true, false, true, true, true, true, true, true, false, false, true, true, true, true, true, false, false, false, false, false, false, false, false] rfl rfl (by kernel_rfl) (fun _ _ _ h => h) (Or.inl ⟨by rfl, ?_⟩) ?_ ?_
  rotate_left
  · intro w'
    go_simp
    with_reducible rfl
  rotate_left
  · simp only [Act.put, List.setIfInBounds_toArray, List.set_cons_zero, List.set_cons_succ, i64_w, i32_w]
    rfl
  refine pure_ (i := 17) (N := some 19) (v := ?_) (a' := ?_) #[true, true, true, false, true, true, true, true, true, true, false, false, true, true, true, true, true, true, false, false, false, false, false, false, false] rfl rfl (by kernel_rfl) (fun _ _ _ h => h) (Or.inl ⟨by rfl, ?_⟩) ?_ ?_
  rotate_left
  · intro w'
    go_simp
    with_reducible rfl
  rotate_left
  · simp only [Act.put, List.setIfInBounds_toArray, List.set_cons_zero, List.set_cons_succ, i64_w, i32_w]
    rfl
  refine take_ (i := 3) (N := some 5) (v := ?_) (a' := ?_) #[true, true, true, true, true, true, true, true, true, true, false, false, true, true, true, true, true, true, false, false, false, false, false, false, false] rfl rfl (by kernel_rfl) (fun _ _ _ h => h) (Or.inl ⟨by rfl, ?_⟩) hHeld ?_ ?_
  rotate_left
  · rintro w' ⟨s0, s1⟩
    go_simp
    with_reducible rfl
  rotate_left
  · simp only [Act.put, List.setIfInBounds_toArray, List.set_cons_zero, List.set_cons_succ, i64_w, i32_w]
    rfl
  refine take_ (i := 10) (N := some 12) (v := ?_) (a' := ?_) #[true, true, true, true, true, true, true, true, true, true, true, false, true, true, true, true, true, true, false, false, false, false, false, false, false] rfl rfl (by kernel_rfl) (fun _ _ _ h => h) (Or.inl ⟨by rfl, ?_⟩) hHeld ?_ ?_
  rotate_left
  · rintro w' ⟨s0, s1⟩
    go_simp
    with_reducible rfl
  rotate_left
  · simp only [Act.put, List.setIfInBounds_toArray, List.set_cons_zero, List.set_cons_succ, i64_w, i32_w]
    rfl
  refine pure_ (i := 11) (N := some 13) (v := ?_) (a' := ?_) #[true, true, true, true, true, true, true, true, true, true, true, true, true, true, true, true, true, true, false, false, false, false, false, false, false] rfl rfl (by kernel_rfl) (fun _ _ _ h => h) (Or.inl ⟨by rfl, ?_⟩) ?_ ?_
  rotate_left
  · intro w'
    go_simp
    with_reducible rfl
  rotate_left
  · simp only [Act.put, List.setIfInBounds_toArray, List.set_cons_zero, List.set_cons_succ, i64_w, i32_w]
    rfl
  refine take_ (i := 18) (N := some 20) (v := ?_) (a' := ?_) #[true, true, true, true, true, true, true, true, true, true, true, true, true, true, true, true, true, true, true, false, false, false, false, false, false] rfl rfl (by kernel_rfl) (fun _ _ _ h => h) (Or.inl ⟨by rfl, ?_⟩) hHeld ?_ ?_
  rotate_left
  · rintro w' ⟨s0, s1⟩
    go_simp
    with_reducible rfl
  rotate_left
  · simp only [Act.put, List.setIfInBounds_toArray, List.set_cons_zero, List.set_cons_succ, i64_w, i32_w]
    rfl
  refine pure_ (i := 19) (N := some 21) (v := ?_) (a' := ?_) #[true, true, true, true, true, true, true, true, true, true, true, true, true, true, true, true, true, true, true, true, false, false, false, false, false] rfl rfl (by kernel_rfl) (fun _ _ _ h => h) (Or.inl ⟨by rfl, ?_⟩) ?_ ?_
  rotate_left
  · intro w'
    go_simp
    with_reducible rfl
  rotate_left
  · simp only [Act.put, List.setIfInBounds_toArray, List.set_cons_zero, List.set_cons_succ, i64_w, i32_w]
    rfl
  refine one_ (i := 20) (N := some 22) #[true, true, true, true, true, true, true, true, true, true, true, true, true, true, true, true, true, true, true, true, true, false, false, false, false] rfl rfl (by kernel_rfl) (by decide) (fun K hK => ?_)
  obtain ⟨W5, hcp, hts, hkk⟩ := fr_copy H (n := n) (m := m) hnm hm HO hU
  refine value_ (w1 := ?_) (v := ?_) (by rfl) rfl ?_ ?_
  rotate_left 2
  · go_simp
    constructor
    · rfl
    · rfl
  have H5 := Aside0.mk hts
  have HK5 := Aside0.mk (HK.out.trans hkk)
  clear hts hcp hkk
  have hc5 := dc_t0 H5.out
  have hf5 := dc_f H5.out 138
  refine hK.out _ _ ⟨dc_t0 H5.out, dc_hd H5.out⟩ (fun hHeld => ?_)
  clear hK K
  refine norm_ (a' := ?_) ?_ ?_
  rotate_left
  · show Act.put _ (some 22) _ = _
    simp only [Act.put, List.setIfInBounds_toArray, List.set_cons_zero, List.set_cons_succ, i64_w, i32_w]
    rfl
  refine pure_ (i := 21) (N := some 23) (v := ?_) (a' := ?_) #[true, true, true, true, true, true, true, true, true, true, true, true, true, true, true, true, true, true, true, true, true, true, false, false, false] rfl rfl (by kernel_rfl) (fun _ _ _ h => h) (Or.inl ⟨by rfl, ?_⟩) ?_ ?_
  rotate_left
  · intro w'
    go_simp
    with_reducible rfl
  rotate_left
  · simp only [Act.put, List.setIfInBounds_toArray, List.set_cons_zero, List.set_cons_succ, i64_w, i32_w]
    rfl
  refine pure_ (i := 22) (N := some 24) (v := ?_) (a' := ?_) #[true, true, true, true, true, true, true, true, true, true, true, true, true, true, true, true, true, true, true, true, true, true, true, false, false] rfl rfl (by kernel_rfl) (fun _ _ _ h => h) (Or.inl ⟨by rfl, ?_⟩) ?_ ?_
  rotate_left
  · intro w'
    go_simp
    with_reducible rfl
  rotate_left
  · simp only [Act.put, List.setIfInBounds_toArray, List.set_cons_zero, List.set_cons_succ, i64_w, i32_w]
    rfl
  refine pure_ (i := 23) (N := some 25) (v := ?_) (a' := ?_) #[true, true, true, true, true, true, true, true, true, true, true, true, true, true, true, true, true, true, true, true, true, true, true, true, false] rfl rfl (by kernel_rfl) (fun _ _ _ h => h) (Or.inl ⟨by rfl, ?_⟩) ?_ ?_
  rotate_left
  · intro w'
    go_simp
    with_reducible rfl
  rotate_left
  · simp only [Act.put, List.setIfInBounds_toArray, List.set_cons_zero, List.set_cons_succ, i64_w, i32_w]
    rfl
  refine last_ (i := 24) (N := none) #[true, true, true, true, true, true, true, true, true, true, true, true, true, true, true, true, true, true, true, true, true, true, true, true, true] rfl rfl (by kernel_rfl) (by decide) (fun K hK => ?_)
  refine skip_ (w1 := ?_) (by rfl) rfl ?_ ?_
  rotate_left
  · go_simp
    rfl
  refine hK.out _ _ ?_
  clear hK K
  refine done_ (by kernel_rfl) ?_
  clear hc hh hHeld hs1 hs2 H HK hc5 hf5
  have H2 := Aside0.mk (dc_st0 H5.out (T : Int))
  have HK2 := Aside0.mk (HK5.out.set 138 (.int .i64 (T : Int)))
  clear H5 HK5
  generalize W5.setCell ⟨g, 138, none⟩ (.int .i64 (T : Int)) = W6 at *
  have hc := dc_hd H2.out
  have hf := dc_f H2.out 68
  go_wp2
  go_end0
  exact ⟨rfl, by rw [HT.out]; exact dc_shd H2.out 0, HK2.out.set 68 (.int .i64 0)⟩
end
end Go.Proofs.Ytemdlahghbbkoaa.PAll
