/- RingSizes: behind so many bytes as it has room for, a window does not know any longer what was ahead of them. -/
import Derived.Test.YtcpijkckjahfdaaRRep
namespace Go.Proofs.Ytcpijkckjahfdaa.PAll
open Go.RowKit Go.Proofs.YtcpijkckjahfdaaW.PrintWords Go.Proofs.YtcpijkckjahfdaaW.PrintLast Go.Proofs.YtcpijkckjahfdaaW.PrintMore
attribute [local go_sem] max2_int min2_int max_two min_two max_three min_three max_four min_four   -- for this text's walks alone
set_option linter.unusedVariables false
set_option linter.unusedSimpArgs false
/-- two windows. -/
def SZ (w W : World) (g1 b1 g2 b2 N : Nat) (q1 q2 : List Int) : Prop := Win W g1 b1 N q1 ∧ Win W g2 b2 N q2 ∧ (g1 ≠ g2 ∧ g1 ≠ b2 ∧ b1 ≠ g2 ∧ b1 ≠ b2) ∧ Below w.heap.size w W ∧ w.heap.size ≤ g1 ∧ w.heap.size ≤ b1 ∧ w.heap.size ≤ g2 ∧ w.heap.size ≤ b2
theorem win_keep {W W' : World} {g gb g' gb' N : Nat} {q : List Int} (h : Win W g gb N q) (hk : RK W W' g' gb') (h1 : g ≠ g') (h2 : g ≠ gb') (h3 : gb ≠ g') (h4 : gb ≠ gb') : Win W' g gb N q := by
  obtain ⟨p, n, bs, hR, hr⟩ := h
  exact ⟨p, n, bs, rb_keep hR hk h1 h2 h3 h4, hr⟩
section
variable {w W W' : World} {g1 b1 g2 b2 N : Nat} {q1 q2 : List Int}
theorem sz_below (h : SZ w W g1 b1 g2 b2 N q1 q2) (hb : Below W.heap.size W W') : SZ w W' g1 b1 g2 b2 N q1 q2 := ⟨win_below h.1 hb, win_below h.2.1 hb, h.2.2.1, below_step h.2.2.2.1 hb, h.2.2.2.2⟩
theorem sz_new {W2 : World} (hB : Below w.heap.size w W) (h1 : Win W' (W.heap.size + 1) W.heap.size N []) (hb1 : Below W.heap.size W W') (h2 : Win W2 (W'.heap.size + 1) W'.heap.size N []) (hb2 : Below W'.heap.size W' W2) : SZ w W2 (W.heap.size + 1) W.heap.size (W'.heap.size + 1) W'.heap.size N [] [] := by
  have := win_gs h1
  have := hb1.size
  have := hB.size
  exact ⟨win_below h1 hb2, h2, ⟨by omega, by omega, by omega, by omega⟩, below_step (below_step hB hb1) hb2, by omega, by omega, by omega, by omega⟩
theorem sz_put1 (X : Int) (q' : List Int) (h : Aside0 (SZ w W g1 b1 g2 b2 N q1 q2)) (hq : Aside0 ((q1 ++ [X]).drop (q1.length + 1 - N) = q')) : Calls Try.prog 9 #[.pointer (some ⟨g1, 0, none⟩), .int .u8 X] W fun e W' => e = .returned (.tuple #[]) ∧ SZ w W' g1 b1 g2 b2 N q' q2 :=
  (win_put X ⟨h.out.1⟩).mono fun e W' ⟨he, hw, hk⟩ => ⟨he, by rw [← hq.out]; exact hw, win_keep h.out.2.1 hk h.out.2.2.1.1.symm h.out.2.2.1.2.2.1.symm h.out.2.2.1.2.1.symm h.out.2.2.1.2.2.2.symm, h.out.2.2.1, rk_win h.out.2.2.2.1 hk h.out.2.2.2.2.1 h.out.2.2.2.2.2.1, h.out.2.2.2.2⟩
theorem sz_put2 (X : Int) (q' : List Int) (h : Aside0 (SZ w W g1 b1 g2 b2 N q1 q2)) (hq : Aside0 ((q2 ++ [X]).drop (q2.length + 1 - N) = q')) : Calls Try.prog 9 #[.pointer (some ⟨g2, 0, none⟩), .int .u8 X] W fun e W' => e = .returned (.tuple #[]) ∧ SZ w W' g1 b1 g2 b2 N q1 q' :=
  (win_put X ⟨h.out.2.1⟩).mono fun e W' ⟨he, hw, hk⟩ => ⟨he, win_keep h.out.1 hk h.out.2.2.1.1 h.out.2.2.1.2.1 h.out.2.2.1.2.2.1 h.out.2.2.1.2.2.2, by rw [← hq.out]; exact hw, h.out.2.2.1, rk_win h.out.2.2.2.1 hk h.out.2.2.2.2.2.2.1 h.out.2.2.2.2.2.2.2, h.out.2.2.2.2⟩
end
section
variable {w W : World} {g1 b1 g2 b2 N K : Nat} {q1 q2 q : List Int}
theorem sz_tail1 (h : Aside0 (SZ w W g1 b1 g2 b2 N q1 q2)) (hk : Aside0 (q1.length = K)) : Calls Try.prog 11 #[.pointer (some ⟨g1, 0, none⟩)] W fun e W' => e = .returned (.slice (some ⟨W.heap.size, 0, none⟩) K K) ∧ SZ w W' g1 b1 g2 b2 N q1 q2 ∧ W'.heap[W.heap.size]? = some (.cells (bytesA q1) 5 (0, 0)) ∧ Below W.heap.size W W' :=
  (win_tailK ⟨h.out.1⟩ hk).mono fun e W' ⟨he, hw, hz, hb⟩ => ⟨he, sz_below h.out hb, hz, hb⟩
theorem sz_tail2 (h : Aside0 (SZ w W g1 b1 g2 b2 N q1 q2)) (hk : Aside0 (q2.length = K)) : Calls Try.prog 11 #[.pointer (some ⟨g2, 0, none⟩)] W fun e W' => e = .returned (.slice (some ⟨W.heap.size, 0, none⟩) K K) ∧ SZ w W' g1 b1 g2 b2 N q1 q2 ∧ W'.heap[W.heap.size]? = some (.cells (bytesA q2) 5 (0, 0)) ∧ Below W.heap.size W W' :=
  (win_tailK ⟨h.out.2.1⟩ hk).mono fun e W' ⟨he, hw, hz, hb⟩ => ⟨he, sz_below h.out hb, hz, hb⟩
theorem sz_len1 (h : Aside0 (SZ w W g1 b1 g2 b2 N q1 q2)) (hk : Aside0 (q1.length = K)) : Calls Try.prog 12 #[.pointer (some ⟨g1, 0, none⟩)] W fun e W' => e = .returned (.int .i64 (K : Int)) ∧ SZ w W' g1 b1 g2 b2 N q1 q2 :=
  (win_lenK ⟨h.out.1⟩ hk).mono fun e W' ⟨he, hd⟩ => ⟨he, sz_below h.out hd.below⟩
theorem sz_len2 (h : Aside0 (SZ w W g1 b1 g2 b2 N q1 q2)) (hk : Aside0 (q2.length = K)) : Calls Try.prog 12 #[.pointer (some ⟨g2, 0, none⟩)] W fun e W' => e = .returned (.int .i64 (K : Int)) ∧ SZ w W' g1 b1 g2 b2 N q1 q2 :=
  (win_lenK ⟨h.out.2.1⟩ hk).mono fun e W' ⟨he, hd⟩ => ⟨he, sz_below h.out hd.below⟩
end
theorem sz_zero {w W : World} {g1 b1 g2 b2 N : Nat} {a b : List Int} (h : SZ w W g1 b1 g2 b2 N [] []) : SZ w W g1 b1 g2 b2 N (lastN N ([] ++ a.take 0)) (lastN N ([] ++ b.take 0)) := by
  rw [List.take_zero, List.take_zero, List.append_nil, show lastN N ([] : List Int) = [] from List.drop_nil]; exact h
theorem sz_third {w W : World} {g1 b1 g2 b2 N : Nat} {a b c : List Int} (h : SZ w W g1 b1 g2 b2 N (lastN N ([] ++ a)) (lastN N ([] ++ b))) : SZ w W g1 b1 g2 b2 N (lastN N (a ++ c.take 0)) (lastN N (b ++ c.take 0)) := by
  rw [List.take_zero, List.append_nil, List.append_nil]; exact h
theorem lastN_two (N : Nat) (a c : List Int) (i : Nat) (h : i < c.length) (X : Int) (hX : c.getD i 0 = X) : (lastN N (a ++ c.take i) ++ [X]).drop ((lastN N (a ++ c.take i)).length + 1 - N) = lastN N (a ++ c.take (i + 1)) := by
  rw [lastN_put, List.take_succ_eq_append_getElem h, List.append_assoc, ← hX]
  congr 3
  simp [List.getD, h]
theorem lastN_all (N : Nat) (a c : List Int) (h : c.length = N) : lastN N (a ++ c) = c := by
  unfold lastN
  rw [List.length_append, h, Nat.add_sub_cancel, List.drop_left]
theorem same_rd {W : World} {A1 A2 : Option Addr} {m c1 c2 : Nat} {q : List Int} (h1 : ReadsOf (Value.int .u8) (0 : Int) W A1 m q) (hc1 : m ≤ c1) (h2 : ReadsOf (Value.int .u8) (0 : Int) W A2 m q) (hc2 : m ≤ c2) (hm : m ≤ 9223372036854775806) :
    Calls Try.prog 10 #[.slice A1 m c1, .slice A2 m c2] W fun e W' => e = .returned (.bool true) ∧ Drawn0 W W' := by
  have hl := h1.1
  subst hl
  exact winkleref03_Same.calls (q.length + 1) A1 c1 q A2 c2 q true W (Kd.C_of_reads (d := (0 : Int)) (h1 := fun _ => rfl) h1) hc1 (Kd.C_of_reads (d := (0 : Int)) (h1 := fun _ => rfl) h2) hc2 (same_f q hm)
theorem blk_rd' {W : World} {gd n : Nat} {t : TypeId} {q : List Int} (h : W.heap[gd]? = some (.cells (bytesA q) t (0, 0))) (hn : n ≤ q.length) (hm : q.length ≤ 9223372036854775806) : ReadsOf (Value.int .u8) (0 : Int) W (some ⟨gd, 0, none⟩) n (q.take n) := by
  refine ⟨by rw [List.length_take]; omega, by omega, fun _ => ⟨_, rfl, fun j hj => ?_⟩⟩
  have hA : (⟨gd, 0, none⟩ : Addr).add j = ⟨gd, j, none⟩ := (Addr.add_mid gd 0 j).trans (by rw [Nat.zero_add])
  rw [hA, blk_cell h]
  simp [bytesA, nums, show j < q.length by omega, List.getD, hj]
theorem sz_same {w W : World} {g1 b1 g2 b2 N K k1 k2 : Nat} {q1 q2 q : List Int} (h : Aside0 (SZ w W g1 b1 g2 b2 N q1 q2)) (hz1 : Aside0 (W.heap[k1]? = some (.cells (bytesA q) 5 (0, 0)))) (hz2 : Aside0 (W.heap[k2]? = some (.cells (bytesA q) 5 (0, 0)))) (hk : Aside0 (q.length = K)) (hK : Aside0 (K ≤ 300)) :
    Calls Try.prog 10 #[.slice (some ⟨k1, 0, none⟩) K K, .slice (some ⟨k2, 0, none⟩) K K] W fun e W' => e = .returned (.bool true) ∧ SZ w W' g1 b1 g2 b2 N q1 q2 := by
  have h0 := hk.out
  have h1 := hK.out
  subst h0
  exact (same_rd (blk_rd hz1.out (by omega)) (Nat.le_refl _) (blk_rd hz2.out (by omega)) (Nat.le_refl _) (by omega)).mono fun e W' ⟨he, hd⟩ => ⟨he, sz_below h.out hd.below⟩
theorem sz_samec {w W : World} {g1 b1 g2 b2 N K k1 k2 : Nat} {t : TypeId} {q1 q2 c : List Int} (h : Aside0 (SZ w W g1 b1 g2 b2 N q1 q2)) (hz1 : Aside0 (W.heap[k1]? = some (.cells (bytesA (c.take K)) 5 (0, 0)))) (hz2 : Aside0 (W.heap[k2]? = some (.cells (bytesA c) t (0, 0)))) (hc : Aside0 (c.length = 300)) (hk : Aside0 ((c.take K).length = K)) (hK : Aside0 (K ≤ 300)) :
    Calls Try.prog 10 #[.slice (some ⟨k1, 0, none⟩) K K, .slice (some ⟨k2, 0, none⟩) K 300] W fun e W' => e = .returned (.bool true) ∧ SZ w W' g1 b1 g2 b2 N q1 q2 := by
  have h0 := hk.out
  have h1 := hK.out
  have h2 := hc.out
  have h3 := blk_rd hz1.out (by omega)
  rw [h0] at h3
  exact (same_rd h3 (Nat.le_refl _) (blk_rd' hz2.out (by omega) (by omega)) (by omega) (by omega)).mono fun e W' ⟨he, hd⟩ => ⟨he, sz_below h.out hd.below⟩
theorem sl_arr (W : World) (ca N : Nat) (h : N ≤ 300) : (Instr.sliceAt 24 (.pointer (some ⟨ca, 0, none⟩)) none (some (.int .i64 (N : Int))) none).run Try.prog W = .ok (.slice (some ⟨ca, 0, none⟩) N 300) W := by
  have hel : Try.prog.elem 24 = 5 := by simp [Program.elem, Try.underlying24]
  have hal : Try.prog.arrayLen 24 = 300 := by simp [Program.arrayLen, Try.underlying24]
  have hu : Try.prog.underlying 24 = some (.array (Try.prog.arrayLen 24) (Try.prog.elem 24)) := by rw [hel, hal]; exact Try.underlying24
  obtain ⟨i0, hi, _, hsz, _⟩ := info_parts info5'
  rw [run_sliceAt_array_h W 24 _ hu .i64 (N : Int) (by omega) (by rw [hal]; omega), hel, hal]
  simp [sizeOf, typeInfo, hi, hsz, slicedAt, Result.andThen, Addr.add]
theorem sizes_row_facts (s : Nat) (hs : s ≤ 255) : ∃ N : Nat, (s : Int) + 1 = (N : Int) ∧ 1 ≤ N ∧ N ≤ 256 := ⟨s + 1, by omega, by omega, by omega⟩
set_option maxHeartbeats 8000000 in
set_option maxRecDepth 100000 in
theorem sizes_bits (s : Nat) (A1 : Option Addr) (c1 : Nat) (a : List Int) (A2 : Option Addr) (c2 : Nat) (b : List Int) (c : List Int) (w : World) (hs : s ≤ 255) (hR1 : Aside0 (ReadsOf (Value.int .u8) (0 : Int) w A1 a.length a)) (hR2 : Aside0 (ReadsOf (Value.int .u8) (0 : Int) w A2 b.length b)) (hm1 : a.length ≤ 9223372036854775807) (hm2 : b.length ≤ 9223372036854775807) (hcl : Aside0 (c.length = 300)) :
    Calls Try.prog 3 #[.int .u8 (s : Int), .agg #[.slice A1 a.length c1, .slice A2 b.length c2], .agg (bytesA c)] w fun e w' => e = .returned (.bool true) ∧ Below w.heap.size w w' := by
  obtain ⟨N, hN, hN1, hN2⟩ := sizes_row_facts s hs
  have HNEW := Aside0.mk (fun W => win_new W N (by omega) (by omega))
  go_enter Try.func3, Try.ntmps3
  go_wp2
  have HB0 := Aside0.mk (show Below w.heap.size w ((w.alloc (Obj.cells #[Value.slice A1 a.length c1, Value.slice A2 b.length c2] 23)).alloc (Obj.cells (bytesA c) 24)).drew from below_drew (below_step (below_alloc (Below.refl _ _) _) (below_alloc (Below.refl _ _) _)))
  have HCA := Aside0.mk (show ((w.alloc (Obj.cells #[Value.slice A1 a.length c1, Value.slice A2 b.length c2] 23)).alloc (Obj.cells (bytesA c) 24)).drew.heap[w.heap.size + 1]? = some (.cells (bytesA c) 24 (0, 0)) by
    have h := heap_alloc_new (w.alloc (Obj.cells #[Value.slice A1 a.length c1, Value.slice A2 b.length c2] 23)) (Obj.cells (bytesA c) 24)
    rw [show (w.alloc (Obj.cells #[Value.slice A1 a.length c1, Value.slice A2 b.length c2] 23)).heap.size = w.heap.size + 1 by simp] at h
    exact h)
  have hbk : ((w.alloc (Obj.cells #[Value.slice A1 a.length c1, Value.slice A2 b.length c2] 23)).alloc (Obj.cells (bytesA c) 24)).drew.heap[w.heap.size]? = some (.cells #[Value.slice A1 a.length c1, Value.slice A2 b.length c2] 23 (0, 0)) := by
    have h1 := heap_alloc_new w (Obj.cells #[Value.slice A1 a.length c1, Value.slice A2 b.length c2] 23)
    exact (((below_alloc (Below.refl (w.alloc (Obj.cells #[Value.slice A1 a.length c1, Value.slice A2 b.length c2] 23)).heap.size (w.alloc (Obj.cells #[Value.slice A1 a.length c1, Value.slice A2 b.length c2] 23))) (Obj.cells (bytesA c) 24)).block w.heap.size (by simp)).trans h1)
  have hc0 := (blk_cell hbk 0).trans rfl
  have hc1 := (blk_cell hbk 1).trans rfl
  clear hbk
  refine start_ (n := 6) (S := fun w' => w'.cell? ⟨w.heap.size, 0, none⟩ = some (.slice A1 a.length c1) ∧ w'.cell? ⟨w.heap.size, 1, none⟩ = some (.slice A2 b.length c2)) (ds := []) #[false, false, false, false, false, false] (by kernel_rfl) rfl rfl ⟨hc0, hc1⟩ (fun hHeld => ?_)
  generalize ((w.alloc (Obj.cells #[Value.slice A1 a.length c1, Value.slice A2 b.length c2] 23)).alloc (Obj.cells (bytesA c) 24)).drew = W0 at HB0 HCA hc0 hc1 hHeld ⊢
  refine pure_ (i := 0) (N := some 17) (v := ?_) (a' := ?_) #[true, false, false, false, false, false] rfl rfl (by kernel_rfl) (fun _ _ _ h => h) (Or.inl ⟨by rfl, ?_⟩) ?_ ?_
  rotate_left
  · intro w'
    go_simp
    with_reducible rfl
  rotate_left
  · simp only [Act.put, List.setIfInBounds_toArray, List.set_cons_zero, List.set_cons_succ, i64_w, i32_w]
    rfl
  refine pure_ (i := 2) (N := some 19) (v := ?_) (a' := ?_) #[true, false, true, false, false, false] rfl rfl (by kernel_rfl) (fun _ _ _ h => h) (Or.inl ⟨by rfl, ?_⟩) ?_ ?_
  rotate_left
  · intro w'
    go_simp
    with_reducible rfl
  rotate_left
  · simp only [Act.put, List.setIfInBounds_toArray, List.set_cons_zero, List.set_cons_succ, i64_w, i32_w]
    rfl
  refine take_ (i := 1) (N := some 18) (v := ?_) (a' := ?_) #[true, true, true, false, false, false] rfl rfl (by kernel_rfl) (fun _ _ _ h => h) (Or.inl ⟨by rfl, ?_⟩) hHeld ?_ ?_
  rotate_left
  · rintro w' ⟨s0, s1⟩
    go_simp
    with_reducible rfl
  rotate_left
  · simp only [Act.put, List.setIfInBounds_toArray, List.set_cons_zero, List.set_cons_succ, i64_w, i32_w]
    rfl
  refine pure_ (i := 4) (N := some 7) (v := ?_) (a' := ?_) #[true, true, true, false, true, false] rfl rfl (by kernel_rfl) (fun _ _ _ h => h) (Or.inl ⟨by rfl, ?_⟩) ?_ ?_
  rotate_left
  · intro w'
    go_simp
    with_reducible rfl
  rotate_left
  · simp only [Act.put, List.setIfInBounds_toArray, List.set_cons_zero, List.set_cons_succ, i64_w, i32_w]
    rfl
  refine take_ (i := 3) (N := some 20) (v := ?_) (a' := ?_) #[true, true, true, true, true, false] rfl rfl (by kernel_rfl) (fun _ _ _ h => h) (Or.inl ⟨by rfl, ?_⟩) hHeld ?_ ?_
  rotate_left
  · rintro w' ⟨s0, s1⟩
    go_simp
    with_reducible rfl
  rotate_left
  · simp only [Act.put, List.setIfInBounds_toArray, List.set_cons_zero, List.set_cons_succ, i64_w, i32_w]
    rfl
  refine pure_ (i := 5) (N := some 8) (v := ?_) (a' := ?_) #[true, true, true, true, true, true] rfl rfl (by kernel_rfl) (fun _ _ _ h => h) (Or.inl ⟨by rfl, ?_⟩) ?_ ?_
  rotate_left
  · intro w'
    go_simp
    with_reducible rfl
  rotate_left
  · simp only [Act.put, List.setIfInBounds_toArray, List.set_cons_zero, List.set_cons_succ, i64_w, i32_w]
    rfl
  refine done_ (by kernel_rfl) ?_
  clear hc0 hc1 hHeld
  have HSS := Aside0.mk (Below.refl W0.heap.size W0)
  have HR1 := Aside0.mk (hR1.out.below HB0.out)
  have HR2 := Aside0.mk (hR2.out.below HB0.out)
  clear hR1 hR2
  go_wp2_with (first
    | (go_at_call 8; (with_reducible refine (HNEW.out _).mono ?_); rintro e w2 ⟨rfl, hw, hb⟩; have HS := Aside0.mk (sz_new HSS.out HW.out HB.out hw hb); clear hw hb HW HB HSS)
    | (go_at_call 8; (with_reducible refine (HNEW.out _).mono ?_); rintro e w1 ⟨rfl, hw, hb⟩; have HW := Aside0.mk hw; have HB := Aside0.mk hb; clear hw hb))
  clear HNEW
  go_loopg [14] (a.length + 1) (fun kq v14 w' => ∃ (i : Nat), v14 = .int .i64 (i : Int) ∧ i + kq = a.length + 1 ∧ i ≤ a.length ∧ Aside0 (SZ W0 w' (W0.heap.size + 1) W0.heap.size (w1.heap.size + 1) w1.heap.size N (lastN N ([] ++ a.take i)) (lastN N ([] ++ b.take 0))))
  case atStart => exact ⟨0, rfl, by omega, by omega, ⟨sz_zero HS.out⟩⟩
  case round =>
    clear HS
    obtain ⟨i, rfl, hk, hil, HS⟩ := hrel
    cases gk with
    | zero => exact absurd hk (by omega)
    | succ k1 =>
    by_cases hp : i < a.length
    · have hpb : decide ((i : Int) < (a.length : Int)) = true := decide_eq_true (by omega)
      have HL := Aside0.mk (fun X hX => lastN_two N [] a i hp X hX)
      obtain ⟨ad, hAe, hx⟩ := ReadsOf.at_ HR1.out (i : Int) (by omega) (by omega)
      have HAE := Aside0.mk hAe
      clear hAe
      rw [Int.toNat_natCast] at hx
      replace hx := pw_cell_below HS.out.2.2.2.1 hx
      have hrd : rdOf (0 : Int) a (i : Int) = a.getD i 0 := by simp [rdOf]
      rw [hrd] at hx
      obtain ⟨X, HX⟩ : ∃ X, Aside0 (a.getD i 0 = X) := ⟨_, ⟨rfl⟩⟩
      rw [HX.out] at hx
      have hi0 : (0 : Int) ≤ (i : Int) := by omega
      have hi1 : (i : Int) < (a.length : Int) := by omega
      clear hrd
      replace HL := Aside0.mk (HL.out X HX.out)
      obtain rfl := HAE.out
      clear HAE HX
      go_wp2_with (go_at_call 9; (with_reducible refine (sz_put1 X _ HS HL).mono ?_); rintro e w3 ⟨rfl, hs⟩; have HS2 := Aside0.mk hs; clear hs HS hx)
      go_roundg k1
      case measure => omega
      case rel => exact ⟨i + 1, rfl, by omega, by omega, HS2⟩
    · obtain rfl : i = a.length := by omega
      have hpb : decide ((a.length : Int) < (a.length : Int)) = false := decide_eq_false (by omega)
      clear hp hk hil
      rw [List.take_length] at HS
      go_wp2
      go_loopg [15] (b.length + 1) (fun kq v15 w' => ∃ (i : Nat), v15 = .int .i64 (i : Int) ∧ i + kq = b.length + 1 ∧ i ≤ b.length ∧ Aside0 (SZ W0 w' (W0.heap.size + 1) W0.heap.size (w1.heap.size + 1) w1.heap.size N (lastN N ([] ++ a)) (lastN N ([] ++ b.take i))))
      case atStart => exact ⟨0, rfl, by omega, by omega, HS⟩
      case round =>
        clear HS
        obtain ⟨i, rfl, hk, hil, HS⟩ := hrel
        cases gk with
        | zero => exact absurd hk (by omega)
        | succ k1 =>
        by_cases hp : i < b.length
        · have hpb : decide ((i : Int) < (b.length : Int)) = true := decide_eq_true (by omega)
          have HL := Aside0.mk (fun X hX => lastN_two N [] b i hp X hX)
          obtain ⟨ad, hAe, hx⟩ := ReadsOf.at_ HR2.out (i : Int) (by omega) (by omega)
          have HAE := Aside0.mk hAe
          clear hAe
          rw [Int.toNat_natCast] at hx
          replace hx := pw_cell_below HS.out.2.2.2.1 hx
          have hrd : rdOf (0 : Int) b (i : Int) = b.getD i 0 := by simp [rdOf]
          rw [hrd] at hx
          obtain ⟨X, HX⟩ : ∃ X, Aside0 (b.getD i 0 = X) := ⟨_, ⟨rfl⟩⟩
          rw [HX.out] at hx
          have hi0 : (0 : Int) ≤ (i : Int) := by omega
          have hi1 : (i : Int) < (b.length : Int) := by omega
          clear hrd
          replace HL := Aside0.mk (HL.out X HX.out)
          obtain rfl := HAE.out
          clear HAE HX
          go_wp2_with (go_at_call 9; (with_reducible refine (sz_put2 X _ HS HL).mono ?_); rintro e w3 ⟨rfl, hs⟩; have HS2 := Aside0.mk hs; clear hs HS hx)
          go_roundg k1
          case measure => omega
          case rel => exact ⟨i + 1, rfl, by omega, by omega, HS2⟩
        · obtain rfl : i = b.length := by omega
          have hpb : decide ((b.length : Int) < (b.length : Int)) = false := decide_eq_false (by omega)
          clear hp hk hil
          rw [List.take_length] at HS
          go_wp2
          go_loopg [16] (N + 1) (fun kq v16 w' => ∃ (i : Nat), v16 = .int .i64 (i : Int) ∧ i + kq = N + 1 ∧ i ≤ N ∧ Aside0 (SZ W0 w' (W0.heap.size + 1) W0.heap.size (w1.heap.size + 1) w1.heap.size N (lastN N (a ++ c.take i)) (lastN N (b ++ c.take i))))
          case atStart => exact ⟨0, rfl, by omega, by omega, ⟨sz_third HS.out⟩⟩
          case round =>
            clear HS
            obtain ⟨i, rfl, hk, hil, HS⟩ := hrel
            cases gk with
            | zero => exact absurd hk (by omega)
            | succ k1 =>
            by_cases hp : i < N
            · have hpb : decide ((i : Int) < (N : Int)) = true := decide_eq_true (by omega)
              have hpb2 : decide (i < N) = true := decide_eq_true (by omega)
              have hic : i < c.length := by rw [hcl.out]; omega
              have hx : wr.cell? ⟨w.heap.size + 1, i, none⟩ = some (.int .u8 (c.getD i 0)) := by
                rw [blk_cell ((HS.out.2.2.2.1.block _ (blk_lt HCA.out)).trans HCA.out)]
                simp [bytesA, nums, hic, List.getD]
              have HL1 := Aside0.mk (fun X hX => lastN_two N a c i hic X hX)
              have HL2 := Aside0.mk (fun X hX => lastN_two N b c i hic X hX)
              have HXC := Aside0.mk (show ∀ W, Below W0.heap.size W0 W → W.cell? ⟨w.heap.size + 1, i, none⟩ = some (.int .u8 (c.getD i 0)) from fun W hb => by
                rw [blk_cell ((hb.block _ (blk_lt HCA.out)).trans HCA.out)]
                simp [bytesA, nums, hic, List.getD])
              obtain ⟨X, HX⟩ : ∃ X, Aside0 (c.getD i 0 = X) := ⟨_, ⟨rfl⟩⟩
              rw [HX.out] at hx HXC
              replace HL1 := Aside0.mk (HL1.out X HX.out)
              replace HL2 := Aside0.mk (HL2.out X HX.out)
              have hi0 : (0 : Int) ≤ (i : Int) := by omega
              have hi1 : (i : Int) < 300 := by omega
              have hi2 : i < 300 := by omega
              clear HX hic
              go_wp2_with (first
                | (go_at_call 9; (with_reducible refine (sz_put1 X _ HS HL1).mono ?_); rintro e w3 ⟨rfl, hs⟩; have HS2 := Aside0.mk hs; clear hs HS; replace hx := HXC.out _ HS2.out.2.2.2.1)
                | (go_at_call 9; (with_reducible refine (sz_put2 X _ HS2 HL2).mono ?_); rintro e w4 ⟨rfl, hs⟩; have HS3 := Aside0.mk hs; clear hs HS2 hx))
              go_roundg k1
              case measure => omega
              case rel => exact ⟨i + 1, rfl, by omega, by omega, HS3⟩
            · obtain rfl : i = N := by omega
              have hpb : decide ((i : Int) < (i : Int)) = false := decide_eq_false (by omega)
              have hpb2 : decide (i < i) = false := decide_eq_false (by omega)
              have HLK : Aside0 ((c.take i).length = i) := ⟨by rw [List.length_take, hcl.out]; omega⟩
              replace HS : Aside0 (SZ W0 wr.drew (W0.heap.size + 1) W0.heap.size (w1.heap.size + 1) w1.heap.size i (c.take i) (c.take i)) := ⟨by
                have := HS.out
                rw [lastN_all i a _ HLK.out, lastN_all i b _ HLK.out] at this
                exact sz_below this (below_drew (Below.refl _ _))⟩
              have HN3 := Aside0.mk (show i ≤ 300 by omega)
              have hnn : ((i : Int) == (i : Int)) = true := beq_self_eq_true _
              have hnn2 : (i == i) = true := beq_self_eq_true _
              have hsl := fun W => sl_arr W (w.heap.size + 1) i (by omega)
              have hwi : wrap64 (i : Int) = (i : Int) := by unfold wrap64; omega
              clear hp hk hil
              go_wp2
              refine start_ (n := 25) (S := fun w' => True) (ds := []) #[false, false, false, false, false, false, false, false, false, false, false, false, false, false, false, false, false, false, false, false, false, false, false, false, false] (by kernel_rfl) rfl rfl trivial (fun hHeld => ?_)
              generalize wr.drew = W9 at HS hHeld ⊢
              refine pure_ (i := 0) (N := some 87) (v := ?_) (a' := ?_) #[true, false, false, false, false, false, false, false, false, false, false, false, false, false, false, false, false, false, false, false, false, false, false, false, false] rfl rfl (by kernel_rfl) (fun _ _ _ h => h) (Or.inl ⟨by rfl, ?_⟩) ?_ ?_
              rotate_left
              · intro w'
                go_simp
                with_reducible rfl
              rotate_left
              · simp only [Act.put, List.setIfInBounds_toArray, List.set_cons_zero, List.set_cons_succ, i64_w, i32_w]
                rfl
              refine pure_ (i := 2) (N := some 89) (v := ?_) (a' := ?_) #[true, false, true, false, false, false, false, false, false, false, false, false, false, false, false, false, false, false, false, false, false, false, false, false, false] rfl rfl (by kernel_rfl) (fun _ _ _ h => h) (Or.inl ⟨by rfl, ?_⟩) ?_ ?_
              rotate_left
              · intro w'
                go_simp
                with_reducible rfl
              rotate_left
              · simp only [Act.put, List.setIfInBounds_toArray, List.set_cons_zero, List.set_cons_succ, i64_w, i32_w]
                rfl
              refine one_ (i := 1) (N := some 88) #[true, true, true, false, false, false, false, false, false, false, false, false, false, false, false, false, false, false, false, false, false, false, false, false, false] rfl rfl (by kernel_rfl) (by decide) (fun K hK => ?_)
              refine goes_ Try.func11 (by kernel_rfl) rfl #[.pointer (some ⟨W0.heap.size + 1, 0, none⟩)] (by rfl) rfl rfl (by simp only [List.map_toArray, List.map_cons, List.map_nil]; rfl) ?_
              with_reducible refine (sz_tail1 HS HLK).mono ?_
              rintro e w3 ⟨rfl, hs, hz, hb⟩
              refine ⟨_, rfl, ?_⟩
              have HSa := Aside0.mk hs
              have HZ1 := Aside0.mk hz
              clear hs hz hb HS
              refine hK.out _ _ trivial (fun hHeld => ?_)
              clear hK K
              refine norm_ (a' := ?_) ?_ ?_
              rotate_left
              · show Act.put _ (some 88) _ = _
                simp only [Act.put, List.setIfInBounds_toArray, List.set_cons_zero, List.set_cons_succ, i64_w, i32_w]
                rfl
              refine one_ (i := 3) (N := some 90) #[true, true, true, true, false, false, false, false, false, false, false, false, false, false, false, false, false, false, false, false, false, false, false, false, false] rfl rfl (by kernel_rfl) (by decide) (fun K hK => ?_)
              refine goes_ Try.func11 (by kernel_rfl) rfl #[.pointer (some ⟨w1.heap.size + 1, 0, none⟩)] (by rfl) rfl rfl (by simp only [List.map_toArray, List.map_cons, List.map_nil]; rfl) ?_
              with_reducible refine (sz_tail2 HSa HLK).mono ?_
              rintro e w4 ⟨rfl, hs, hz, hb⟩
              refine ⟨_, rfl, ?_⟩
              have HSb := Aside0.mk hs
              have HZ2 := Aside0.mk hz
              have HZ3 := Aside0.mk ((hb.block _ (blk_lt HZ1.out)).trans HZ1.out)
              clear hs hz hb HSa HZ1
              refine hK.out _ _ trivial (fun hHeld => ?_)
              clear hK K
              refine norm_ (a' := ?_) ?_ ?_
              rotate_left
              · show Act.put _ (some 90) _ = _
                simp only [Act.put, List.setIfInBounds_toArray, List.set_cons_zero, List.set_cons_succ, i64_w, i32_w]
                rfl
              refine one_ (i := 4) (N := some 91) #[true, true, true, true, true, false, false, false, false, false, false, false, false, false, false, false, false, false, false, false, false, false, false, false, false] rfl rfl (by kernel_rfl) (by decide) (fun K hK => ?_)
              refine goes_ Try.func10 (by kernel_rfl) rfl #[.slice (some ⟨W9.heap.size, 0, none⟩) i i, .slice (some ⟨w3.heap.size, 0, none⟩) i i] (by rfl) rfl rfl (by simp only [List.map_toArray, List.map_cons, List.map_nil]; rfl) ?_
              with_reducible refine (sz_same HSb HZ3 HZ2 HLK HN3).mono ?_
              rintro e w5 ⟨rfl, hs⟩
              refine ⟨_, rfl, ?_⟩
              have HSc := Aside0.mk hs
              clear hs HSb HZ2 HZ3
              refine hK.out _ _ trivial (fun hHeld => ?_)
              clear hK K
              refine norm_ (a' := ?_) ?_ ?_
              rotate_left
              · show Act.put _ (some 91) _ = _
                simp only [Act.put, List.setIfInBounds_toArray, List.set_cons_zero, List.set_cons_succ, i64_w, i32_w]
                rfl
              refine pure_ (i := 5) (N := some 92) (v := ?_) (a' := ?_) #[true, true, true, true, true, true, false, false, false, false, false, false, false, false, false, false, false, false, false, false, false, false, false, false, false] rfl rfl (by kernel_rfl) (fun _ _ _ h => h) (Or.inl ⟨by rfl, ?_⟩) ?_ ?_
              rotate_left
              · intro w'
                go_simp
                with_reducible rfl
              rotate_left
              · simp only [Act.put, List.setIfInBounds_toArray, List.set_cons_zero, List.set_cons_succ, i64_w, i32_w]
                rfl
              refine pure_ (i := 6) (N := some 93) (v := ?_) (a' := ?_) #[true, true, true, true, true, true, true, false, false, false, false, false, false, false, false, false, false, false, false, false, false, false, false, false, false] rfl rfl (by kernel_rfl) (fun _ _ _ h => h) (Or.inl ⟨by rfl, ?_⟩) ?_ ?_
              rotate_left
              · intro w'
                go_simp
                with_reducible rfl
              rotate_left
              · simp only [Act.put, List.setIfInBounds_toArray, List.set_cons_zero, List.set_cons_succ, i64_w, i32_w]
                rfl
              refine pure_ (i := 8) (N := some 95) (v := ?_) (a' := ?_) #[true, true, true, true, true, true, true, false, true, false, false, false, false, false, false, false, false, false, false, false, false, false, false, false, false] rfl rfl (by kernel_rfl) (fun _ _ _ h => h) (Or.inl ⟨by rfl, ?_⟩) ?_ ?_
              rotate_left
              · intro w'
                go_simp
                with_reducible rfl
              rotate_left
              · simp only [Act.put, List.setIfInBounds_toArray, List.set_cons_zero, List.set_cons_succ, i64_w, i32_w]
                rfl
              refine pure_ (i := 9) (N := some 96) (v := ?_) (a' := ?_) #[true, true, true, true, true, true, true, false, true, true, false, false, false, false, false, false, false, false, false, false, false, false, false, false, false] rfl rfl (by kernel_rfl) (fun _ _ _ h => h) (Or.inl ⟨by rfl, ?_⟩) ?_ ?_
              rotate_left
              · intro w'
                go_simp
                with_reducible rfl
              rotate_left
              · simp only [Act.put, List.setIfInBounds_toArray, List.set_cons_zero, List.set_cons_succ, i64_w, i32_w]
                rfl
              refine one_ (i := 7) (N := some 94) #[true, true, true, true, true, true, true, true, true, true, false, false, false, false, false, false, false, false, false, false, false, false, false, false, false] rfl rfl (by kernel_rfl) (by decide) (fun K hK => ?_)
              refine goes_ Try.func11 (by kernel_rfl) rfl #[.pointer (some ⟨W0.heap.size + 1, 0, none⟩)] (by rfl) rfl rfl (by simp only [List.map_toArray, List.map_cons, List.map_nil]; rfl) ?_
              with_reducible refine (sz_tail1 HSc HLK).mono ?_
              rintro e w6 ⟨rfl, hs, hz, hb⟩
              refine ⟨_, rfl, ?_⟩
              have HSd := Aside0.mk hs
              have HZ4 := Aside0.mk hz
              have HC4 := Aside0.mk ((hs.2.2.2.1.block _ (blk_lt HCA.out)).trans HCA.out)
              clear hs hz hb HSc
              refine hK.out _ _ trivial (fun hHeld => ?_)
              clear hK K
              refine norm_ (a' := ?_) ?_ ?_
              rotate_left
              · show Act.put _ (some 94) _ = _
                simp only [Act.put, List.setIfInBounds_toArray, List.set_cons_zero, List.set_cons_succ, i64_w, i32_w]
                rfl
              refine one_ (i := 10) (N := some 97) #[true, true, true, true, true, true, true, true, true, true, true, false, false, false, false, false, false, false, false, false, false, false, false, false, false] rfl rfl (by kernel_rfl) (by decide) (fun K hK => ?_)
              refine goes_ Try.func10 (by kernel_rfl) rfl #[.slice (some ⟨w5.heap.size, 0, none⟩) i i, .slice (some ⟨w.heap.size + 1, 0, none⟩) i 300] (by rfl) rfl rfl (by simp only [List.map_toArray, List.map_cons, List.map_nil]; rfl) ?_
              with_reducible refine (sz_samec HSd HZ4 HC4 hcl HLK HN3).mono ?_
              rintro e w7 ⟨rfl, hs⟩
              refine ⟨_, rfl, ?_⟩
              have HSe := Aside0.mk hs
              clear hs HSd HZ4 HC4
              refine hK.out _ _ trivial (fun hHeld => ?_)
              clear hK K
              refine norm_ (a' := ?_) ?_ ?_
              rotate_left
              · show Act.put _ (some 97) _ = _
                simp only [Act.put, List.setIfInBounds_toArray, List.set_cons_zero, List.set_cons_succ, i64_w, i32_w]
                rfl
              refine pure_ (i := 11) (N := some 98) (v := ?_) (a' := ?_) #[true, true, true, true, true, true, true, true, true, true, true, true, false, false, false, false, false, false, false, false, false, false, false, false, false] rfl rfl (by kernel_rfl) (fun _ _ _ h => h) (Or.inl ⟨by rfl, ?_⟩) ?_ ?_
              rotate_left
              · intro w'
                go_simp
                with_reducible rfl
              rotate_left
              · simp only [Act.put, List.setIfInBounds_toArray, List.set_cons_zero, List.set_cons_succ, i64_w, i32_w]
                rfl
              refine pure_ (i := 12) (N := some 99) (v := ?_) (a' := ?_) #[true, true, true, true, true, true, true, true, true, true, true, true, true, false, false, false, false, false, false, false, false, false, false, false, false] rfl rfl (by kernel_rfl) (fun _ _ _ h => h) (Or.inl ⟨by rfl, ?_⟩) ?_ ?_
              rotate_left
              · intro w'
                go_simp
                with_reducible rfl
              rotate_left
              · simp only [Act.put, List.setIfInBounds_toArray, List.set_cons_zero, List.set_cons_succ, i64_w, i32_w]
                rfl
              refine pure_ (i := 13) (N := some 100) (v := ?_) (a' := ?_) #[true, true, true, true, true, true, true, true, true, true, true, true, true, true, false, false, false, false, false, false, false, false, false, false, false] rfl rfl (by kernel_rfl) (fun _ _ _ h => h) (Or.inl ⟨by rfl, ?_⟩) ?_ ?_
              rotate_left
              · intro w'
                go_simp
                with_reducible rfl
              rotate_left
              · simp only [Act.put, List.setIfInBounds_toArray, List.set_cons_zero, List.set_cons_succ, i64_w, i32_w]
                rfl
              refine pure_ (i := 15) (N := some 102) (v := ?_) (a' := ?_) #[true, true, true, true, true, true, true, true, true, true, true, true, true, true, false, true, false, false, false, false, false, false, false, false, false] rfl rfl (by kernel_rfl) (fun _ _ _ h => h) (Or.inl ⟨by rfl, ?_⟩) ?_ ?_
              rotate_left
              · intro w'
                go_simp
                with_reducible rfl
              rotate_left
              · simp only [Act.put, List.setIfInBounds_toArray, List.set_cons_zero, List.set_cons_succ, i64_w, i32_w]
                rfl
              refine one_ (i := 14) (N := some 101) #[true, true, true, true, true, true, true, true, true, true, true, true, true, true, true, true, false, false, false, false, false, false, false, false, false] rfl rfl (by kernel_rfl) (by decide) (fun K hK => ?_)
              refine goes_ Try.func12 (by kernel_rfl) rfl #[.pointer (some ⟨W0.heap.size + 1, 0, none⟩)] (by rfl) rfl rfl (by simp only [List.map_toArray, List.map_cons, List.map_nil]; rfl) ?_
              with_reducible refine (sz_len1 HSe HLK).mono ?_
              rintro e w8 ⟨rfl, hs⟩
              refine ⟨_, rfl, ?_⟩
              have HSf := Aside0.mk hs
              clear hs HSe
              refine hK.out _ _ trivial (fun hHeld => ?_)
              clear hK K
              refine norm_ (a' := ?_) ?_ ?_
              rotate_left
              · show Act.put _ (some 101) _ = _
                simp only [Act.put, List.setIfInBounds_toArray, List.set_cons_zero, List.set_cons_succ, i64_w, i32_w]
                rfl
              refine pure_ (i := 16) (N := some 103) (v := ?_) (a' := ?_) #[true, true, true, true, true, true, true, true, true, true, true, true, true, true, true, true, true, false, false, false, false, false, false, false, false] rfl rfl (by kernel_rfl) (fun _ _ _ h => h) (Or.inl ⟨by rfl, ?_⟩) ?_ ?_
              rotate_left
              · intro w'
                go_simp
                with_reducible rfl
              rotate_left
              · simp only [Act.put, List.setIfInBounds_toArray, List.set_cons_zero, List.set_cons_succ, i64_w, i32_w]
                rfl
              refine pure_ (i := 17) (N := some 104) (v := ?_) (a' := ?_) #[true, true, true, true, true, true, true, true, true, true, true, true, true, true, true, true, true, true, false, false, false, false, false, false, false] rfl rfl (by kernel_rfl) (fun _ _ _ h => h) (Or.inl ⟨by rfl, ?_⟩) ?_ ?_
              rotate_left
              · intro w'
                go_simp
                with_reducible rfl
              rotate_left
              · simp only [Act.put, List.setIfInBounds_toArray, List.set_cons_zero, List.set_cons_succ, i64_w, i32_w]
                rfl
              refine pure_ (i := 18) (N := some 105) (v := ?_) (a' := ?_) #[true, true, true, true, true, true, true, true, true, true, true, true, true, true, true, true, true, true, true, false, false, false, false, false, false] rfl rfl (by kernel_rfl) (fun _ _ _ h => h) (Or.inl ⟨by rfl, ?_⟩) ?_ ?_
              rotate_left
              · intro w'
                go_simp
                with_reducible rfl
              rotate_left
              · simp only [Act.put, List.setIfInBounds_toArray, List.set_cons_zero, List.set_cons_succ, i64_w, i32_w]
                rfl
              refine pure_ (i := 19) (N := some 106) (v := ?_) (a' := ?_) #[true, true, true, true, true, true, true, true, true, true, true, true, true, true, true, true, true, true, true, true, false, false, false, false, false] rfl rfl (by kernel_rfl) (fun _ _ _ h => h) (Or.inl ⟨by rfl, ?_⟩) ?_ ?_
              rotate_left
              · intro w'
                go_simp
                with_reducible rfl
              rotate_left
              · simp only [Act.put, List.setIfInBounds_toArray, List.set_cons_zero, List.set_cons_succ, i64_w, i32_w]
                rfl
              refine pure_ (i := 21) (N := some 108) (v := ?_) (a' := ?_) #[true, true, true, true, true, true, true, true, true, true, true, true, true, true, true, true, true, true, true, true, false, true, false, false, false] rfl rfl (by kernel_rfl) (fun _ _ _ h => h) (Or.inl ⟨by rfl, ?_⟩) ?_ ?_
              rotate_left
              · intro w'
                go_simp
                with_reducible rfl
              rotate_left
              · simp only [Act.put, List.setIfInBounds_toArray, List.set_cons_zero, List.set_cons_succ, i64_w, i32_w]
                rfl
              refine one_ (i := 20) (N := some 107) #[true, true, true, true, true, true, true, true, true, true, true, true, true, true, true, true, true, true, true, true, true, true, false, false, false] rfl rfl (by kernel_rfl) (by decide) (fun K hK => ?_)
              refine goes_ Try.func12 (by kernel_rfl) rfl #[.pointer (some ⟨w1.heap.size + 1, 0, none⟩)] (by rfl) rfl rfl (by simp only [List.map_toArray, List.map_cons, List.map_nil]; rfl) ?_
              with_reducible refine (sz_len2 HSf HLK).mono ?_
              rintro e w10 ⟨rfl, hs⟩
              refine ⟨_, rfl, ?_⟩
              have HSg := Aside0.mk hs
              clear hs HSf
              refine hK.out _ _ trivial (fun hHeld => ?_)
              clear hK K
              refine norm_ (a' := ?_) ?_ ?_
              rotate_left
              · show Act.put _ (some 107) _ = _
                simp only [Act.put, List.setIfInBounds_toArray, List.set_cons_zero, List.set_cons_succ, i64_w, i32_w]
                rfl
              refine pure_ (i := 22) (N := some 109) (v := ?_) (a' := ?_) #[true, true, true, true, true, true, true, true, true, true, true, true, true, true, true, true, true, true, true, true, true, true, true, false, false] rfl rfl (by kernel_rfl) (fun _ _ _ h => h) (Or.inl ⟨by rfl, ?_⟩) ?_ ?_
              rotate_left
              · intro w'
                go_simp
                with_reducible rfl
              rotate_left
              · simp only [Act.put, List.setIfInBounds_toArray, List.set_cons_zero, List.set_cons_succ, i64_w, i32_w]
                rfl
              refine pure_ (i := 23) (N := some 110) (v := ?_) (a' := ?_) #[true, true, true, true, true, true, true, true, true, true, true, true, true, true, true, true, true, true, true, true, true, true, true, true, false] rfl rfl (by kernel_rfl) (fun _ _ _ h => h) (Or.inl ⟨by rfl, ?_⟩) ?_ ?_
              rotate_left
              · intro w'
                go_simp
                with_reducible rfl
              rotate_left
              · simp only [Act.put, List.setIfInBounds_toArray, List.set_cons_zero, List.set_cons_succ, i64_w, i32_w]
                rfl
              refine pure_ (i := 24) (N := some 6) (v := ?_) (a' := ?_) #[true, true, true, true, true, true, true, true, true, true, true, true, true, true, true, true, true, true, true, true, true, true, true, true, true] rfl rfl (by kernel_rfl) (fun _ _ _ h => h) (Or.inl ⟨by rfl, ?_⟩) ?_ ?_
              rotate_left
              · intro w'
                go_simp
                with_reducible rfl
              rotate_left
              · simp only [Act.put, List.setIfInBounds_toArray, List.set_cons_zero, List.set_cons_succ, i64_w, i32_w]
                rfl
              refine done_ (by kernel_rfl) ?_
              clear hsl hwi
              go_wp2
              go_ret
              exact ⟨rfl, below_step HB0.out HSg.out.2.2.2.1⟩
theorem sizes_row (s : Int) (a0 : Option Addr) (l0 c0 : Nat) (z0 : List Int) (a1 : Option Addr) (l1 c1 : Nat) (z1 : List Int) (c : List Int) (w : World) (ws : (Lit.int .u8 s).wf = true)
    (w0 : (a0 = none ∧ l0 = 0 ∧ c0 = 0 ∧ z0 = []) ∨ ∃ x, a0 = some x ∧ l0 ≤ c0 ∧ c0 ≤ maxLen ∧ z0.length = c0 ∧ (∀ i, i < z0.length → w.cell? (x.add i) = some (.int .u8 (z0.getD i 0))) ∧ ∀ n ∈ z0, (Lit.int .u8 n).wf = true)
    (w1 : (a1 = none ∧ l1 = 0 ∧ c1 = 0 ∧ z1 = []) ∨ ∃ x, a1 = some x ∧ l1 ≤ c1 ∧ c1 ≤ maxLen ∧ z1.length = c1 ∧ (∀ i, i < z1.length → w.cell? (x.add i) = some (.int .u8 (z1.getD i 0))) ∧ ∀ n ∈ z1, (Lit.int .u8 n).wf = true)
    (hc : c.length = 300) (hw : ∀ x ∈ c, (Lit.int .u8 x).wf = true) :
    Calls Try.prog 3 #[.int .u8 s, .agg #[.slice a0 l0 c0, .slice a1 l1 c1], .agg (c.map (Value.int .u8)).toArray] w fun e w' => e = .returned (.bool true) ∧ Below w.heap.size w w' := by
  obtain ⟨q0, rfl, hr0, hm0, _, hc0⟩ := ReadsInt.ofRowC w0
  obtain ⟨q1, rfl, hr1, hm1, _, hc1⟩ := ReadsInt.ofRowC w1
  have h1 : 0 ≤ s ∧ s ≤ 255 := by simpa [Lit.wf, IntKind.min, IntKind.max, IntKind.signed, IntKind.bits] using ws
  obtain ⟨s, rfl⟩ : ∃ n : Nat, s = (n : Int) := ⟨s.toNat, by omega⟩
  exact sizes_bits s a0 c0 q0 a1 c1 q1 c w (by omega) ⟨hr0⟩ ⟨hr1⟩ (Nat.le_trans hm0 (by decide)) (Nat.le_trans hm1 (by decide)) ⟨hc⟩
end Go.Proofs.Ytcpijkckjahfdaa.PAll
