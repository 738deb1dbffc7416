/- The document's reader of bits (a row of bools in a state): its methods' contracts. -/
import Derived.Test.YteamaaiicjjidaaAbs
import Derived.Test.YteamaaiicjjidaaOwn
namespace Go.Proofs.Yteamaaiicjjidaa.PAll
open Go.RowKit Go.Proofs.YteamaaiicjjidaaW.PrintWords Go.Proofs.YteamaaiicjjidaaW.PrintLast Go.Proofs.YteamaaiicjjidaaW.PrintMore
set_option linter.unusedVariables false
set_option linter.unusedSimpArgs false
def bitsL (n : Nat) : List Bool := (List.range 8).map (fun i => n / 2 ^ i % 2 == 1)
theorem bitsL_len (n : Nat) : (bitsL n).length = 8 := by simp [bitsL]
def val : List Bool → Nat
  | [] => 0
  | b :: l => (if b then 1 else 0) + 2 * val l
theorem val_lt (l : List Bool) : val l < 2 ^ l.length := by
  induction l with
  | nil => simp [val]
  | cons b l ih => simp only [val, List.length_cons, Nat.pow_succ]; split <;> omega
theorem val_append (l m : List Bool) : val (l ++ m) = val l + val m * 2 ^ l.length := by
  induction l with
  | nil => simp [val]
  | cons b l ih =>
    simp only [List.cons_append, val, ih, List.length_cons, Nat.pow_succ]
    rw [Nat.mul_add, Nat.mul_comm (2 ^ l.length) 2, Nat.mul_left_comm (val m), Nat.add_assoc]
theorem val_take (l : List Bool) (k : Nat) (h : k ≤ l.length) : val (l.take k) = val l % 2 ^ k := by
  have h1 : val l = val (l.take k) + val (l.drop k) * 2 ^ k := by
    conv => lhs; rw [← List.take_append_drop k l]
    rw [val_append, List.length_take, Nat.min_eq_left h]
  have h2 := val_lt (l.take k)
  rw [List.length_take, Nat.min_eq_left h] at h2
  rw [h1, Nat.add_mul_mod_self_right, Nat.mod_eq_of_lt h2]
theorem val_drop (l : List Bool) (k : Nat) (h : k ≤ l.length) : val (l.drop k) = val l / 2 ^ k := by
  have h1 : val l = val (l.take k) + val (l.drop k) * 2 ^ k := by
    conv => lhs; rw [← List.take_append_drop k l]
    rw [val_append, List.length_take, Nat.min_eq_left h]
  have h2 := val_lt (l.take k)
  rw [List.length_take, Nat.min_eq_left h] at h2
  rw [h1, Nat.add_mul_div_right _ _ (Nat.pow_pos (by omega)), Nat.div_eq_of_lt h2, Nat.zero_add]
theorem bits_all : ∀ n : Fin 256, winkleref02_Bits.f 9 ((n.1 : Nat) : Int) = some (bitsL n.1) ∧ val (bitsL n.1) = n.1 := by decide +kernel
theorem bits_f (b : Int) (h0 : 0 ≤ b) (h1 : b ≤ 255) : winkleref02_Bits.f 9 b = some (bitsL b.toNat) ∧ val (bitsL b.toNat) = b.toNat := by
  have := bits_all ⟨b.toNat, by omega⟩
  simp only at this
  rw [Int.toNat_of_nonneg h0] at this
  exact this
def RB (w W : World) (g : Nat) (bs : List Bool) : Prop := ∃ v, W.heap[g]? = some (.cells #[v] 47 (0, 0)) ∧ w.heap.size ≤ g ∧ W.ownsRow w.heap.size 4 1 v bs.length (encs Value.bool bs) ∧ Below w.heap.size w W
theorem cellRB {W : World} {g : Nat} {v : Value} (h : W.heap[g]? = some (.cells #[v] 47 (0, 0))) : W.cell? ⟨g, 0, none⟩ = some v := (blk_cell h 0).trans rfl
theorem rb_set {w W : World} {g : Nat} {v v' : Value} {bs : List Bool} (hG : W.heap[g]? = some (.cells #[v] 47 (0, 0))) (hg : w.heap.size ≤ g) (hO : W.ownsRow w.heap.size 4 1 v' bs.length (encs Value.bool bs)) (hB : Below w.heap.size w W) : RB w (W.setCell ⟨g, 0, none⟩ v') g bs :=
  ⟨v', blk_put hG 0 v' rfl, hg, own_setCell hO (own_ne hO hG (by decide)) _, hB.setCell hg _⟩
set_option maxHeartbeats 8000000 in
set_option maxRecDepth 100000 in
theorem rb_put {w W : World} {g : Nat} {bs : List Bool} (b : Int) (h : Aside0 (RB w W g bs)) (hl : bs.length ≤ 56) (h0 : 0 ≤ b) (h1 : b ≤ 255) :
    Calls Try.prog 21 #[.pointer (some ⟨g, 0, none⟩), .int .u8 b] W fun e W' => e = .returned (.bool true) ∧ RB w W' g (bs ++ bitsL b.toNat) ∧ Own.Foot W W' g 4 := by
  obtain ⟨v, HG0, hg, HO0, HB0⟩ := h.out
  obtain ⟨A, c, rfl⟩ := own_slice HO0
  have HBT := Aside0.mk (bits_f b h0 h1).1
  have HLN := Aside0.mk (show (bs.length + (bitsL b.toNat).length) * 1 ≤ 140737488355328 by rw [bitsL_len]; omega)
  have hlb : decide (56 < (bs.length : Int)) = false := decide_eq_false (by omega)
  have HG : Aside0 (W.drew.heap[g]? = _) := ⟨HG0⟩
  have HO : Aside0 (W.drew.ownsRow w.heap.size 4 1 _ bs.length (encs Value.bool bs)) := ⟨HO0⟩
  have HB : Aside0 (Below w.heap.size w W.drew) := ⟨below_drew HB0⟩
  have HF0 : Aside0 (Own.Foot W W.drew g 4) := ⟨Own.Foot.refl W g 4⟩
  have hc : W.cell? ⟨g, 0, none⟩ = some (.slice A bs.length c) := cellRB HG0
  have hc0 : W.drew.cell? ⟨g, 0, none⟩ = some (.slice A bs.length c) := cellRB HG0
  clear h HG0 HO0 HB0 hl h0 h1
  go_enter Try.func21, Try.ntmps21
  go_wp2
  refine start_ (n := 11) (S := fun w' => w'.cell? ⟨g, 0, none⟩ = some (.slice A bs.length c)) (ds := [10]) #[false, false, false, false, false, false, false, false, false, false, false] (by kernel_rfl) rfl rfl (hc0) (fun hHeld => ?_)
  generalize W.drew = W2 at HG HO HB hc0 HF0 hHeld ⊢
  refine pure_ (i := 0) (N := some 11) (v := ?_) (a' := ?_) #[true, false, false, false, false, false, false, false, false, false, false] rfl rfl (by kernel_rfl) (fun _ _ _ h => h) (Or.inl ⟨by rfl, ?_⟩) ?_ ?_
  rotate_left
  · intro w'
    go_simp
    with_reducible rfl
  rotate_left
  · simp only [Act.put, List.setIfInBounds_toArray, List.set_cons_zero, List.set_cons_succ, i64_w, i32_w]
    rfl
  refine pure_ (i := 1) (N := some 12) (v := ?_) (a' := ?_) #[true, true, false, false, false, false, false, false, false, false, false] rfl rfl (by kernel_rfl) (fun _ _ _ h => h) (Or.inl ⟨by rfl, ?_⟩) ?_ ?_
  rotate_left
  · intro w'
    go_simp
    with_reducible rfl
  rotate_left
  · simp only [Act.put, List.setIfInBounds_toArray, List.set_cons_zero, List.set_cons_succ, i64_w, i32_w]
    rfl
  refine pure_ (i := 2) (N := some 13) (v := ?_) (a' := ?_) #[true, true, true, false, false, false, false, false, false, false, false] rfl rfl (by kernel_rfl) (fun _ _ _ h => h) (Or.inl ⟨by rfl, ?_⟩) ?_ ?_
  rotate_left
  · intro w'
    go_simp
    with_reducible rfl
  rotate_left
  · simp only [Act.put, List.setIfInBounds_toArray, List.set_cons_zero, List.set_cons_succ, i64_w, i32_w]
    rfl
  refine pure_ (i := 3) (N := some 14) (v := ?_) (a' := ?_) #[true, true, true, true, false, false, false, false, false, false, false] rfl rfl (by kernel_rfl) (fun _ _ _ h => h) (Or.inl ⟨by rfl, ?_⟩) ?_ ?_
  rotate_left
  · intro w'
    go_simp
    with_reducible rfl
  rotate_left
  · simp only [Act.put, List.setIfInBounds_toArray, List.set_cons_zero, List.set_cons_succ, i64_w, i32_w]
    rfl
  refine pure_ (i := 5) (N := some 16) (v := ?_) (a' := ?_) #[true, true, true, true, false, true, false, false, false, false, false] rfl rfl (by kernel_rfl) (fun _ _ _ h => h) (Or.inl ⟨by rfl, ?_⟩) ?_ ?_
  rotate_left
  · intro w'
    go_simp
    with_reducible rfl
  rotate_left
  · simp only [Act.put, List.setIfInBounds_toArray, List.set_cons_zero, List.set_cons_succ, i64_w, i32_w]
    rfl
  refine take_ (i := 4) (N := some 15) (v := ?_) (a' := ?_) #[true, true, true, true, true, true, false, false, false, false, false] rfl rfl (by kernel_rfl) (fun _ _ _ h => h) (Or.inl ⟨by rfl, ?_⟩) hHeld ?_ ?_
  rotate_left
  · intro w' s0
    go_simp
    with_reducible rfl
  rotate_left
  · simp only [Act.put, List.setIfInBounds_toArray, List.set_cons_zero, List.set_cons_succ, i64_w, i32_w]
    rfl
  refine one_ (i := 6) (N := some 17) #[true, true, true, true, true, true, true, false, false, false, false] rfl rfl (by kernel_rfl) (by decide) (fun K hK => ?_)
  refine goes_ Try.func27 (by kernel_rfl) rfl #[.int .u8 b] (by rfl) rfl rfl (by simp only [List.map_toArray, List.map_cons, List.map_nil]; rfl) ?_
  with_reducible refine (winkleref02_Bits.calls 9 b (bitsL b.toNat) _ HBT.out).mono ?_
  rintro e w1 ⟨v1, rfl, hR1, hb⟩
  refine ⟨_, rfl, ?_⟩
  obtain ⟨A1, c1, rfl, hlc1, hC1⟩ := Kd.R_reads hR1
  have HO1 := Aside0.mk (Own.own_below HO.out hb)
  have HG1 := Aside0.mk (Own.below_blk HG.out hb)
  have HB1 := Aside0.mk (below_step HB.out hb)
  have HF1 := Aside0.mk (Own.Foot.below (g := g) (t := 4) hb)
  clear HO HG HB hc0 hb hR1
  refine hK.out _ _ (cellRB HG1.out) (fun hHeld => ?_)
  clear hK K
  refine norm_ (a' := ?_) ?_ ?_
  rotate_left
  · show Act.put _ (some 17) _ = _
    simp only [Act.put, List.setIfInBounds_toArray, List.set_cons_zero, List.set_cons_succ, i64_w, i32_w]
    rfl
  refine one_ (i := 7) (N := some 18) #[true, true, true, true, true, true, true, true, false, false, false] rfl rfl (by kernel_rfl) (by decide) (fun K hK => ?_)
  refine Own.app_rows_step (enc := Value.bool) (fun _ => rfl) false w.heap.size (by rfl) (.tmp 15) (.tmp 17) 45 4 (.bool false) 1 rfl Try.underlying45 info4 rfl (by decide) (.slice A bs.length c) bs (bitsL b.toNat) A1 c1 rfl rfl HO1.out (Kd.reads_of_C (h1 := fun _ => rfl) hC1) HB1.out.size HLN.out ?_
  intro v2 w2 hown hgrow hat
  obtain ⟨A2, c2, rfl⟩ := own_slice hown
  have HG2 := Aside0.mk (Own.grown_blk HO1.out hgrow HG1.out (by decide))
  have HB2 := Aside0.mk (HB1.out.grown hgrow HB1.out.size (own_base HO1.out))
  have HF2 := Aside0.mk (HF1.out.trans (Own.Foot.grown (g := g) HO1.out hgrow))
  have HO2 := Aside0.mk hown
  have hc2 := cellRB HG2.out
  have hf2 := blk_frozen HG2.out 0
  clear hown hgrow hat HO1 HB1 HF1 HG1 hC1
  refine hK.out _ _ (hc2) (fun hHeld => ?_)
  clear hK K
  refine norm_ (a' := ?_) ?_ ?_
  rotate_left
  · show Act.put _ (some 18) _ = _
    simp only [Act.put, List.setIfInBounds_toArray, List.set_cons_zero, List.set_cons_succ, i64_w, i32_w]
    rfl
  refine pure_ (i := 8) (N := some 19) (v := ?_) (a' := ?_) #[true, true, true, true, true, true, true, true, true, false, false] rfl rfl (by kernel_rfl) (fun _ _ _ h => h) (Or.inl ⟨by rfl, ?_⟩) ?_ ?_
  rotate_left
  · intro w'
    go_simp
    with_reducible rfl
  rotate_left
  · simp only [Act.put, List.setIfInBounds_toArray, List.set_cons_zero, List.set_cons_succ, i64_w, i32_w]
    rfl
  refine pure_ (i := 9) (N := some 20) (v := ?_) (a' := ?_) #[true, true, true, true, true, true, true, true, true, true, false] rfl rfl (by kernel_rfl) (fun _ _ _ h => h) (Or.inl ⟨by rfl, ?_⟩) ?_ ?_
  rotate_left
  · intro w'
    go_simp
    with_reducible rfl
  rotate_left
  · simp only [Act.put, List.setIfInBounds_toArray, List.set_cons_zero, List.set_cons_succ, i64_w, i32_w]
    rfl
  refine last_ (i := 10) (N := none) #[true, true, true, true, true, true, true, true, true, true, true] rfl rfl (by kernel_rfl) (by decide) (fun K hK => ?_)
  refine skip_ (w1 := ?_) (by rfl) rfl ?_ ?_
  rotate_left
  · go_simp
    rfl
  refine hK.out _ _ ?_
  clear hK K
  refine done_ (by kernel_rfl) ?_
  go_wp2
  go_ret
  exact ⟨rfl, rb_set HG2.out hg (by have := HO2.out; simpa only [List.length_append] using this) HB2.out, HF0.out.trans (HF2.out.trans (Own.Foot.set 0 _))⟩
theorem rb_drawn {w W W' : World} {g : Nat} {bs : List Bool} (h : RB w W g bs) (hd : Drawn0 W W') : RB w W' g bs ∧ Own.Foot W W' g 4 := by
  obtain ⟨n, rfl⟩ := hd
  obtain ⟨v, h1, h2, h3, h4⟩ := h
  exact ⟨⟨v, h1, h2, h3, pw_below_drewN h4 n⟩, Own.Foot.refl W g 4⟩
theorem rb_put_no {w W : World} {g : Nat} {bs : List Bool} (b : Int) (h : Aside0 (RB w W g bs)) (hl : 56 < bs.length) :
    Calls Try.prog 21 #[.pointer (some ⟨g, 0, none⟩), .int .u8 b] W fun e W' => e = .returned (.bool false) ∧ RB w W' g bs ∧ Own.Foot W W' g 4 := by
  obtain ⟨v, HG0, hg, HO0, HB0⟩ := h.out
  obtain ⟨A, c, rfl⟩ := own_slice HO0
  have hlb : decide (56 < (bs.length : Int)) = true := decide_eq_true (by omega)
  have hc : W.cell? ⟨g, 0, none⟩ = some (.slice A bs.length c) := cellRB HG0
  clear HG0 hg HO0 HB0 hl
  go_enter Try.func21, Try.ntmps21
  go_wp2
  go_ret
  exact ⟨rfl, h.out, Own.Foot.refl W g 4⟩
end Go.Proofs.Yteamaaiicjjidaa.PAll
