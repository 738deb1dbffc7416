/- The document's reader of bits (a row of bools in a state): its methods' contracts. -/
import Derived.Test.YtanbckcknfoifaaAbs
import Derived.Test.YtanbckcknfoifaaOwn
namespace Go.Proofs.Ytanbckcknfoifaa.PAll
open Go.RowKit Go.Proofs.YtanbckcknfoifaaW.PrintWords Go.Proofs.YtanbckcknfoifaaW.PrintLast Go.Proofs.YtanbckcknfoifaaW.PrintMore
set_option linter.unusedVariables false
set_option linter.unusedSimpArgs false
def bitsL (n : Nat) : List Bool := (List.range 8).map (fun i => n / 2 ^ i % 2 == 1)
theorem bitsL_len (n : Nat) : (bitsL n).length = 8 := by simp [bitsL]
def val : List Bool → Nat
  | [] => 0
  | b :: l => (if b then 1 else 0) + 2 * val l
theorem val_lt (l : List Bool) : val l < 2 ^ l.length := by
  induction l with
  | nil => simp [val]
  | cons b l ih => simp only [val, List.length_cons, Nat.pow_succ]; split <;> omega
theorem val_append (l m : List Bool) : val (l ++ m) = val l + val m * 2 ^ l.length := by
  induction l with
  | nil => simp [val]
  | cons b l ih =>
    simp only [List.cons_append, val, ih, List.length_cons, Nat.pow_succ]
    rw [Nat.mul_add, Nat.mul_comm (2 ^ l.length) 2, Nat.mul_left_comm (val m), Nat.add_assoc]
theorem val_take (l : List Bool) (k : Nat) (h : k ≤ l.length) : val (l.take k) = val l % 2 ^ k := by
  have h1 : val l = val (l.take k) + val (l.drop k) * 2 ^ k := by
    conv => lhs; rw [← List.take_append_drop k l]
    rw [val_append, List.length_take, Nat.min_eq_left h]
  have h2 := val_lt (l.take k)
  rw [List.length_take, Nat.min_eq_left h] at h2
  rw [h1, Nat.add_mul_mod_self_right, Nat.mod_eq_of_lt h2]
theorem val_drop (l : List Bool) (k : Nat) (h : k ≤ l.length) : val (l.drop k) = val l / 2 ^ k := by
  have h1 : val l = val (l.take k) + val (l.drop k) * 2 ^ k := by
    conv => lhs; rw [← List.take_append_drop k l]
    rw [val_append, List.length_take, Nat.min_eq_left h]
  have h2 := val_lt (l.take k)
  rw [List.length_take, Nat.min_eq_left h] at h2
  rw [h1, Nat.add_mul_div_right _ _ (Nat.pow_pos (by omega)), Nat.div_eq_of_lt h2, Nat.zero_add]
theorem bits_all : ∀ n : Fin 256, winkleref02_Bits.f 9 ((n.1 : Nat) : Int) = some (bitsL n.1) ∧ val (bitsL n.1) = n.1 := by decide +kernel
theorem bits_f (b : Int) (h0 : 0 ≤ b) (h1 : b ≤ 255) : winkleref02_Bits.f 9 b = some (bitsL b.toNat) ∧ val (bitsL b.toNat) = b.toNat := by
  have := bits_all ⟨b.toNat, by omega⟩
  simp only at this
  rw [Int.toNat_of_nonneg h0] at this
  exact this
theorem number_f (l : List Bool) (hl : l.length ≤ 64) : ∃ k, winkleref02_Number.f k l = some ((val l : Nat) : Int) := by
  have key : ∀ (d : Nat), d ≤ l.length → ∀ r, winkleref02_Number.l0 (d + 1 + r) l ((val (l.drop d) : Nat) : Int) ((d : Int) - 1) = some ((val l : Nat) : Int) := by
    intro d
    induction d with
    | zero => intro _ r; rw [Nat.zero_add, Nat.add_comm]; simp only [winkleref02_Number.l0]; rw [if_neg (by omega)]; simp
    | succ d ih =>
      intro hd r
      rw [show d + 1 + 1 + r = (d + 1 + r) + 1 by omega]
      simp only [winkleref02_Number.l0]
      have e : ((d + 1 : Nat) : Int) - 1 = (d : Int) := by omega
      rw [e, if_pos (by omega), if_pos (by omega), if_pos (by omega)]
      have hw : wrap64 ((d : Int) - 1) = (d : Int) - 1 := by unfold wrap64; omega
      have hlt := val_lt (l.drop d)
      have h64 : val (l.drop d) < 18446744073709551616 := by
        have : 2 ^ (l.drop d).length ≤ 18446744073709551616 := pow_le64 (by rw [List.length_drop]; omega)
        omega
      have hv : val (l.drop d) = (if l[d] then 1 else 0) + 2 * val (l.drop (d + 1)) := by rw [List.drop_eq_getElem_cons (by omega)]; rfl
      have hr : rdOf false l (d : Int) = l[d] := by simp [rdOf, List.getD, show d < l.length by omega]
      have h2 := ih (by omega) r
      rw [hw, hr]
      cases hb : l[d]
      · rw [hb] at hv
        simp only [Bool.false_eq_true, if_false, Nat.zero_add] at hv ⊢
        rw [hv] at h2 h64
        rw [w64 _ (by omega) (by omega)]
        rw [Int.natCast_mul] at h2
        exact h2
      · rw [hb] at hv
        simp only [if_true] at hv ⊢
        rw [hv] at h2 h64
        rw [w64 (2 * ((val (l.drop (d + 1)) : Nat) : Int)) (by omega) (by omega), w64 _ (by omega) (by omega)]
        rw [Int.natCast_add, Int.natCast_mul, Int.add_comm] at h2
        exact h2
  refine ⟨l.length + 1, ?_⟩
  have h := key l.length (Nat.le_refl _) 0
  rw [List.drop_length] at h
  unfold winkleref02_Number.f
  have hw : wrap64 ((l.length : Int) - 1) = (l.length : Int) - 1 := by unfold wrap64; omega
  rw [hw]
  exact h
def RB (w W : World) (g : Nat) (bs : List Bool) : Prop := ∃ v, W.heap[g]? = some (.cells #[v] 43 (0, 0)) ∧ w.heap.size ≤ g ∧ W.ownsRow w.heap.size 4 1 v bs.length (encs Value.bool bs) ∧ Below w.heap.size w W
theorem cellRB {W : World} {g : Nat} {v : Value} (h : W.heap[g]? = some (.cells #[v] 43 (0, 0))) : W.cell? ⟨g, 0, none⟩ = some v := (blk_cell h 0).trans rfl
theorem rb_set {w W : World} {g : Nat} {v v' : Value} {bs : List Bool} (hG : W.heap[g]? = some (.cells #[v] 43 (0, 0))) (hg : w.heap.size ≤ g) (hO : W.ownsRow w.heap.size 4 1 v' bs.length (encs Value.bool bs)) (hB : Below w.heap.size w W) : RB w (W.setCell ⟨g, 0, none⟩ v') g bs :=
  ⟨v', blk_put hG 0 v' rfl, hg, own_setCell hO (own_ne hO hG (by decide)) _, hB.setCell hg _⟩
set_option maxHeartbeats 8000000 in
set_option maxRecDepth 100000 in
theorem rb_put {w W : World} {g : Nat} {bs : List Bool} (b : Int) (h : Aside0 (RB w W g bs)) (hl : bs.length ≤ 56) (h0 : 0 ≤ b) (h1 : b ≤ 255) :
    Calls Try.prog 17 #[.pointer (some ⟨g, 0, none⟩), .int .u8 b] W fun e W' => e = .returned (.bool true) ∧ RB w W' g (bs ++ bitsL b.toNat) ∧ Own.Foot W W' g 4 := by
  obtain ⟨v, HG0, hg, HO0, HB0⟩ := h.out
  obtain ⟨A, c, rfl⟩ := own_slice HO0
  have HBT := Aside0.mk (bits_f b h0 h1).1
  have HLN := Aside0.mk (show (bs.length + (bitsL b.toNat).length) * 1 ≤ 140737488355328 by rw [bitsL_len]; omega)
  have hlb : decide (56 < (bs.length : Int)) = false := decide_eq_false (by omega)
  have HG : Aside0 (W.drew.heap[g]? = _) := ⟨HG0⟩
  have HO : Aside0 (W.drew.ownsRow w.heap.size 4 1 _ bs.length (encs Value.bool bs)) := ⟨HO0⟩
  have HB : Aside0 (Below w.heap.size w W.drew) := ⟨below_drew HB0⟩
  have HF0 : Aside0 (Own.Foot W W.drew g 4) := ⟨Own.Foot.refl W g 4⟩
  have hc : W.cell? ⟨g, 0, none⟩ = some (.slice A bs.length c) := cellRB HG0
  have hc0 : W.drew.cell? ⟨g, 0, none⟩ = some (.slice A bs.length c) := cellRB HG0
  clear h HG0 HO0 HB0 hl h0 h1
  go_enter Try.func17, Try.ntmps17
  go_wp2
  refine start_ (n := 11) (S := fun w' => w'.cell? ⟨g, 0, none⟩ = some (.slice A bs.length c)) (ds := [10]) #[false, false, false, false, false, false, false, false, false, false, false] (by kernel_rfl) rfl rfl (hc0) (fun hHeld => ?_)
  generalize W.drew = W2 at HG HO HB hc0 HF0 hHeld ⊢
  refine pure_ (i := 0) (N := some 11) (v := ?_) (a' := ?_) #[true, false, false, false, false, false, false, false, false, false, false] rfl rfl (by kernel_rfl) (fun _ _ _ h => h) (Or.inl ⟨by rfl, ?_⟩) ?_ ?_
  rotate_left
  · intro w'
    go_simp
    with_reducible rfl
  rotate_left
  · simp only [Act.put, List.setIfInBounds_toArray, List.set_cons_zero, List.set_cons_succ, i64_w, i32_w]
    rfl
  refine pure_ (i := 1) (N := some 12) (v := ?_) (a' := ?_) #[true, true, false, false, false, false, false, false, false, false, false] rfl rfl (by kernel_rfl) (fun _ _ _ h => h) (Or.inl ⟨by rfl, ?_⟩) ?_ ?_
  rotate_left
  · intro w'
    go_simp
    with_reducible rfl
  rotate_left
  · simp only [Act.put, List.setIfInBounds_toArray, List.set_cons_zero, List.set_cons_succ, i64_w, i32_w]
    rfl
  refine pure_ (i := 2) (N := some 13) (v := ?_) (a' := ?_) #[true, true, true, false, false, false, false, false, false, false, false] rfl rfl (by kernel_rfl) (fun _ _ _ h => h) (Or.inl ⟨by rfl, ?_⟩) ?_ ?_
  rotate_left
  · intro w'
    go_simp
    with_reducible rfl
  rotate_left
  · simp only [Act.put, List.setIfInBounds_toArray, List.set_cons_zero, List.set_cons_succ, i64_w, i32_w]
    rfl
  refine pure_ (i := 3) (N := some 14) (v := ?_) (a' := ?_) #[true, true, true, true, false, false, false, false, false, false, false] rfl rfl (by kernel_rfl) (fun _ _ _ h => h) (Or.inl ⟨by rfl, ?_⟩) ?_ ?_
  rotate_left
  · intro w'
    go_simp
    with_reducible rfl
  rotate_left
  · simp only [Act.put, List.setIfInBounds_toArray, List.set_cons_zero, List.set_cons_succ, i64_w, i32_w]
    rfl
  refine pure_ (i := 5) (N := some 16) (v := ?_) (a' := ?_) #[true, true, true, true, false, true, false, false, false, false, false] rfl rfl (by kernel_rfl) (fun _ _ _ h => h) (Or.inl ⟨by rfl, ?_⟩) ?_ ?_
  rotate_left
  · intro w'
    go_simp
    with_reducible rfl
  rotate_left
  · simp only [Act.put, List.setIfInBounds_toArray, List.set_cons_zero, List.set_cons_succ, i64_w, i32_w]
    rfl
  refine take_ (i := 4) (N := some 15) (v := ?_) (a' := ?_) #[true, true, true, true, true, true, false, false, false, false, false] rfl rfl (by kernel_rfl) (fun _ _ _ h => h) (Or.inl ⟨by rfl, ?_⟩) hHeld ?_ ?_
  rotate_left
  · intro w' s0
    go_simp
    with_reducible rfl
  rotate_left
  · simp only [Act.put, List.setIfInBounds_toArray, List.set_cons_zero, List.set_cons_succ, i64_w, i32_w]
    rfl
  refine one_ (i := 6) (N := some 17) #[true, true, true, true, true, true, true, false, false, false, false] rfl rfl (by kernel_rfl) (by decide) (fun K hK => ?_)
  refine goes_ Try.func24 (by kernel_rfl) rfl #[.int .u8 b] (by rfl) rfl rfl (by simp only [List.map_toArray, List.map_cons, List.map_nil]; rfl) ?_
  with_reducible refine (winkleref02_Bits.calls 9 b (bitsL b.toNat) _ HBT.out).mono ?_
  rintro e w1 ⟨v1, rfl, hR1, hb⟩
  refine ⟨_, rfl, ?_⟩
  obtain ⟨A1, c1, rfl, hlc1, hC1⟩ := Kd.R_reads hR1
  have HO1 := Aside0.mk (Own.own_below HO.out hb)
  have HG1 := Aside0.mk (Own.below_blk HG.out hb)
  have HB1 := Aside0.mk (below_step HB.out hb)
  have HF1 := Aside0.mk (Own.Foot.below (g := g) (t := 4) hb)
  clear HO HG HB hc0 hb hR1
  refine hK.out _ _ (cellRB HG1.out) (fun hHeld => ?_)
  clear hK K
  refine norm_ (a' := ?_) ?_ ?_
  rotate_left
  · show Act.put _ (some 17) _ = _
    simp only [Act.put, List.setIfInBounds_toArray, List.set_cons_zero, List.set_cons_succ, i64_w, i32_w]
    rfl
  refine one_ (i := 7) (N := some 18) #[true, true, true, true, true, true, true, true, false, false, false] rfl rfl (by kernel_rfl) (by decide) (fun K hK => ?_)
  refine Own.app_rows_step (enc := Value.bool) (fun _ => rfl) false w.heap.size (by rfl) (.tmp 15) (.tmp 17) 41 4 (.bool false) 1 rfl Try.underlying41 info4 rfl (by decide) (.slice A bs.length c) bs (bitsL b.toNat) A1 c1 rfl rfl HO1.out (Kd.reads_of_C (h1 := fun _ => rfl) hC1) HB1.out.size HLN.out ?_
  intro v2 w2 hown hgrow hat
  obtain ⟨A2, c2, rfl⟩ := own_slice hown
  have HG2 := Aside0.mk (Own.grown_blk HO1.out hgrow HG1.out (by decide))
  have HB2 := Aside0.mk (HB1.out.grown hgrow HB1.out.size (own_base HO1.out))
  have HF2 := Aside0.mk (HF1.out.trans (Own.Foot.grown (g := g) HO1.out hgrow))
  have HO2 := Aside0.mk hown
  have hc2 := cellRB HG2.out
  have hf2 := blk_frozen HG2.out 0
  clear hown hgrow hat HO1 HB1 HF1 HG1 hC1
  refine hK.out _ _ (hc2) (fun hHeld => ?_)
  clear hK K
  refine norm_ (a' := ?_) ?_ ?_
  rotate_left
  · show Act.put _ (some 18) _ = _
    simp only [Act.put, List.setIfInBounds_toArray, List.set_cons_zero, List.set_cons_succ, i64_w, i32_w]
    rfl
  refine pure_ (i := 8) (N := some 19) (v := ?_) (a' := ?_) #[true, true, true, true, true, true, true, true, true, false, false] rfl rfl (by kernel_rfl) (fun _ _ _ h => h) (Or.inl ⟨by rfl, ?_⟩) ?_ ?_
  rotate_left
  · intro w'
    go_simp
    with_reducible rfl
  rotate_left
  · simp only [Act.put, List.setIfInBounds_toArray, List.set_cons_zero, List.set_cons_succ, i64_w, i32_w]
    rfl
  refine pure_ (i := 9) (N := some 20) (v := ?_) (a' := ?_) #[true, true, true, true, true, true, true, true, true, true, false] rfl rfl (by kernel_rfl) (fun _ _ _ h => h) (Or.inl ⟨by rfl, ?_⟩) ?_ ?_
  rotate_left
  · intro w'
    go_simp
    with_reducible rfl
  rotate_left
  · simp only [Act.put, List.setIfInBounds_toArray, List.set_cons_zero, List.set_cons_succ, i64_w, i32_w]
    rfl
  refine last_ (i := 10) (N := none) #[true, true, true, true, true, true, true, true, true, true, true] rfl rfl (by kernel_rfl) (by decide) (fun K hK => ?_)
  refine skip_ (w1 := ?_) (by rfl) rfl ?_ ?_
  rotate_left
  · go_simp
    rfl
  refine hK.out _ _ ?_
  clear hK K
  refine done_ (by kernel_rfl) ?_
  go_wp2
  go_ret
  exact ⟨rfl, rb_set HG2.out hg (by have := HO2.out; simpa only [List.length_append] using this) HB2.out, HF0.out.trans (HF2.out.trans (Own.Foot.set 0 _))⟩
theorem rb_drawn {w W W' : World} {g : Nat} {bs : List Bool} (h : RB w W g bs) (hd : Drawn0 W W') : RB w W' g bs ∧ Own.Foot W W' g 4 := by
  obtain ⟨n, rfl⟩ := hd
  obtain ⟨v, h1, h2, h3, h4⟩ := h
  exact ⟨⟨v, h1, h2, h3, pw_below_drewN h4 n⟩, Own.Foot.refl W g 4⟩
theorem rb_put_no {w W : World} {g : Nat} {bs : List Bool} (b : Int) (h : Aside0 (RB w W g bs)) (hl : 56 < bs.length) :
    Calls Try.prog 17 #[.pointer (some ⟨g, 0, none⟩), .int .u8 b] W fun e W' => e = .returned (.bool false) ∧ RB w W' g bs ∧ Own.Foot W W' g 4 := by
  obtain ⟨v, HG0, hg, HO0, HB0⟩ := h.out
  obtain ⟨A, c, rfl⟩ := own_slice HO0
  have hlb : decide (56 < (bs.length : Int)) = true := decide_eq_true (by omega)
  have hc : W.cell? ⟨g, 0, none⟩ = some (.slice A bs.length c) := cellRB HG0
  clear HG0 hg HO0 HB0 hl
  go_enter Try.func17, Try.ntmps17
  go_wp2
  go_ret
  exact ⟨rfl, h.out, Own.Foot.refl W g 4⟩
theorem rb_peek_no {w W : World} {g : Nat} {bs : List Bool} (k : Int) (h : Aside0 (RB w W g bs)) (hk : k < 0 ∨ k > 32 ∨ k > bs.length) :
    Calls Try.prog 20 #[.pointer (some ⟨g, 0, none⟩), .int .i64 k] W fun e W' => e = .returned (.tuple #[.int .u32 0, .bool false]) ∧ RB w W' g bs ∧ Own.Foot W W' g 4 := by
  obtain ⟨v, HG0, hg, HO0, HB0⟩ := h.out
  obtain ⟨A, c, rfl⟩ := own_slice HO0
  have hc : W.cell? ⟨g, 0, none⟩ = some (.slice A bs.length c) := cellRB HG0
  clear HG0 hg HO0 HB0
  by_cases h0 : k < 0
  · have hb0 : decide (k < 0) = true := decide_eq_true h0
    clear h0 hk
    go_enter Try.func20, Try.ntmps20
    go_wp2
    go_ret2
    exact ⟨rfl, h.out, Own.Foot.refl W g 4⟩
  · have hb0 : decide (k < 0) = false := decide_eq_false h0
    by_cases h1 : k > 32
    · have hb1 : decide (32 < k) = true := decide_eq_true h1
      clear h0 hk h1
      go_enter Try.func20, Try.ntmps20
      go_wp2
      go_ret2
      exact ⟨rfl, h.out, Own.Foot.refl W g 4⟩
    · have hb1 : decide (32 < k) = false := decide_eq_false h1
      have hb2 : decide ((bs.length : Int) < k) = true := decide_eq_true (by omega)
      clear h0 hk h1
      go_enter Try.func20, Try.ntmps20
      go_wp2
      go_ret2
      exact ⟨rfl, h.out, Own.Foot.refl W g 4⟩
set_option maxHeartbeats 8000000 in
theorem rb_peek {w W : World} {g : Nat} {bs : List Bool} (k : Nat) (h : Aside0 (RB w W g bs)) (hk : k ≤ bs.length) (h32 : k ≤ 32) :
    Calls Try.prog 20 #[.pointer (some ⟨g, 0, none⟩), .int .i64 (k : Int)] W fun e W' => e = .returned (.tuple #[.int .u32 ((val (bs.take k) : Nat) : Int), .bool true]) ∧ RB w W' g bs ∧ Own.Foot W W' g 4 := by
  obtain ⟨v, HG0, hg, HO0, HB0⟩ := h.out
  obtain ⟨A, c, rfl⟩ := own_slice HO0
  have hc : W.cell? ⟨g, 0, none⟩ = some (.slice A bs.length c) := cellRB HG0
  have hcap := own_cap HO0
  obtain ⟨i0, hi, _, hsz, _⟩ := info_parts info4
  obtain ⟨htk, htR, _⟩ := print_take_of (P := Try.prog) Value.bool false 41 4 .i64 Try.underlying41 hi hsz A c bs (k : Int) (by omega) (by omega) hcap
  obtain ⟨A', c', e, hrd⟩ := own_reads_of (d := false) HO0
  cases e
  have hq : (bs.take k).length = k := by rw [List.length_take]; omega
  rw [Int.toNat_natCast] at htk htR
  have hC := htR W hrd
  obtain ⟨n, hn⟩ := number_f (bs.take k) (by omega)
  have HN := Aside0.mk (winkleref02_Number.calls n A c (bs.take k) _ W (Kd.C_of_reads (d := false) (h1 := fun _ => rfl) hC) (by omega) hn)
  rw [hq] at htk HN
  have hlt := val_lt (bs.take k)
  rw [hq] at hlt
  have h2 : (2 : Nat) ^ k ≤ 2 ^ 32 := Nat.pow_le_pow_right (by omega) h32
  have e2 : (2 : Nat) ^ 32 = 4294967296 := by decide
  generalize val (bs.take k) = X at *
  have hw : IntKind.u32.wrap (X : Int) = (X : Int) := by simp [IntKind.wrap, IntKind.bits, IntKind.signed]; omega
  have hb0 : decide ((k : Int) < 0) = false := decide_eq_false (by omega)
  have hb1 : decide ((32 : Int) < (k : Int)) = false := decide_eq_false (by omega)
  have hb2 : decide ((bs.length : Int) < (k : Int)) = false := decide_eq_false (by omega)
  clear HG0 hg HO0 HB0 hi hsz htR hrd hq hC hn hlt h2 e2 hcap
  go_enter Try.func20, Try.ntmps20
  go_wp2_with (go_at_call 25; (with_reducible refine (HN.out).mono ?_); rintro e w1 ⟨rfl, hd⟩; have HD := Aside0.mk (rb_drawn h.out hd); clear hd)
  go_ret2
  exact ⟨rfl, HD.out⟩
theorem rb_take_no {w W : World} {g : Nat} {bs : List Bool} (k : Int) (h : Aside0 (RB w W g bs)) (hk : k < 0 ∨ k > 32 ∨ k > bs.length) :
    Calls Try.prog 18 #[.pointer (some ⟨g, 0, none⟩), .int .i64 k] W fun e W' => e = .returned (.tuple #[.int .u32 0, .bool false]) ∧ RB w W' g bs ∧ Own.Foot W W' g 4 := by
  have HC := Aside0.mk (rb_peek_no k h hk)
  clear hk
  go_enter Try.func18, Try.ntmps18
  go_wp2_with (go_at_call 20; (with_reducible refine (HC.out).mono ?_); rintro e w1 ⟨rfl, hd⟩; have HD := Aside0.mk hd; clear hd)
  go_ret2
  exact ⟨rfl, HD.out⟩
/-- the rest of the row, in a row of its own. -/
theorem drop_facts {w W : World} {A : Option Addr} {c : Nat} {bs : List Bool} (HO : W.ownsRow w.heap.size 4 1 (.slice A bs.length c) bs.length (encs Value.bool bs)) (k : Nat) (hk : k ≤ bs.length) :
    ∃ (A' : Option Addr) (c' n : Nat), (∀ W : World, (Instr.slice 41 (.slice A bs.length c) (some (.int .i64 (k : Int))) none none).run Try.prog W = .ok (.slice A' n c') W) ∧ (bs.drop k).length = n ∧ ∀ W1 : World, Below W.heap.size W W1 → ReadsOf Value.bool false W1 A' n (bs.drop k) := by
  have hcap := own_cap HO
  obtain ⟨i0, hi, _, hsz, _⟩ := info_parts info4
  obtain ⟨A', h1, h2⟩ := print_cut_of (P := Try.prog) Value.bool false 41 4 .i64 Try.underlying41 hi hsz A bs.length c k hk
  obtain ⟨A2, c2, e, hrd⟩ := own_reads_of (d := false) HO
  cases e
  exact ⟨A', c - k, bs.length - k, h1, List.length_drop, fun W1 hb => h2 W1 bs hcap (hrd.below hb)⟩
set_option maxHeartbeats 8000000 in
theorem rb_take {w W : World} {g : Nat} {bs : List Bool} (k : Nat) (h : Aside0 (RB w W g bs)) (hk : k ≤ bs.length) (h32 : k ≤ 32) (h64 : bs.length ≤ 64) :
    Calls Try.prog 18 #[.pointer (some ⟨g, 0, none⟩), .int .i64 (k : Int)] W fun e W' => e = .returned (.tuple #[.int .u32 ((val (bs.take k) : Nat) : Int), .bool true]) ∧ RB w W' g (bs.drop k) ∧ Own.Foot W W' g 4 := by
  have HC := Aside0.mk (rb_peek k h hk h32)
  have HK := Aside0.mk hk
  have HL := Aside0.mk (show (([] : List Bool).length + (bs.drop k).length) * 1 ≤ 140737488355328 by rw [List.length_drop]; simp; omega)
  clear hk h32 h64 h
  go_enter Try.func18, Try.ntmps18
  go_wp2_with (first
    | (go_at_call 20; (with_reducible refine (HC.out).mono ?_); rintro e w1 ⟨rfl, hd⟩; have HD := Aside0.mk hd.1; have HF := Aside0.mk hd.2; clear hd HC; obtain ⟨v, HG0, hg, HO0, HB0⟩ := HD.out; obtain ⟨A, c, hv⟩ := own_slice HO0; subst hv; have hc : (w1.alloc (.cells #[] 4)).cell? ⟨g, 0, none⟩ = some (.slice A bs.length c) := cellRB (Own.below_blk HG0 (below_alloc (Below.refl _ _) _)); obtain ⟨A', c', n, hsl, hdl, hrd⟩ := drop_facts HO0 k HK.out; have HG := Aside0.mk HG0; have HDL := Aside0.mk hdl; have HRD := Aside0.mk hrd; have HB := Aside0.mk HB0; clear HG0 HO0 HB0 hdl hrd)
    | (at_builtin; refine Own.app_rows (W := w1.alloc (.cells #[] 4)) (enc := Value.bool) (fun _ => rfl) false w.heap.size rfl (.tmp 16) (.tmp 22) 41 4 (.bool false) 1 rfl Try.underlying41 info4 rfl (by decide) (.slice (some ⟨w1.heap.size, 0, none⟩) 0 0) [] (bs.drop k) A' n c' rfl rfl HDL.out (own_lit_of w1 w.heap.size 4 ([] : List Bool) HB.out.size (by simp)) (HRD.out _ (below_alloc (Below.refl _ _) _)) (Nat.le_trans HB.out.size (by simp)) HL.out ?_; intro v2 w2 hown hgrow hat; obtain ⟨A2, c2, hv2⟩ := own_slice hown; subst hv2; have HA := Aside0.mk (own_lit_of (enc := Value.bool) w1 w.heap.size 4 ([] : List Bool) HB.out.size (by simp)); have HG2 := Aside0.mk (Own.grown_blk HA.out hgrow (Own.below_blk HG.out (below_alloc (Below.refl _ _) _)) (by decide)); have HB2 := Aside0.mk ((HB.out.alloc HB.out.size (.cells #[] 4)).grown hgrow (Nat.le_trans HB.out.size (by simp)) (own_base HA.out)); have HF2 := Aside0.mk (HF.out.trans ((Own.Foot.below (g := g) (t := 4) (below_alloc (Below.refl _ _) (.cells #[] 4))).trans (Own.Foot.grown (g := g) HA.out hgrow))); have HO2 := Aside0.mk hown; have hc2 := cellRB HG2.out; have hf2 := blk_frozen HG2.out 0; clear hown hgrow hat HA hc hsl HG HB HF HDL HRD))
  go_ret2
  exact ⟨rfl, rb_set HG2.out hg (by have := HO2.out; have e : (bs.drop k).length = bs.length - k := List.length_drop; rw [← e]; simpa only [List.length_append, List.nil_append, List.length_nil, Nat.zero_add] using this) HB2.out, HF2.out.trans (Own.Foot.set 0 _)⟩
set_option maxHeartbeats 8000000 in
theorem rb_align {w W : World} {g : Nat} {bs : List Bool} (h : Aside0 (RB w W g bs)) (h64 : bs.length ≤ 64) :
    Calls Try.prog 21 #[.pointer (some ⟨g, 0, none⟩)] W fun e W' => e = .returned (.int .i64 ((bs.length % 8 : Nat) : Int)) ∧ RB w W' g (bs.drop (bs.length % 8)) ∧ Own.Foot W W' g 4 := by
  obtain ⟨v, HG0, hg, HO0, HB0⟩ := h.out
  obtain ⟨A, c, rfl⟩ := own_slice HO0
  have hc0 : W.cell? ⟨g, 0, none⟩ = some (.slice A bs.length c) := cellRB HG0
  have hc : (W.alloc (.cells #[] 4)).cell? ⟨g, 0, none⟩ = some (.slice A bs.length c) := cellRB (Own.below_blk HG0 (below_alloc (Below.refl _ _) _))
  have hm : Int.tmod (bs.length : Int) 8 = ((bs.length % 8 : Nat) : Int) := by rw [Int.tmod_eq_emod_of_nonneg (by omega)]; omega
  have hk : bs.length % 8 ≤ bs.length := by omega
  have HL := Aside0.mk (show (([] : List Bool).length + (bs.drop (bs.length % 8)).length) * 1 ≤ 140737488355328 by rw [List.length_drop]; simp; omega)
  generalize bs.length % 8 = k at *
  obtain ⟨A', c', n, hsl, hdl, hrd⟩ := drop_facts HO0 k hk
  have HG := Aside0.mk HG0
  have HDL := Aside0.mk hdl
  have HRD := Aside0.mk hrd
  have HB := Aside0.mk HB0
  clear HG0 HO0 HB0 hdl hrd hk h64 h
  go_enter Try.func21, Try.ntmps21
  go_wp2_with (first
    | (at_builtin; refine Own.app_rows (W := W.alloc (.cells #[] 4)) (enc := Value.bool) (fun _ => rfl) false w.heap.size rfl (.tmp 11) (.tmp 17) 41 4 (.bool false) 1 rfl Try.underlying41 info4 rfl (by decide) (.slice (some ⟨W.heap.size, 0, none⟩) 0 0) [] (bs.drop k) A' n c' rfl rfl HDL.out (own_lit_of W w.heap.size 4 ([] : List Bool) HB.out.size (by simp)) (HRD.out _ (below_alloc (Below.refl _ _) _)) (Nat.le_trans HB.out.size (by simp)) HL.out ?_; intro v2 w2 hown hgrow hat; obtain ⟨A2, c2, hv2⟩ := own_slice hown; subst hv2; have HA := Aside0.mk (own_lit_of (enc := Value.bool) W w.heap.size 4 ([] : List Bool) HB.out.size (by simp)); have HG2 := Aside0.mk (Own.grown_blk HA.out hgrow (Own.below_blk HG.out (below_alloc (Below.refl _ _) _)) (by decide)); have HB2 := Aside0.mk ((HB.out.alloc HB.out.size (.cells #[] 4)).grown hgrow (Nat.le_trans HB.out.size (by simp)) (own_base HA.out)); have HF2 := Aside0.mk ((Own.Foot.below (g := g) (t := 4) (below_alloc (Below.refl _ _) (.cells #[] 4))).trans (Own.Foot.grown (g := g) HA.out hgrow)); have HO2 := Aside0.mk hown; have hc2 := cellRB HG2.out; have hf2 := blk_frozen HG2.out 0; clear hown hgrow hat HA hc hc0 hsl HG HB HDL HRD))
  go_ret
  exact ⟨rfl, rb_set HG2.out hg (by have := HO2.out; have e : (bs.drop k).length = bs.length - k := List.length_drop; rw [← e]; simpa only [List.length_append, List.nil_append, List.length_nil, Nat.zero_add] using this) HB2.out, HF2.out.trans (Own.Foot.set 0 _)⟩
end Go.Proofs.Ytanbckcknfoifaa.PAll
