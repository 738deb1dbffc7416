/- BitsOrder: the bits that are taken, in whatever pieces, are those of the bytes, each once, in order: the plain law. -/
import Derived.Test.YtanbckcknfoifaaWhole
namespace Go.Proofs.Ytanbckcknfoifaa.Pure
open Go.RowKit Go.Proofs.Ytanbckcknfoifaa.PAll Go.Proofs.YtanbckcknfoifaaW.PrintWords Go.Proofs.YtanbckcknfoifaaW.PrintLast Go.Proofs.YtanbckcknfoifaaW.PrintMore
set_option linter.unusedVariables false
/-- from some number of rounds on. -/
def Evt (g : Nat → Option Bool) : Prop := ∃ K, ∀ k, K ≤ k → g k = some true
theorem Evt.step {g h : Nat → Option Bool} (e : ∀ k, g (k + 1) = h k) (hh : Evt h) : Evt g := by
  obtain ⟨K, hK⟩ := hh
  refine ⟨K + 1, fun k hk => ?_⟩
  obtain ⟨j, rfl⟩ : ∃ j, k = j + 1 := ⟨k - 1, by omega⟩
  rw [e]; exact hK j (by omega)
theorem Evt.now {g : Nat → Option Bool} (e : ∀ k, g (k + 1) = some true) : Evt g := ⟨1, fun k hk => by
  obtain ⟨j, rfl⟩ : ∃ j, k = j + 1 := ⟨k - 1, by omega⟩
  exact e j⟩
def bitN (l : List Int) (t : Nat) : Nat := (l.getD (t / 8) 0).toNat / 2 ^ (t % 8) % 2
theorem valB_bit (l : List Int) (hb : Byts l) (t : Nat) (ht : t < 8 * l.length) : valB l / 2 ^ t % 2 = bitN l t := by
  have e1 : 2 ^ t = 2 ^ (8 * (t / 8)) * 2 ^ (t % 8) := by rw [← Nat.pow_add]; congr 1; omega
  rw [e1, ← Nat.div_div_eq_div_mul, valB_drop l hb _ (by omega)]
  have hm : t / 8 < l.length := by omega
  have e2 : l.getD (t / 8) 0 = l[t / 8] := by simp [List.getD, hm]
  unfold bitN
  rw [e2, List.drop_eq_getElem_cons hm]
  simp only [valB]
  generalize valB (l.drop (t / 8 + 1)) = R
  have hs : t % 8 < 8 := Nat.mod_lt _ (by omega)
  generalize t % 8 = s at hs
  have e3 : 256 * R = 2 ^ s * (2 * (2 ^ (7 - s) * R)) := by
    rw [← Nat.mul_assoc 2, ← Nat.mul_assoc (2 ^ s), ← Nat.mul_assoc (2 ^ s)]
    have : 2 ^ s * 2 * 2 ^ (7 - s) = 256 := by
      rw [← Nat.pow_succ, ← Nat.pow_add, show s + 1 + (7 - s) = 8 by omega]
    rw [this]
  rw [e3, Nat.add_mul_div_left _ _ (Nat.pow_pos (by omega)), Nat.add_mul_mod_self_left]
theorem take_bit (H n k : Nat) (hk : k < n) : H % 2 ^ n / 2 ^ k % 2 = H / 2 ^ k % 2 := by
  have h := Nat.testBit_mod_two_pow H n k
  rw [Nat.testBit_eq_decide_div_mod_eq, Nat.testBit_eq_decide_div_mod_eq] at h
  simp only [hk, decide_true, Bool.true_and, decide_eq_decide] at h
  have := Nat.mod_two_eq_zero_or_one (H % 2 ^ n / 2 ^ k)
  have := Nat.mod_two_eq_zero_or_one (H / 2 ^ k)
  omega
/-- what is held. -/
def hld (l : List Int) (j a : Nat) : Nat := valB (l.take j) / 2 ^ a
theorem valB_lt (l : List Int) (hb : Byts l) : valB l < 2 ^ (8 * l.length) := by
  induction l with
  | nil => simp [valB]
  | cons x l ih =>
    have hx := hb 0 (by simp)
    simp at hx
    have := ih (fun i hi => by have := hb (i + 1) (by simp; omega); simpa using this)
    have e : 2 ^ (8 * (l.length + 1)) = 256 * 2 ^ (8 * l.length) := by rw [Nat.mul_add, Nat.pow_add, Nat.mul_comm]
    simp only [valB, List.length_cons, e]; omega
theorem hld_lt (l : List Int) (hb : Byts l) (j a : Nat) (hj : j ≤ l.length) (ha : a ≤ 8 * j) : hld l j a < 2 ^ (8 * j - a) := by
  have := valB_lt (l.take j) (byts_take l hb j)
  rw [List.length_take, Nat.min_eq_left hj] at this
  exact lt_drop this ha
theorem hld_put (l : List Int) (j a : Nat) (hj : j < l.length) (ha : a ≤ 8 * j) : hld l j a + (l.getD j 0).toNat * 2 ^ (8 * j - a) = hld l (j + 1) a := by
  unfold hld
  rw [valB_take l j hj]
  have e : 2 ^ (8 * j) = 2 ^ a * 2 ^ (8 * j - a) := by rw [← Nat.pow_add]; congr 1; omega
  rw [e, Nat.mul_left_comm, Nat.add_mul_div_left _ _ (Nat.pow_pos (by omega))]
theorem hld_take (l : List Int) (j a n : Nat) : hld l j a / 2 ^ n = hld l j (a + n) := by
  unfold hld; rw [Nat.div_div_eq_div_mul, ← Nat.pow_add]
theorem hld_bit (l : List Int) (hb : Byts l) (j a n k : Nat) (hj : j ≤ l.length) (hn : a + n ≤ 8 * j) (hk : k < n) : hld l j a % 2 ^ n / 2 ^ k % 2 = bitN l (a + k) := by
  rw [take_bit _ _ _ hk]
  unfold hld
  rw [Nat.div_div_eq_div_mul, ← Nat.pow_add, valB_bit _ (byts_take l hb j) _ (by rw [List.length_take]; omega)]
  unfold bitN
  have : (l.take j).getD ((a + k) / 8) 0 = l.getD ((a + k) / 8) 0 := by simp [List.getD, show (a + k) / 8 < j by omega]
  rw [this]
theorem and1 (x : Nat) (h : x < 18446744073709551616) : Go.bits .and .u64 (x : Int) 1 = ((x % 2 : Nat) : Int) := by
  have e64 : (2 : Int) ^ 64 = 18446744073709551616 := by decide
  have := bits_mask .u64 64 (by decide) (fun n h0 h1 => w64 n h0 (by omega)) 1 (by omega) (x : Int) (by omega) (by omega)
  have e : (2 : Int) ^ 1 - 1 = 1 := by decide
  rw [e] at this
  rw [this]; omega
theorem shr64 (x k : Nat) (hk : k ≤ 64) : shr .u64 (x : Int) (k : Int) = ((x / 2 ^ k : Nat) : Int) := by
  unfold shr
  have e : min (k : Int).toNat IntKind.u64.bits = k := by show min (k : Int).toNat 64 = k; omega
  rw [e, Int.natCast_ediv, cast_pow]
theorem wr64 (n : Int) (h : -9223372036854775808 ≤ n) (h2 : n < 9223372036854775808) : wrap64 n = n := by unfold wrap64; omega
theorem rd_nat (l : List Int) (i : Nat) : rd l (i : Int) = l.getD i 0 := by simp [rd]
theorem bit_f (l : List Int) (hb : Byts l) (hl : l.length ≤ 140737488351232) (t : Nat) (ht : t < 8 * l.length) : winklelaw02_bit.f l (t : Int) = some ((bitN l t : Nat) : Int) := by
  have hm : t / 8 < l.length := by omega
  have hx := hb _ hm
  unfold winklelaw02_bit.f
  rw [Int.tdiv_eq_ediv_of_nonneg (by omega), Int.tmod_eq_emod_of_nonneg (by omega), show ((t : Int) / 8) = ((t / 8 : Nat) : Int) by omega, show ((t : Int) % 8) = ((t % 8 : Nat) : Int) by omega]
  rw [wr64 _ (by omega) (by omega), if_pos (by omega), if_pos (by omega), w64 ((t % 8 : Nat) : Int) (by omega) (by omega), if_pos (by omega), rd_nat, w64 _ hx.1 (by omega)]
  have e : l.getD (t / 8) 0 = (((l.getD (t / 8) 0).toNat : Nat) : Int) := by omega
  rw [e, shr64 _ _ (by omega), and1 _ (by
    have := Nat.div_le_self (l.getD (t / 8) 0).toNat (2 ^ (t % 8)); omega)]
  rfl
/-- the bits of one piece. -/
theorem bits_loop (l p : List Int) (hb : Byts l) (hl : l.length ≤ 140737488351232) (j a i n : Nat) (hj : j ≤ l.length) (hn : a + n ≤ 8 * j) (hn33 : n < 33) (X : Nat) (hX : X = hld l j a % 2 ^ n) (s0 s1 : Int) (d : Nat) : ∀ (k : Nat), k + d = n →
    Evt (fun r => winklelaw02_BitsOrder.l2 r l p (a : Int) (j : Int) (i : Int) (n : Int) (X : Int) (n : Int) s0 s1) →
    Evt (fun r => winklelaw02_BitsOrder.l2 r l p (a : Int) (j : Int) (i : Int) (n : Int) (X : Int) (k : Int) s0 s1) := by
  have hX32 : X < 18446744073709551616 := by
    have h1 : X < 2 ^ n := by rw [hX]; exact Nat.mod_lt _ (Nat.pow_pos (by omega))
    have h2 : (2 : Nat) ^ n ≤ 2 ^ 64 := Nat.pow_le_pow_right (by omega) (by omega)
    have e : (2 : Nat) ^ 64 = 18446744073709551616 := by decide
    omega
  induction d with
  | zero =>
    intro k hk h
    obtain rfl : k = n := by omega
    exact h
  | succ d ih =>
    intro k hk h
    refine Evt.step (h := fun r => winklelaw02_BitsOrder.l2 r l p (a : Int) (j : Int) (i : Int) (n : Int) (X : Int) ((k + 1 : Nat) : Int) s0 s1) (fun r => ?_) (ih (k + 1) (by omega) h)
    simp only [winklelaw02_BitsOrder.l2]
    have hq := Nat.div_le_self X (2 ^ k)
    rw [if_pos (by omega), w64 (k : Int) (by omega) (by omega), if_pos (by omega), wr64 ((a : Int) + (k : Int)) (by omega) (by omega), show ((a : Int) + (k : Int)) = ((a + k : Nat) : Int) by omega, bit_f l hb hl (a + k) (by omega)]
    simp only [Option.bind_some]
    rw [w64 (X : Int) (by omega) (by omega), shr64 _ _ (by omega), and1 _ (by omega), if_pos (by rw [hX, hld_bit l hb j a n k hj hn (by omega)]), wr64 _ (by omega) (by omega)]
    rfl
/-- behind the filling: what is taken. -/
def Taken (l p : List Int) (j a i n : Nat) : Prop := Evt (fun r => winklelaw02_BitsOrder.j3 (r + 1) l p (a : Int) (j : Int) (i : Int) (n : Int) false ((hld l j a : Nat) : Int) ((8 * j - a : Nat) : Int))
theorem fill_loop (l p : List Int) (hb : Byts l) (hl : l.length ≤ 140737488351232) (a i n : Nat) (hn : n < 33) (d : Nat) : ∀ (j : Nat), j + d = l.length → a ≤ 8 * j → 8 * j - a ≤ 40 →
    (∀ j', j ≤ j' → j' ≤ l.length → (j' = l.length ∨ n ≤ 8 * j' - a) → 8 * j' - a ≤ 40 → Taken l p j' a i n) →
    Evt (fun r => winklelaw02_BitsOrder.l1 r l p (a : Int) (j : Int) (i : Int) (n : Int) ((hld l j a : Nat) : Int) ((8 * j - a : Nat) : Int)) := by
  induction d with
  | zero =>
    intro j hj ha h40 h
    obtain ⟨K, hK⟩ := h j (Nat.le_refl _) (by omega) (.inl (by omega)) h40
    refine ⟨K + 2, fun k hk => ?_⟩
    obtain ⟨k, rfl⟩ : ∃ q, k = q + 2 := ⟨k - 2, by omega⟩
    simp only [winklelaw02_BitsOrder.l1]
    rw [if_neg (by omega)]
    exact hK k (by omega)
  | succ d ih =>
    intro j hj ha h40 h
    by_cases hc : 8 * j - a < n
    · have hx := hb j (by omega)
      refine Evt.step (g := fun r => winklelaw02_BitsOrder.l1 r l p (a : Int) (j : Int) (i : Int) (n : Int) ((hld l j a : Nat) : Int) ((8 * j - a : Nat) : Int)) (h := fun r => winklelaw02_BitsOrder.j3 r l p (a : Int) (j : Int) (i : Int) (n : Int) true ((hld l j a : Nat) : Int) ((8 * j - a : Nat) : Int)) (fun r => ?_) ?_
      · simp only [winklelaw02_BitsOrder.l1]
        rw [if_pos (by omega), held_f _ _ (by omega)]
        simp only [Option.bind_some]
        rw [decide_eq_true (by omega)]
      · refine Evt.step (h := fun r => winklelaw02_BitsOrder.l1 r l p (a : Int) ((j + 1 : Nat) : Int) (i : Int) (n : Int) ((hld l (j + 1) a : Nat) : Int) ((8 * (j + 1) - a : Nat) : Int)) (fun r => ?_) (ih (j + 1) (by omega) (by omega) (by omega) (fun j' h1 h2 h3 h4 => h j' (by omega) h2 h3 h4))
        simp only [winklelaw02_BitsOrder.j3, if_true]
        rw [if_pos (by omega), if_pos (by omega), rd_nat, put_f _ _ _ (hld_lt l hb j a (by omega) ha) (by omega) hx.1 hx.2]
        simp only [Option.bind_some, if_true]
        rw [wr64 _ (by omega) (by omega), hld_put l j a (by omega) ha, show 8 * j - a + 8 = 8 * (j + 1) - a by omega]
        rfl
    · obtain ⟨K, hK⟩ := h j (Nat.le_refl _) (by omega) (.inr (by omega)) h40
      refine ⟨K + 2, fun k hk => ?_⟩
      obtain ⟨k, rfl⟩ : ∃ q, k = q + 2 := ⟨k - 2, by omega⟩
      have e : winklelaw02_BitsOrder.l1 (k + 2) l p (a : Int) (j : Int) (i : Int) (n : Int) ((hld l j a : Nat) : Int) ((8 * j - a : Nat) : Int) = winklelaw02_BitsOrder.j3 (k + 1) l p (a : Int) (j : Int) (i : Int) (n : Int) false ((hld l j a : Nat) : Int) ((8 * j - a : Nat) : Int) := by
        rw [show k + 2 = k + 1 + 1 from rfl]
        unfold winklelaw02_BitsOrder.l1
        rw [if_pos (by omega), held_f _ _ (by omega)]
        simp only [Option.bind_some]
        rw [decide_eq_false (by omega)]
      exact e.trans (hK k (by omega))
theorem order_loop (l p : List Int) (hb : Byts l) (hp : Byts p) (hl : l.length ≤ 140737488351232) (hpl : p.length ≤ 140737488351232) (M : Nat) : ∀ (i a j : Nat), (8 * l.length - a) + (p.length + 8 * l.length + 1 - i) = M → a ≤ 8 * j → j ≤ l.length → 8 * j - a ≤ 40 → i ≤ p.length + 8 * l.length + 1 + a →
    Evt (fun r => winklelaw02_BitsOrder.l0 r l p (a : Int) (j : Int) (i : Int) ((hld l j a : Nat) : Int) ((8 * j - a : Nat) : Int)) := by
  induction M using Nat.strongRecOn with
  | _ M ih =>
  intro i a j hM ha hj h40 hi
  have body : 0 < p.length → Evt (fun r => winklelaw02_BitsOrder.j1 r l p (a : Int) (j : Int) (i : Int) true ((hld l j a : Nat) : Int) ((8 * j - a : Nat) : Int)) := by
    intro hp0
    have hq := hp (i % p.length) (Nat.mod_lt _ hp0)
    obtain ⟨n, hn, hn33⟩ : ∃ n : Nat, Int.tmod (p.getD (i % p.length) 0) 33 = (n : Int) ∧ n < 33 := ⟨(p.getD (i % p.length) 0 % 33).toNat, by rw [Int.tmod_eq_emod_of_nonneg hq.1]; omega, by omega⟩
    refine Evt.step (h := fun r => winklelaw02_BitsOrder.l1 r l p (a : Int) (j : Int) (i : Int) (n : Int) ((hld l j a : Nat) : Int) ((8 * j - a : Nat) : Int)) (fun r => ?_) (fill_loop l p hb hl a i n hn33 (l.length - j) j (by omega) ha h40 ?_)
    · simp only [winklelaw02_BitsOrder.j1, if_true]
      have hmod : (i : Int) % (p.length : Int) = ((i % p.length : Nat) : Int) := (Int.natCast_emod i p.length).symm
      have hlt : i % p.length < p.length := Nat.mod_lt _ hp0
      rw [if_neg (by omega), Int.tmod_eq_emod_of_nonneg (by omega), hmod, if_pos (by omega), if_pos (by omega), rd_nat, wr64 (p.getD (i % p.length) 0) (by omega) (by omega), hn]
    · intro j' h1 h2 h3 h4
      unfold Taken
      by_cases hok : n ≤ 8 * j' - a
      · have hnext : ∀ i' : Nat, i' = i + 1 → (n = 0 → i ≤ p.length + 8 * l.length) → Evt (fun r => winklelaw02_BitsOrder.l0 r l p ((a + n : Nat) : Int) (j' : Int) ((i + 1 : Nat) : Int) ((hld l j' (a + n) : Nat) : Int) ((8 * j' - (a + n) : Nat) : Int)) := fun i' _ h0 =>
          ih (8 * l.length - (a + n) + (p.length + 8 * l.length + 1 - (i + 1))) (by rcases Nat.eq_zero_or_pos n with hz | hz <;> omega) (i + 1) (a + n) j' rfl (by omega) h2 (by omega) (by rcases Nat.eq_zero_or_pos n with hz | hz <;> omega)
        have hend : Evt (fun r => winklelaw02_BitsOrder.l2 r l p (a : Int) (j' : Int) (i : Int) (n : Int) ((hld l j' a % 2 ^ n : Nat) : Int) (n : Int) ((hld l j' a / 2 ^ n : Nat) : Int) ((8 * j' - a - n : Nat) : Int)) := by
          by_cases hz : n = 0 ∧ p.length + 8 * l.length < i
          · obtain ⟨rfl, hz2⟩ := hz
            refine Evt.now (fun r => ?_)
            simp only [winklelaw02_BitsOrder.l2]
            rw [if_neg (by omega), if_pos (by omega), wr64 (8 * (l.length : Int)) (by omega) (by omega), wr64 _ (by omega) (by omega), if_pos (by omega)]
          · refine Evt.step (fun r => ?_) (hnext (i + 1) rfl (fun hz2 => by omega))
            simp only [winklelaw02_BitsOrder.l2]
            rw [if_neg (by omega), hld_take, wr64 (8 * (l.length : Int)) (by omega) (by omega), wr64 ((p.length : Int) + 8 * (l.length : Int)) (by omega) (by omega), wr64 ((a : Int) + (n : Int)) (by omega) (by omega), wr64 ((i : Int) + 1) (by omega) (by omega), show 8 * j' - a - n = 8 * j' - (a + n) by omega]
            by_cases hz2 : n = 0
            · rw [if_pos (by omega), if_neg (by omega)]; rfl
            · rw [if_neg (by omega)]; rfl
        obtain ⟨K, hK⟩ := bits_loop l p hb hl j' a i n h2 (by omega) hn33 _ rfl _ _ n 0 (by omega) hend
        refine ⟨K, fun k hk => ?_⟩
        simp only [winklelaw02_BitsOrder.j3, Bool.false_eq_true, if_false]
        rw [take_f _ _ n (hld_lt l hb j' a h2 (by omega)) (by omega) hok (by omega)]
        simp only [Option.bind_some, if_true]
        exact hK k hk
      · have hj' : j' = l.length := by omega
        refine ⟨0, fun k hk => ?_⟩
        simp only [winklelaw02_BitsOrder.j3, Bool.false_eq_true, if_false]
        rw [take_no _ _ _ (.inr (.inr (by omega)))]
        simp only [Option.bind_some, Bool.false_eq_true, if_false]
        rw [if_pos (by omega), wr64 (8 * (l.length : Int)) (by omega) (by omega), wr64 _ (by omega) (by omega), if_pos (by omega)]
        simp only [if_true]
        rw [held_f _ _ (by omega)]
        simp only [Option.bind_some]
        congr 1
        rw [beq_iff_eq]
        omega
  have done : ∀ {g : Nat → Option Bool}, (∀ r, g (r + 1) = winklelaw02_BitsOrder.j1 r l p (a : Int) (j : Int) (i : Int) false ((hld l j a : Nat) : Int) ((8 * j - a : Nat) : Int)) → Evt g := fun e => by
    refine Evt.step e (Evt.now (fun r => ?_))
    simp only [winklelaw02_BitsOrder.j1, Bool.false_eq_true, if_false]
    rw [put_f _ _ _ (hld_lt l hb j a hj ha) (by omega) (by omega) (by omega)]
    rfl
  by_cases c1 : i < p.length
  · refine Evt.step (fun r => ?_) (body (by omega))
    simp only [winklelaw02_BitsOrder.l0]
    rw [if_pos (by omega)]
  · by_cases c2 : j < l.length
    · by_cases c3 : 0 < p.length
      · refine Evt.step (fun r => ?_) (body c3)
        simp only [winklelaw02_BitsOrder.l0]
        rw [if_neg (by omega), if_pos (by omega), decide_eq_true (by omega)]
      · refine done (fun r => ?_)
        simp only [winklelaw02_BitsOrder.l0]
        rw [if_neg (by omega), if_pos (by omega), decide_eq_false (by omega)]
    · refine done (fun r => ?_)
      simp only [winklelaw02_BitsOrder.l0]
      rw [if_neg (by omega), if_neg (by omega)]
theorem BitsOrder : winklelaw02_BitsOrder.Pure := by
  intro l p hlm hl hw hpm hpl hwp
  obtain ⟨K, hK⟩ := order_loop l p (byts_of l hw) (byts_of p hwp) (by omega) (by omega) _ 0 0 0 rfl (by omega) (by omega) (by omega) (by omega)
  refine ⟨K, ?_⟩
  have := hK K (Nat.le_refl _)
  simp [hld, valB] at this
  simpa [winklelaw02_BitsOrder.f, bits_New.f] using this
end Go.Proofs.Ytanbckcknfoifaa.Pure
