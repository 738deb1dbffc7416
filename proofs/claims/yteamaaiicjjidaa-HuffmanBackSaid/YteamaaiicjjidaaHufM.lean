/- Plain: prefix codes by their lengths: how many there are of a length, the first of each, that none begins another; no walk. -/
namespace Go.Proofs.Yteamaaiicjjidaa.Huf
set_option linter.unusedVariables false
set_option linter.unusedSimpArgs false
def isn (n : Nat) (x : Int) : Bool := decide (0 < x) && decide (x = (n : Int))
/-- how many lengths are n (n above 0). -/
def ct (l : List Int) (n : Nat) : Nat := l.countP (isn n)
/-- the first code of a length. -/
def fs (l : List Int) : Nat → Nat
  | 0 => 0
  | n + 1 => 2 * (fs l n + ct l n)
def kr : List Int → Nat
  | [] => 0
  | x :: l => (if 0 < x then 2 ^ (15 - x.toNat) else 0) + kr l
def Ok (l : List Int) : Prop := ∀ x ∈ l, 0 ≤ x ∧ x ≤ 15
def ln (l : List Int) (s : Nat) : Nat := (l.getD s 0).toNat
/-- a symbol's code. -/
def cd (l : List Int) (s : Nat) : Nat := fs l (ln l s) + ct (l.take s) (ln l s)
theorem ct_nil (n : Nat) : ct [] n = 0 := rfl
theorem ct_cons (x : Int) (l : List Int) (n : Nat) : ct (x :: l) n = ct l n + if 0 < x ∧ x = (n : Int) then 1 else 0 := by
  unfold ct; rw [List.countP_cons]; congr 1; unfold isn
  by_cases h : 0 < x ∧ x = (n : Int)
  · rw [if_pos h, if_pos]; simp [h.1, h.2]; have := h.1; have := h.2; omega
  · rw [if_neg h, if_neg]; simpa using h
theorem ct_append (l m : List Int) (n : Nat) : ct (l ++ m) n = ct l n + ct m n := List.countP_append
theorem ct_snoc (l : List Int) (x : Int) (n : Nat) : ct (l ++ [x]) n = ct l n + if 0 < x ∧ x = (n : Int) then 1 else 0 := by
  rw [ct_append, ct_cons, ct_nil, Nat.zero_add]
theorem ct_zero (l : List Int) : ct l 0 = 0 := by
  induction l with
  | nil => rfl
  | cons x l ih => rw [ct_cons, ih, if_neg (by omega)]
theorem ct_le (l : List Int) (n : Nat) : ct l n ≤ l.length := List.countP_le_length
theorem ct_take_le (l : List Int) (s n : Nat) : ct (l.take s) n ≤ ct l n := by
  conv => rhs; rw [← List.take_append_drop s l]
  rw [ct_append]; omega
theorem ct_take_succ (l : List Int) (s n : Nat) (h : s < l.length) : ct (l.take (s + 1)) n = ct (l.take s) n + if 0 < l[s] ∧ l[s] = (n : Int) then 1 else 0 := by
  rw [List.take_succ_eq_append_getElem h, ct_snoc]
theorem ct_take_mono (l : List Int) (s t n : Nat) (h : s ≤ t) : ct (l.take s) n ≤ ct (l.take t) n := by
  have : l.take s = (l.take t).take s := by rw [List.take_take, Nat.min_eq_left h]
  rw [this]; exact ct_take_le _ _ _
theorem ln_of {l : List Int} {s : Nat} (h : s < l.length) : ln l s = (l[s]).toNat := by unfold ln; simp [List.getD, h]
/-- the sum of the lengths up to n. -/
def sm (l : List Int) : Nat → Nat
  | 0 => 0
  | n + 1 => sm l n + ct l (n + 1) * 2 ^ (15 - (n + 1))
theorem fs_sum (l : List Int) : ∀ n, n ≤ 15 → (fs l n + ct l n) * 2 ^ (15 - n) = sm l n
  | 0, _ => by rw [ct_zero]; simp [fs, sm]
  | n + 1, h => by
    have ih := fs_sum l n (by omega)
    have e : 2 ^ (15 - n) = 2 * 2 ^ (15 - (n + 1)) := by rw [← Nat.pow_succ']; congr 1; omega
    rw [e] at ih
    show (2 * (fs l n + ct l n) + ct l (n + 1)) * 2 ^ (15 - (n + 1)) = sm l n + _
    rw [Nat.add_mul, ← ih]
    congr 1
    generalize 2 ^ (15 - (n + 1)) = P
    rw [Nat.mul_comm 2, Nat.mul_assoc]
theorem sm_nil : ∀ n, sm [] n = 0
  | 0 => rfl
  | n + 1 => by show sm [] n + _ = 0; rw [sm_nil n, ct_nil]; simp
theorem sm_cons (x : Int) (l : List Int) : ∀ n, sm (x :: l) n = (if 0 < x ∧ x ≤ (n : Int) then 2 ^ (15 - x.toNat) else 0) + sm l n
  | 0 => by show 0 = _ + 0; rw [if_neg (by omega)]
  | n + 1 => by
    show sm (x :: l) n + ct (x :: l) (n + 1) * _ = _ + (sm l n + _)
    rw [sm_cons x l n, ct_cons, Nat.add_mul]
    by_cases h : 0 < x ∧ x ≤ (n : Int)
    · rw [if_pos h, if_neg (by omega), if_pos (by omega)]; omega
    · rw [if_neg h]
      by_cases h2 : 0 < x ∧ x = ((n + 1 : Nat) : Int)
      · rw [if_pos h2, if_pos (by omega), show x.toNat = n + 1 by omega]; omega
      · rw [if_neg h2, if_neg (by omega)]; omega
theorem sm_kr {l : List Int} (h : Ok l) : sm l 15 = kr l := by
  induction l with
  | nil => exact sm_nil 15
  | cons x l ih =>
    rw [sm_cons, ih (fun y hy => h y (List.mem_cons_of_mem _ hy))]
    have := h x (List.mem_cons_self ..)
    show _ = (if 0 < x then _ else _) + kr l
    by_cases h0 : 0 < x
    · rw [if_pos h0, if_pos ⟨h0, by omega⟩]
    · rw [if_neg h0, if_neg (by omega)]
theorem sm_mono (l : List Int) (n d : Nat) : sm l n ≤ sm l (n + d) := by
  induction d with
  | zero => exact Nat.le_refl _
  | succ d ih => exact Nat.le_trans ih (Nat.le_add_right _ _)
theorem pow15 (n : Nat) (h : n ≤ 15) : 2 ^ n * 2 ^ (15 - n) = 32768 := by
  rw [← Nat.pow_add, show n + (15 - n) = 15 by omega]
/-- no length has more codes than there is room for. -/
theorem fits {l : List Int} (h : Ok l) (hk : kr l ≤ 32768) (n : Nat) (hn : n ≤ 15) : fs l n + ct l n ≤ 2 ^ n := by
  have h1 := fs_sum l n hn
  have h2 := sm_mono l n (15 - n)
  rw [show n + (15 - n) = 15 by omega, sm_kr h] at h2
  have h3 := pow15 n hn
  have hp : 0 < 2 ^ (15 - n) := Nat.pow_pos (by omega)
  exact Nat.le_of_mul_le_mul_right (by rw [h1, h3]; omega) hp
theorem full {l : List Int} (h : Ok l) (hk : kr l = 32768) : fs l 15 + ct l 15 = 32768 := by
  have h1 := fs_sum l 15 (Nat.le_refl _)
  rw [sm_kr h, hk] at h1
  simpa using h1
theorem later (l : List Int) (n : Nat) : ∀ d, 2 ^ (d + 1) * (fs l n + ct l n) ≤ fs l (n + d + 1)
  | 0 => by show _ ≤ 2 * _; simp
  | d + 1 => by
    have ih := later l n d
    show _ ≤ 2 * (fs l (n + d + 1) + _)
    have : 2 ^ (d + 1 + 1) * (fs l n + ct l n) = 2 * (2 ^ (d + 1) * (fs l n + ct l n)) := by rw [Nat.pow_succ 2 (d + 1), Nat.mul_comm (2 ^ (d + 1)), Nat.mul_assoc]
    rw [this]
    exact Nat.mul_le_mul_left _ (Nat.le_trans ih (Nat.le_add_right _ _))
theorem cd_ge (l : List Int) (s : Nat) : fs l (ln l s) ≤ cd l s := Nat.le_add_right _ _
theorem cd_lt {l : List Int} {s : Nat} (h : s < l.length) (h0 : 0 < l[s]) : cd l s < fs l (ln l s) + ct l (ln l s) := by
  unfold cd
  have h1 := ct_take_succ l s (ln l s) h
  have e := ln_of h
  rw [if_pos ⟨h0, by rw [e]; omega⟩] at h1
  have := ct_take_le l (s + 1) (ln l s)
  omega
theorem ct_find (l : List Int) (n : Nat) : ∀ j, j < ct l n → ∃ s, ∃ h : s < l.length, l[s] = (n : Int) ∧ 0 < l[s] ∧ ct (l.take s) n = j := by
  induction l with
  | nil => intro j hj; rw [ct_nil] at hj; omega
  | cons x l ih =>
    intro j hj
    rw [ct_cons] at hj
    by_cases hx : 0 < x ∧ x = (n : Int)
    · rw [if_pos hx] at hj
      cases j with
      | zero => exact ⟨0, by simp, hx.2, hx.1, rfl⟩
      | succ j =>
        obtain ⟨s, h, h1, h2, h3⟩ := ih j (by omega)
        exact ⟨s + 1, by simpa using h, by simpa using h1, by simpa using h2, by rw [List.take_succ_cons, ct_cons, if_pos hx, h3]⟩
    · rw [if_neg hx] at hj
      obtain ⟨s, h, h1, h2, h3⟩ := ih j (by omega)
      exact ⟨s + 1, by simpa using h, by simpa using h1, by simpa using h2, by rw [List.take_succ_cons, ct_cons, if_neg hx, h3, Nat.add_zero]⟩
/-- every number of a length's run is a symbol's code. -/
theorem find {l : List Int} {n x : Nat} (h1 : fs l n ≤ x) (h2 : x < fs l n + ct l n) : ∃ s, ∃ h : s < l.length, l[s] = (n : Int) ∧ 0 < l[s] ∧ ln l s = n ∧ cd l s = x := by
  obtain ⟨s, h, e1, e2, e3⟩ := ct_find l n (x - fs l n) (by omega)
  have hl : ln l s = n := by rw [ln_of h, e1]; simp
  exact ⟨s, h, e1, e2, hl, by unfold cd; rw [hl, e3]; omega⟩
theorem cd_inj {l : List Int} {s t : Nat} (hs : s < l.length) (ht : t < l.length) (h0 : 0 < l[s]) (ht0 : 0 < l[t]) (hn : ln l s = ln l t) (hc : cd l s = cd l t) : s = t := by
  unfold cd at hc
  rw [hn] at hc
  have es := ln_of hs
  have et := ln_of ht
  rcases Nat.lt_trichotomy s t with h | h | h
  · have h1 := ct_take_succ l s (ln l t) hs
    rw [if_pos ⟨h0, by omega⟩] at h1
    have := ct_take_mono l (s + 1) t (ln l t) h
    omega
  · exact h
  · have h1 := ct_take_succ l t (ln l t) ht
    rw [if_pos ⟨ht0, by omega⟩] at h1
    have := ct_take_mono l (t + 1) s (ln l t) h
    omega
/-- no code begins a longer one. -/
theorem no_prefix {l : List Int} {s t : Nat} (hs : s < l.length) (h0 : 0 < l[s]) (hlt : ln l s < ln l t) : cd l s < cd l t / 2 ^ (ln l t - ln l s) := by
  have h1 := cd_lt hs h0
  have h2 := later l (ln l s) (ln l t - ln l s - 1)
  rw [show ln l s + (ln l t - ln l s - 1) + 1 = ln l t by omega, show ln l t - ln l s - 1 + 1 = ln l t - ln l s by omega] at h2
  have h3 := cd_ge l t
  have hp : 0 < 2 ^ (ln l t - ln l s) := Nat.pow_pos (by omega)
  refine Nat.lt_of_lt_of_le h1 ((Nat.le_div_iff_mul_le hp).2 ?_)
  rw [Nat.mul_comm]; omega
theorem cd_bound {l : List Int} (h : Ok l) (hk : kr l ≤ 32768) {s : Nat} (hs : s < l.length) (h0 : 0 < l[s]) : ln l s ≤ 15 ∧ cd l s < 2 ^ ln l s := by
  have e := ln_of hs
  have h2 := h l[s] (List.getElem_mem hs)
  have h3 : ln l s ≤ 15 := by omega
  exact ⟨h3, Nat.lt_of_lt_of_le (cd_lt hs h0) (fits h hk _ h3)⟩
/-- bits as a number, the first one the highest. -/
def bn (l : List Bool) : Nat := l.foldl (fun a b => 2 * a + b.toNat) 0
theorem bn_snoc (l : List Bool) (b : Bool) : bn (l ++ [b]) = 2 * bn l + b.toNat := by simp [bn]
theorem bn_lt : ∀ (l : List Bool), bn l < 2 ^ l.length := by
  intro l
  rw [← List.reverse_reverse l]
  induction l.reverse with
  | nil => decide
  | cons b l ih =>
    rw [List.reverse_cons, bn_snoc, List.length_append, List.length_singleton, Nat.pow_succ]
    have : b.toNat ≤ 1 := Bool.toNat_le b
    omega
theorem bn_append (l m : List Bool) : bn (l ++ m) = bn l * 2 ^ m.length + bn m := by
  rw [← List.reverse_reverse m]
  induction m.reverse with
  | nil => simp [bn]
  | cons b m ih =>
    rw [List.reverse_cons, ← List.append_assoc, bn_snoc, ih, bn_snoc, List.length_append, List.length_singleton, Nat.pow_succ, Nat.mul_add, ← Nat.mul_assoc, Nat.mul_comm 2 (bn l), Nat.mul_assoc (bn l), Nat.mul_comm 2 (2 ^ _), Nat.add_assoc]
theorem bn_take (l : List Bool) (k : Nat) (h : k ≤ l.length) : bn (l.take k) = bn l / 2 ^ (l.length - k) := by
  conv => rhs; rw [← List.take_append_drop k l]
  rw [bn_append]
  have := bn_lt (l.drop k)
  rw [List.length_drop] at this ⊢
  have hl : (List.take k l ++ List.drop k l).length = l.length := by rw [List.take_append_drop]
  rw [hl, Nat.add_comm, Nat.add_mul_div_right _ _ (Nat.pow_pos (by omega)), Nat.div_eq_of_lt this, Nat.zero_add]
theorem bn_inj : ∀ {l m : List Bool}, l.length = m.length → bn l = bn m → l = m := by
  intro l m
  rw [← List.reverse_reverse l, ← List.reverse_reverse m]
  generalize l.reverse = a
  generalize m.reverse = b
  induction a generalizing b with
  | nil => intro h _; cases b with
    | nil => rfl
    | cons y b => simp at h
  | cons x a ih =>
    intro h e
    cases b with
    | nil => simp at h
    | cons y b =>
      rw [List.reverse_cons, List.reverse_cons, bn_snoc, bn_snoc] at e
      have h1 : a.reverse.length = b.reverse.length := by simpa using h
      have h2 : x = y ∧ bn a.reverse = bn b.reverse := by cases x <;> cases y <;> simp at e ⊢ <;> omega
      rw [List.reverse_cons, List.reverse_cons, ih b h1 h2.2, h2.1]
/-- a number's bits, the highest first. -/
def bts : Nat → Nat → List Bool
  | 0, _ => []
  | k + 1, x => bts k (x / 2) ++ [x % 2 == 1]
theorem bts_len : ∀ k x, (bts k x).length = k
  | 0, _ => rfl
  | k + 1, x => by simp [bts, bts_len k]
theorem bn_bts : ∀ k x, bn (bts k x) = x % 2 ^ k
  | 0, x => by simp [bts, bn, Nat.mod_one]
  | k + 1, x => by
    rw [bts, bn_snoc, bn_bts k, Nat.pow_succ, Nat.mul_comm (2 ^ k) 2, Nat.mod_mul]
    have : (x % 2 == 1).toNat = x % 2 := by rcases Nat.mod_two_eq_zero_or_one x with h | h <;> rw [h] <;> rfl
    omega
/-- the bits of a symbol's code. -/
def code (l : List Int) (s : Nat) : List Bool := if 0 < l.getD s 0 then bts (ln l s) (cd l s) else []
theorem code_pos {l : List Int} {s : Nat} (h : s < l.length) (h0 : 0 < l[s]) : code l s = bts (ln l s) (cd l s) := by
  unfold code; rw [if_pos (by simpa [List.getD, h] using h0)]
theorem code_no {l : List Int} {s : Nat} (h : ¬ 0 < l.getD s 0) : code l s = [] := by unfold code; rw [if_neg h]
theorem code_len {l : List Int} {s : Nat} (h : s < l.length) (h0 : 0 < l[s]) : (code l s).length = ln l s := by rw [code_pos h h0, bts_len]
theorem code_bn {l : List Int} (h : Ok l) (hk : kr l ≤ 32768) {s : Nat} (hs : s < l.length) (h0 : 0 < l[s]) : bn (code l s) = cd l s := by
  rw [code_pos hs h0, bn_bts, Nat.mod_eq_of_lt (cd_bound h hk hs h0).2]
/-- which symbol's code stands at the beginning. -/
theorem hit_iff {l : List Int} (h : Ok l) (hk : kr l ≤ 32768) (held : List Bool) {s : Nat} (hs : s < l.length) (h0 : 0 < l[s]) :
    code l s <+: held ↔ ln l s ≤ held.length ∧ bn (held.take (ln l s)) = cd l s := by
  rw [List.prefix_iff_eq_take, code_len hs h0]
  constructor
  · intro e
    have hl : (code l s).length = min (ln l s) held.length := by rw [e, List.length_take]
    rw [code_len hs h0] at hl
    exact ⟨by omega, by rw [← e, code_bn h hk hs h0]⟩
  · intro ⟨h1, h2⟩
    exact bn_inj (by rw [code_len hs h0, List.length_take]; omega) (by rw [code_bn h hk hs h0, h2])
/-- .. and which one's goes on from all of them. -/
theorem more_iff {l : List Int} (h : Ok l) (hk : kr l ≤ 32768) (held : List Bool) {s : Nat} (hs : s < l.length) (h0 : 0 < l[s]) :
    held <+: code l s ↔ held.length ≤ ln l s ∧ cd l s / 2 ^ (ln l s - held.length) = bn held := by
  rw [List.prefix_iff_eq_take]
  have hb := code_bn h hk hs h0
  have hl := code_len hs h0
  constructor
  · intro e
    have h1 : held.length = min held.length (code l s).length := by rw [← List.length_take, ← e]
    refine ⟨by omega, ?_⟩
    have := bn_take (code l s) held.length (by omega)
    rw [← e, hb, hl] at this
    exact this.symm
  · intro ⟨h1, h2⟩
    refine bn_inj (by rw [List.length_take]; omega) ?_
    rw [bn_take _ _ (by omega), hb, hl, h2]
/-- two codes at the beginning of the same bits are one symbol's. -/
theorem one_hit {l : List Int} (h : Ok l) (hk : kr l ≤ 32768) {a b : List Bool} {s t : Nat} (hs : s < l.length) (ht : t < l.length) (h0 : 0 < l[s]) (ht0 : 0 < l[t])
    (hp : code l s <+: code l t) : s = t := by
  have hb := code_bn h hk ht ht0
  have hl := code_len ht ht0
  obtain ⟨h1, h2⟩ := (hit_iff h hk (code l t) hs h0).1 hp
  rw [bn_take _ _ h1, hb, hl] at h2
  rw [hl] at h1
  rcases Nat.lt_or_eq_of_le h1 with h3 | h3
  · have := no_prefix hs h0 h3
    omega
  · rw [h3] at h2
    simp at h2
    exact cd_inj hs ht h0 ht0 h3 h2.symm
theorem hit_one {l : List Int} (h : Ok l) (hk : kr l ≤ 32768) {held : List Bool} {s t : Nat} (hs : s < l.length) (ht : t < l.length) (h0 : 0 < l[s]) (ht0 : 0 < l[t])
    (h1 : code l s <+: held) (h2 : code l t <+: held) : s = t := by
  rcases Nat.le_total (code l s).length (code l t).length with hle | hle
  · exact one_hit h hk hs ht h0 ht0 (List.prefix_of_prefix_length_le h1 h2 hle) (a := []) (b := [])
  · exact (one_hit h hk ht hs ht0 h0 (List.prefix_of_prefix_length_le h2 h1 hle) (a := []) (b := [])).symm
/-- out of full lengths' codes every run of 15 bits begins with one. -/
theorem full_hit {l : List Int} (h : Ok l) (hk : kr l = 32768) (held : List Bool) (hh : 15 ≤ held.length) : ∃ s, ∃ hs : s < l.length, 0 < l[s] ∧ code l s <+: held := by
  have hf := full h hk
  -- the least length whose run ends behind the bits
  have key : ∀ d n, n + d = 15 → bn (held.take n) ≥ fs l n → ∃ m, n ≤ m ∧ m ≤ 15 ∧ fs l m ≤ bn (held.take m) ∧ bn (held.take m) < fs l m + ct l m := by
    intro d
    induction d with
    | zero =>
      intro n hn hge
      obtain rfl : n = 15 := by omega
      refine ⟨15, Nat.le_refl _, Nat.le_refl _, hge, ?_⟩
      rw [hf]
      have := bn_lt (held.take 15)
      rw [List.length_take, Nat.min_eq_left hh] at this
      simpa using this
    | succ d ih =>
      intro n hn hge
      by_cases hlt : bn (held.take n) < fs l n + ct l n
      · exact ⟨n, Nat.le_refl _, by omega, hge, hlt⟩
      · obtain ⟨m, h1, h2, h3, h4⟩ := ih (n + 1) (by omega) (by
          have e : held.take (n + 1) = held.take n ++ [held[n]'(by omega)] := List.take_succ_eq_append_getElem (by omega)
          rw [e, bn_snoc]; show _ ≥ 2 * (fs l n + ct l n); omega)
        exact ⟨m, by omega, h2, h3, h4⟩
  obtain ⟨m, _, h2, h3, h4⟩ := key 15 0 rfl (Nat.zero_le _)
  obtain ⟨s, hs, e1, e2, e3, e4⟩ := find h3 h4
  exact ⟨s, hs, e2, (hit_iff h (by omega) held hs e2).2 ⟨by omega, by rw [e3, e4]⟩⟩
end Go.Proofs.Yteamaaiicjjidaa.Huf
