import Derived.Test.YtgapacibhagicaaSixWr
import Derived.Test.YtgapacibhagicaaPAllx6
namespace Go.Proofs.Ytgapacibhagicaa.Six
open Go.RowKit Go.Proofs.Ytgapacibhagicaa.PAll Go.Proofs.YtgapacibhagicaaW.PrintWords Go.Proofs.YtgapacibhagicaaW.PrintLast Go.Proofs.YtgapacibhagicaaW.PrintMore
set_option linter.unusedVariables false
theorem l1_in (k : Nat) (L : List Int) (line : Int) (out : List Int) (i j : Nat) (v m y : Int) (hj : j < 3) (h : i + j < L.length) (hLn : L.length ≤ 1048576) (hy : rd L ((i + j : Nat) : Int) = y) (h0 : 0 ≤ y ∧ y ≤ 255) (v0 : 0 ≤ v) (v1 : v < 65536) (m0 : 0 ≤ m) (m1 : m < 3) :
    winkleref10_Write.l1 (k + 1) L line out (i : Int) v m (j : Int) = winkleref10_Write.l1 k L line out (i : Int) (v * 256 + y) (m + 1) ((j + 1 : Nat) : Int) := by
  simp only [winkleref10_Write.l1]
  have e : wrap64 ((i : Int) + j) = ((i + j : Nat) : Int) := by rw [w64 _ (by omega) (by omega)]; omega
  rw [e, hy, if_pos (by omega), if_pos (by omega), if_pos (by omega), w64 (v * 256) (by omega) (by omega), w64 y (by omega) (by omega), w64 (v * 256 + y) (by omega) (by omega), w64 (m + 1) (by omega) (by omega), w64 ((j : Int) + 1) (by omega) (by omega)]
  rfl
theorem l1_out (k : Nat) (L : List Int) (line : Int) (out : List Int) (i j : Nat) (v m : Int) (hj : j < 3) (h : L.length ≤ i + j) (hi : i ≤ 1048576) (v0 : 0 ≤ v) (v1 : v < 65536) :
    winkleref10_Write.l1 (k + 1) L line out (i : Int) v m (j : Int) = winkleref10_Write.l1 k L line out (i : Int) (v * 256) m ((j + 1 : Nat) : Int) := by
  simp only [winkleref10_Write.l1]
  have e : wrap64 ((i : Int) + j) = ((i + j : Nat) : Int) := by rw [w64 _ (by omega) (by omega)]; omega
  rw [e, if_pos (by omega), if_neg (by omega), w64 (v * 256) (by omega) (by omega), w64 ((j : Int) + 1) (by omega) (by omega)]
  rfl
theorem l1_done (k : Nat) (L : List Int) (line : Int) (out : List Int) (i : Nat) (v m : Int) :
    winkleref10_Write.l1 (k + 1) L line out (i : Int) v m ((2 + 1 : Nat) : Int) = winkleref10_Write.l2 k L line out (i : Int) v m ((0 : Nat) : Int) := by
  simp only [winkleref10_Write.l1]
  rw [if_neg (by omega)]
  rfl
theorem l2_pad (k : Nat) (L : List Int) (line : Int) (out : List Int) (i j : Nat) (v m : Int) (hj : j < 4) (h : m < j) (ho : out.length < 140737488355328) :
    winkleref10_Write.l2 (k + 1) L line out (i : Int) v m (j : Int) = winkleref10_Write.l2 k L line (out ++ [61]) (i : Int) v m ((j + 1 : Nat) : Int) := by
  simp only [winkleref10_Write.l2]
  rw [if_pos (by omega), if_pos (by omega), if_pos ho, w64 ((j : Int) + 1) (by omega) (by omega)]
  rfl
theorem l2_let (k : Nat) (L : List Int) (line : Int) (out : List Int) (i j : Nat) (v m x : Int) (hj : j < 4) (h : (j : Int) ≤ m) (ho : out.length < 140737488355328) (v0 : 0 ≤ v) (hx : v / 2 ^ (18 - 6 * (j : Int)).toNat % 64 = x % 64) :
    winkleref10_Write.l2 (k + 1) L line out (i : Int) v m (j : Int) = winkleref10_Write.l2 k L line (out ++ [lt x]) (i : Int) v m ((j + 1 : Nat) : Int) := by
  simp only [winkleref10_Write.l2]
  have e1 : wrap64 (18 - wrap64 (6 * (j : Int))) = 18 - 6 * (j : Int) := by rw [w64 (6 * (j : Int)) (by omega) (by omega), w64 _ (by omega) (by omega)]
  have e2 : IntKind.u64.wrap (18 - 6 * (j : Int)) = 18 - 6 * (j : Int) := by rw [wu64]; omega
  have e3 : shr .i64 v (18 - 6 * (j : Int)) = v / 2 ^ (18 - 6 * (j : Int)).toNat := (shr_small (k := .i64) rfl (show 18 - 6 * (j : Int) ≤ ((64 : Nat) : Int) by omega)).symm
  have h0 : 0 ≤ v / 2 ^ (18 - 6 * (j : Int)).toNat := Int.ediv_nonneg v0 (Int.le_of_lt (Int.pow_pos (by decide)))
  rw [e1, e2, e3, Int.tmod_eq_emod_of_nonneg h0, hx]
  rw [if_pos (by omega), if_neg (by omega), if_pos (by omega), if_pos (by omega), if_pos (by omega), if_pos ho, w64 ((j : Int) + 1) (by omega) (by omega)]
  rfl
theorem l2_done (k : Nat) (L : List Int) (line : Int) (out : List Int) (i : Nat) (v m : Int) (hi : i ≤ 1048576) :
    winkleref10_Write.l2 (k + 1) L line out (i : Int) v m ((3 + 1 : Nat) : Int) = winkleref10_Write.l0 k L line out ((i + 3 : Nat) : Int) := by
  simp only [winkleref10_Write.l2]
  rw [if_neg (by omega), w64 ((i : Int) + 3) (by omega) (by omega)]
  rfl
def fin (k : Nat) (line : Int) (T : List Int) : Option (List Int) := if line ≤ 0 then some T else winkleref10_Write.l3 k line T [] 0
theorem rd_drop (L : List Int) (i j : Nat) (y : Int) (r : List Int) (h : L.drop (i + j) = y :: r) : rd L ((i + j : Nat) : Int) = y ∧ i + j < L.length := by
  have hl : i + j < L.length := by
    rcases Nat.lt_or_ge (i + j) L.length with h1 | h1
    · exact h1
    · rw [List.drop_eq_nil_of_le h1] at h; cases h
  rw [List.drop_eq_getElem_cons hl] at h
  exact ⟨by
    have := (List.cons.inj h).1
    show L.getD (((i + j : Nat) : Int)).toNat 0 = y
    rw [Int.toNat_natCast]; simp [hl, this], hl⟩
theorem drop_next (L : List Int) (i : Nat) (y : Int) (r : List Int) (h : L.drop i = y :: r) : L.drop (i + 1) = r := by
  rw [← List.drop_drop, h]; rfl
theorem ref_lets (L : List Int) (hL : Bytes L) (hLn : L.length ≤ 1048576) (line : Int) (K : Nat) (R : List Int) (rest : List Int) : ∀ (k i : Nat) (out : List Int), L.drop i = rest → i ≤ L.length + 2 → out.length ≤ 4 * i → 11 * rest.length + K + 1 ≤ k → (∀ k', K ≤ k' → fin k' line (out ++ lets rest) = some R) →
    winkleref10_Write.l0 k L line out (i : Int) = some R := by
  induction rest using lets.induct with
  | case1 =>
    intro k i out hd hi ho hk hR
    obtain ⟨k, rfl⟩ : ∃ j, k = j + 1 := ⟨k - 1, by omega⟩
    have := List.drop_eq_nil_iff.1 hd
    simp only [winkleref10_Write.l0]
    rw [if_neg (by omega)]
    have := hR k (by omega)
    simpa [fin, lets] using this
  | case2 a =>
    intro k i out hd hi ho hk hR
    simp only [List.length_cons, List.length_nil] at hk
    obtain ⟨k, rfl⟩ : ∃ j, k = j + 1 := ⟨k - 1, by omega⟩
    obtain ⟨ra, la⟩ := rd_drop L i 0 a [] hd
    have d1 := drop_next L i a [] hd
    have ha : 0 ≤ a ∧ a ≤ 255 := hL a (List.mem_of_mem_drop (by rw [hd]; simp))
    have lb := List.drop_eq_nil_iff.1 d1
    simp only [winkleref10_Write.l0]
    rw [if_pos (by omega)]
    obtain ⟨k, rfl⟩ : ∃ j, k = j + 9 := ⟨k - 9, by omega⟩
    rw [show k + 9 = k + 8 + 1 from rfl]
    show winkleref10_Write.l1 (k + 8 + 1) L line out (i : Int) 0 0 ((0 : Nat) : Int) = some R
    rw [l1_in (k + 8) L line out i 0 0 0 a (by omega) la hLn ra ha (by omega) (by omega) (by omega) (by omega)]
    rw [show k + 8 = k + 7 + 1 from rfl, l1_out (k + 7) L line out i (0 + 1) _ _ (by omega) (by omega) (by omega) (by omega) (by omega)]
    rw [show k + 7 = k + 6 + 1 from rfl, l1_out (k + 6) L line out i (0 + 1 + 1) _ _ (by omega) (by omega) (by omega) (by omega) (by omega)]
    rw [show k + 6 = k + 5 + 1 from rfl, show (0 + 1 + 1 + 1 : Nat) = 2 + 1 from rfl, l1_done]
    rw [show k + 5 = k + 4 + 1 from rfl, l2_let (k + 4) L line out i 0 _ _ (a / 4) (by omega) (by omega) (by omega) (by omega) (by show _ / 2 ^ 18 % 64 = _; omega)]
    rw [show k + 4 = k + 3 + 1 from rfl, l2_let (k + 3) L line _ i (0 + 1) _ _ (a * 16) (by omega) (by omega) (by simp; omega) (by omega) (by show _ / 2 ^ 12 % 64 = _; omega)]
    rw [show k + 3 = k + 2 + 1 from rfl, l2_pad (k + 2) L line _ i (0 + 1 + 1) _ _ (by omega) (by omega) (by simp; omega)]
    rw [show k + 2 = k + 1 + 1 from rfl, l2_pad (k + 1) L line _ i (0 + 1 + 1 + 1) _ _ (by omega) (by omega) (by simp; omega)]
    rw [show (0 + 1 + 1 + 1 + 1 : Nat) = 3 + 1 from rfl, l2_done _ _ _ _ _ _ _ (by omega)]
    obtain ⟨k, rfl⟩ : ∃ j, k = j + 1 := ⟨k - 1, by omega⟩
    simp only [winkleref10_Write.l0]
    rw [if_neg (by omega)]
    have := hR k (by omega)
    simpa [fin, lets] using this
  | case3 a b =>
    intro k i out hd hi ho hk hR
    simp only [List.length_cons, List.length_nil] at hk
    obtain ⟨k, rfl⟩ : ∃ j, k = j + 1 := ⟨k - 1, by omega⟩
    obtain ⟨ra, la⟩ := rd_drop L i 0 a [b] hd
    have d1 := drop_next L i a [b] hd
    obtain ⟨rb, lb⟩ := rd_drop L i 1 b [] d1
    have d2 := drop_next L (i + 1) b [] d1
    have ha : 0 ≤ a ∧ a ≤ 255 := hL a (List.mem_of_mem_drop (by rw [hd]; simp))
    have hb : 0 ≤ b ∧ b ≤ 255 := hL b (List.mem_of_mem_drop (by rw [hd]; simp))
    have lc := List.drop_eq_nil_iff.1 d2
    simp only [winkleref10_Write.l0]
    rw [if_pos (by omega)]
    obtain ⟨k, rfl⟩ : ∃ j, k = j + 9 := ⟨k - 9, by omega⟩
    rw [show k + 9 = k + 8 + 1 from rfl]
    show winkleref10_Write.l1 (k + 8 + 1) L line out (i : Int) 0 0 ((0 : Nat) : Int) = some R
    rw [l1_in (k + 8) L line out i 0 0 0 a (by omega) la hLn ra ha (by omega) (by omega) (by omega) (by omega)]
    rw [show k + 8 = k + 7 + 1 from rfl, l1_in (k + 7) L line out i (0 + 1) _ _ b (by omega) lb hLn rb hb (by omega) (by omega) (by omega) (by omega)]
    rw [show k + 7 = k + 6 + 1 from rfl, l1_out (k + 6) L line out i (0 + 1 + 1) _ _ (by omega) (by omega) (by omega) (by omega) (by omega)]
    rw [show k + 6 = k + 5 + 1 from rfl, show (0 + 1 + 1 + 1 : Nat) = 2 + 1 from rfl, l1_done]
    rw [show k + 5 = k + 4 + 1 from rfl, l2_let (k + 4) L line out i 0 _ _ (a / 4) (by omega) (by omega) (by omega) (by omega) (by show _ / 2 ^ 18 % 64 = _; omega)]
    rw [show k + 4 = k + 3 + 1 from rfl, l2_let (k + 3) L line _ i (0 + 1) _ _ (a * 16 + b / 16) (by omega) (by omega) (by simp; omega) (by omega) (by show _ / 2 ^ 12 % 64 = _; omega)]
    rw [show k + 3 = k + 2 + 1 from rfl, l2_let (k + 2) L line _ i (0 + 1 + 1) _ _ (b * 4) (by omega) (by omega) (by simp; omega) (by omega) (by show _ / 2 ^ 6 % 64 = _; omega)]
    rw [show k + 2 = k + 1 + 1 from rfl, l2_pad (k + 1) L line _ i (0 + 1 + 1 + 1) _ _ (by omega) (by omega) (by simp; omega)]
    rw [show (0 + 1 + 1 + 1 + 1 : Nat) = 3 + 1 from rfl, l2_done _ _ _ _ _ _ _ (by omega)]
    obtain ⟨k, rfl⟩ : ∃ j, k = j + 1 := ⟨k - 1, by omega⟩
    simp only [winkleref10_Write.l0]
    rw [if_neg (by omega)]
    have := hR k (by omega)
    simpa [fin, lets] using this
  | case4 a b c r ih =>
    intro k i out hd hi ho hk hR
    simp only [List.length_cons] at hk
    obtain ⟨k, rfl⟩ : ∃ j, k = j + 1 := ⟨k - 1, by omega⟩
    obtain ⟨ra, la⟩ := rd_drop L i 0 a _ hd
    have d1 := drop_next L i a _ hd
    obtain ⟨rb, lb⟩ := rd_drop L i 1 b _ d1
    have d2 := drop_next L (i + 1) b _ d1
    obtain ⟨rc, lc⟩ := rd_drop L i 2 c _ d2
    have d3 := drop_next L (i + 2) c _ d2
    have ha : 0 ≤ a ∧ a ≤ 255 := hL a (List.mem_of_mem_drop (by rw [hd]; simp))
    have hb : 0 ≤ b ∧ b ≤ 255 := hL b (List.mem_of_mem_drop (by rw [hd]; simp))
    have hc : 0 ≤ c ∧ c ≤ 255 := hL c (List.mem_of_mem_drop (by rw [hd]; simp))
    simp only [winkleref10_Write.l0]
    rw [if_pos (by omega)]
    obtain ⟨k, rfl⟩ : ∃ j, k = j + 9 := ⟨k - 9, by omega⟩
    rw [show k + 9 = k + 8 + 1 from rfl]
    show winkleref10_Write.l1 (k + 8 + 1) L line out (i : Int) 0 0 ((0 : Nat) : Int) = some R
    rw [l1_in (k + 8) L line out i 0 0 0 a (by omega) la hLn ra ha (by omega) (by omega) (by omega) (by omega)]
    rw [show k + 8 = k + 7 + 1 from rfl, l1_in (k + 7) L line out i (0 + 1) _ _ b (by omega) lb hLn rb hb (by omega) (by omega) (by omega) (by omega)]
    rw [show k + 7 = k + 6 + 1 from rfl, l1_in (k + 6) L line out i (0 + 1 + 1) _ _ c (by omega) lc hLn rc hc (by omega) (by omega) (by omega) (by omega)]
    rw [show k + 6 = k + 5 + 1 from rfl, show (0 + 1 + 1 + 1 : Nat) = 2 + 1 from rfl, l1_done]
    rw [show k + 5 = k + 4 + 1 from rfl, l2_let (k + 4) L line out i 0 _ _ (a / 4) (by omega) (by omega) (by omega) (by omega) (by show _ / 2 ^ 18 % 64 = _; omega)]
    rw [show k + 4 = k + 3 + 1 from rfl, l2_let (k + 3) L line _ i (0 + 1) _ _ (a * 16 + b / 16) (by omega) (by omega) (by simp; omega) (by omega) (by show _ / 2 ^ 12 % 64 = _; omega)]
    rw [show k + 3 = k + 2 + 1 from rfl, l2_let (k + 2) L line _ i (0 + 1 + 1) _ _ (b * 4 + c / 64) (by omega) (by omega) (by simp; omega) (by omega) (by show _ / 2 ^ 6 % 64 = _; omega)]
    rw [show k + 2 = k + 1 + 1 from rfl, l2_let (k + 1) L line _ i (0 + 1 + 1 + 1) _ _ c (by omega) (by omega) (by simp; omega) (by omega) (by show _ / 2 ^ 0 % 64 = _; omega)]
    rw [show (0 + 1 + 1 + 1 + 1 : Nat) = 3 + 1 from rfl, l2_done _ _ _ _ _ _ _ (by omega)]
    refine ih k (i + 3) _ d3 (by omega) (by simp; omega) (by omega) (fun k' hk' => ?_)
    have := hR k' hk'
    simpa [lets] using this
theorem l3_brk (T : List Int) (hT : T.length ≤ 4194304) (line : Int) (hl : 0 < line) (n : Nat) : ∀ (k i : Nat) (q m : Int) (acc : List Int), i + n = T.length → 0 ≤ q → (i : Int) = q * line + m → 0 ≤ m → m ≤ line → (m = 0 → i = 0) → acc.length ≤ 3 * i → n < k →
    winkleref10_Write.l3 k line T acc (i : Int) = some (acc ++ brk line m (T.drop i)) := by
  induction n with
  | zero =>
    intro k i q m acc hi hq he hm hml hm0 ha hk
    obtain ⟨k, rfl⟩ : ∃ j, k = j + 1 := ⟨k - 1, by omega⟩
    simp only [winkleref10_Write.l3]
    rw [if_neg (by omega), List.drop_eq_nil_of_le (by omega)]
    simp [brk]
  | succ n ih =>
    intro k i q m acc hi hq he hm hml hm0 ha hk
    obtain ⟨k, rfl⟩ : ∃ j, k = j + 1 := ⟨k - 1, by omega⟩
    have hit : i < T.length := by omega
    simp only [winkleref10_Write.l3]
    have e2 : wrap64 ((i : Int) + 1) = ((i + 1 : Nat) : Int) := by rw [w64 _ (by omega) (by omega)]; rfl
    have hrd : rd T (i : Int) = T[i] := by simp [rd, hit]
    rw [if_pos (by omega), List.drop_eq_getElem_cons hit, hrd, e2]
    simp only [brk]
    by_cases hi0 : i = 0
    · subst hi0
      have hm0' : m = 0 := by
        rcases Int.lt_or_eq_of_le hq with h | h
        · have : line ≤ q * line := by
            have h9 := Int.mul_le_mul_of_nonneg_right (show 1 ≤ q by omega) (show 0 ≤ line by omega)
            rwa [Int.one_mul] at h9
          omega
        · rw [← h] at he; omega
      rw [if_neg (by omega), if_pos (by omega), if_pos (by omega), if_neg (by omega)]
      rw [ih k (0 + 1) 0 (m + 1) (acc ++ [T[0]]) (by omega) (by omega) (by omega) (by omega) (by omega) (by omega) (by simp; omega) (by omega)]
      simp
    · have hmod : Int.tmod (i : Int) line = m % line := by rw [Int.tmod_eq_emod_of_nonneg (by omega), he, Int.add_comm, Int.add_mul_emod_self_right]
      rw [if_pos (by omega), if_neg (by omega), hmod]
      by_cases hmL : m = line
      · rw [if_pos (by rw [hmL]; exact Int.emod_self), Option.bind_some, if_pos (by simp; omega), Option.bind_some, if_pos (by omega), if_pos (by simp; omega), if_pos ⟨hl, hmL⟩]
        rw [ih k (i + 1) (q + 1) 1 _ (by omega) (by omega) (by rw [Int.add_mul]; omega) (by omega) (by omega) (by omega) (by simp; omega) (by omega)]
        simp
      · rw [if_neg (by rw [Int.emod_eq_of_lt hm (by omega)]; intro h; exact hi0 (hm0 h)), if_pos (by omega), if_pos (by omega), if_neg (by omega)]
        rw [ih k (i + 1) q (m + 1) (acc ++ [T[i]]) (by omega) hq (by omega) (by omega) (by omega) (by omega) (by simp; omega) (by omega)]
        simp
theorem brk_le (line : Int) (h : ¬ 0 < line) (l : List Int) : ∀ n, brk line n l = l := by
  induction l with
  | nil => intro n; rfl
  | cons c r ih =>
    intro n
    simp only [brk]
    rw [if_neg (by omega), ih]
theorem refwrite_f (L : List Int) (hL : Bytes L) (hLn : L.length ≤ 1048576) (line : Int) (k : Nat) (hk : 20000000 ≤ k) : winkleref10_Write.f k L line = some (brk line 0 (lets L)) := by
  have h2 := lets_len L
  unfold winkleref10_Write.f
  refine ref_lets L hL hLn line 4194310 _ L k 0 [] rfl (by omega) (by simp) (by omega) (fun k' hk' => ?_)
  unfold fin
  by_cases h : line ≤ 0
  · rw [if_pos h, List.nil_append, brk_le line (by omega)]
  · rw [if_neg h, List.nil_append]
    have := l3_brk (lets L) (by omega) line (by omega) (lets L).length k' 0 0 0 [] (by omega) (by omega) (by omega) (by omega) (by omega) (fun _ => rfl) (by simp) (by omega)
    simpa using this
theorem writes_loop (L : List Int) (hL : Bytes L) (hLn : L.length ≤ 1048576) (line : Int) (n : Nat) : ∀ (X : List Int) (k i : Nat), i + n = X.length → X.length ≤ 16777216 → n + 30000000 ≤ k → winklelaw10_SixbitsWrites.l0 k L line X (brk line 0 (lets L)) (i : Int) = some true := by
  have h1 := brk_len line (lets L) 0
  have h2 := lets_len L
  induction n with
  | zero =>
    intro X k i hi hX hk
    obtain ⟨k, rfl⟩ : ∃ j, k = j + 1 := ⟨k - 1, by omega⟩
    simp only [winklelaw10_SixbitsWrites.l0]
    rw [if_neg (by omega), write_f L hL hLn, Option.bind_some, same_f _ (by omega) _ (by omega), Option.bind_some, if_pos rfl, awake_f _ (by omega)]
    rfl
  | succ n ih =>
    intro X k i hi hX hk
    obtain ⟨k, rfl⟩ : ∃ j, k = j + 1 := ⟨k - 1, by omega⟩
    simp only [winklelaw10_SixbitsWrites.l0]
    rw [if_pos (by omega), if_pos (by omega), w64 _ (by omega) (by omega)]
    exact ih _ k (i + 1) (by simp; omega) (by simp; omega) (by omega)
end Go.Proofs.Ytgapacibhagicaa.Six
namespace Go.Proofs.Ytgapacibhagicaa.Pure
open Go.RowKit Go.Proofs.Ytgapacibhagicaa.PAll Go.Proofs.YtgapacibhagicaaW.PrintWords Go.Proofs.YtgapacibhagicaaW.PrintLast Go.Proofs.Ytgapacibhagicaa.Six

/-- SixbitsWrites in the second form: inputs of length at most 1048576. -/
theorem SixbitsWrites : ∀ (l0 : List Int) (a1 : Int), l0.length ≤ maxLen → l0.length ≤ 1048576 → (∀ x ∈ l0, (Lit.int .u8 x).wf = true) → (Lit.int .i64 a1).wf = true → ∃ k, winklelaw10_SixbitsWrites.f k l0 a1 = some true := by
  intro L line _ h0 b0 _
  have hL := bytes_of b0
  have h1 := brk_len line (lets L) 0
  have h2 := lets_len L
  obtain ⟨N, hN⟩ : ∃ N : Nat, 60000000 ≤ N := ⟨_, Nat.le_refl _⟩
  refine ⟨N, ?_⟩
  unfold winklelaw10_SixbitsWrites.f
  rw [Option.bind_some, if_pos (by simp; omega), List.nil_append, write_f L hL h0, Option.bind_some, refwrite_f L hL h0 _ _ (by omega), Option.bind_some, same_f _ (by omega) _ (by omega), Option.bind_some, if_pos rfl]
  exact writes_loop L hL h0 line (brk line 0 (lets L)).length _ N 0 (by omega) (by omega) (by omega)

end Go.Proofs.Ytgapacibhagicaa.Pure
