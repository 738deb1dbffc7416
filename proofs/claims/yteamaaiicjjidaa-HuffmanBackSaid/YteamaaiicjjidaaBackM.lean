/- Plain: symbols written by their codes, one behind the other, are read back. -/
import Derived.Test.YteamaaiicjjidaaLook
import Derived.Test.YteamaaiicjjidaaQTab
namespace Go.Proofs.Yteamaaiicjjidaa.PAll
open Go.RowKit Go.Proofs.Yteamaaiicjjidaa.Huf Go.Proofs.YteamaaiicjjidaaW.PrintWords Go.Proofs.YteamaaiicjjidaaW.PrintLast Go.Proofs.YteamaaiicjjidaaW.PrintMore
set_option linter.unusedVariables false
set_option linter.unusedSimpArgs false
/-- what was written of some symbols. -/
def lineOf (l : List Int) (ws : List Nat) : List Bool := ws.flatMap (code l)
/-- each of them has a code. -/
def AllC (l : List Int) (ws : List Nat) : Prop := ∀ s ∈ ws, ∃ h : s < l.length, 0 < l[s]
theorem lineOf_snoc (l : List Int) (ws : List Nat) (s : Nat) : lineOf l (ws ++ [s]) = lineOf l ws ++ code l s := by simp [lineOf]
theorem allC_snoc {l : List Int} {ws : List Nat} {s : Nat} (h : AllC l ws) (hs : s < l.length) (h0 : 0 < l[s]) : AllC l (ws ++ [s]) := fun t ht => by
  rcases List.mem_append.1 ht with ht | ht
  · exact h t ht
  · rw [List.mem_singleton.1 ht]; exact ⟨hs, h0⟩
theorem lineOf_split {l : List Int} {ws : List Nat} {k : Nat} (h : k < ws.length) : lineOf l ws = lineOf l (ws.take k) ++ (code l ws[k] ++ lineOf l (ws.drop (k + 1))) := by
  have e : ws = ws.take k ++ (ws[k] :: ws.drop (k + 1)) := by rw [← List.drop_eq_getElem_cons h, List.take_append_drop]
  have e2 : lineOf l ws = lineOf l (ws.take k ++ (ws[k] :: ws.drop (k + 1))) := congrArg (lineOf l) e
  rw [e2]
  unfold lineOf
  rw [List.flatMap_append, List.flatMap_cons]
theorem lineOf_take_succ {l : List Int} {ws : List Nat} {k : Nat} (h : k < ws.length) : lineOf l (ws.take (k + 1)) = lineOf l (ws.take k) ++ code l ws[k] := by
  rw [List.take_succ_eq_append_getElem h, lineOf_snoc]
theorem lineOf_empty {l : List Int} {ws : List Nat} (h : AllC l ws) (he : (lineOf l ws).length = 0) : ws = [] := by
  cases ws with
  | nil => rfl
  | cons s ws =>
    obtain ⟨hs, h0⟩ := h s (by simp)
    have := code_len hs h0
    have h2 := ln_of hs
    simp [lineOf, List.flatMap_cons] at he
    rw [he.1] at this
    simp at this
    omega
/-- one step of reading: the next symbol's code stands at the beginning, or more bits are needed. -/
theorem back_step {l : List Int} (hO : Ok l) (hK : kr l ≤ 32768) {ws : List Nat} (hA : AllC l ws) {pad bs : List Bool} {i got : Nat} (hg : got < ws.length)
    (hI : (lineOf l ws ++ pad).take i = lineOf l (ws.take got) ++ bs) :
    (Hit l bs ws[got] ∧ (lineOf l ws ++ pad).take i = lineOf l (ws.take (got + 1)) ++ bs.drop (ln l ws[got])) ∨ (LookAt l bs 0 1 0 ∧ bs.length ≤ 15 ∧ i < (lineOf l ws).length) := by
  obtain ⟨hs, h0⟩ := hA ws[got] (List.getElem_mem hg)
  have hcl := code_len hs h0
  have hc15 := (cd_bound hO hK hs h0).1
  have hsp := lineOf_split (l := l) hg
  have hpre : bs <+: code l ws[got] ++ (lineOf l (ws.drop (got + 1)) ++ pad) := by
    have h1 : lineOf l (ws.take got) ++ bs <+: lineOf l (ws.take got) ++ (code l ws[got] ++ (lineOf l (ws.drop (got + 1)) ++ pad)) := by
      rw [← hI]
      have e : lineOf l ws ++ pad = lineOf l (ws.take got) ++ (code l ws[got] ++ (lineOf l (ws.drop (got + 1)) ++ pad)) := by rw [hsp]; simp [List.append_assoc]
      rw [← e]
      exact List.take_prefix _ _
    exact (List.prefix_append_right_inj _).1 h1
  rcases Nat.lt_or_ge bs.length (code l ws[got]).length with hlt | hge
  · right
    have hbc : bs <+: code l ws[got] := List.prefix_of_prefix_length_le hpre (List.prefix_append _ _) (Nat.le_of_lt hlt)
    have hno : ∀ t, ¬ Hit l bs t := fun t ⟨ht, ht0, htp⟩ => by
      have e := one_hit (a := []) (b := []) hO hK ht hs ht0 h0 (htp.trans hbc)
      subst e
      have := htp.length_le
      omega
    refine ⟨.inr (.inl ⟨rfl, rfl, rfl, hno, ws[got], hs, h0, hbc⟩), by omega, ?_⟩
    have hl := congrArg List.length hI
    rw [List.length_take, List.length_append, List.length_append] at hl
    have h2 := congrArg List.length hsp
    rw [List.length_append, List.length_append] at h2
    omega
  · left
    have hcb : code l ws[got] <+: bs := List.prefix_of_prefix_length_le (List.prefix_append _ _) hpre hge
    refine ⟨⟨hs, h0, hcb⟩, ?_⟩
    rw [hI, lineOf_take_succ hg, List.append_assoc]
    congr 1
    obtain ⟨r, hr⟩ := hcb
    rw [← hr, ← hcl]
    simp
theorem val_inj : ∀ {a b : List Bool}, a.length = b.length → val a = val b → a = b
  | [], [], _, _ => rfl
  | [], _ :: _, h, _ => by simp at h
  | _ :: _, [], h, _ => by simp at h
  | x :: a, y :: b, h, e => by
    simp only [val] at e
    have h1 : x = y ∧ val a = val b := by cases x <;> cases y <;> simp at e ⊢ <;> omega
    rw [h1.1, val_inj (by simpa using h) h1.2]
theorem bits_of_val {B : List Bool} (h : B.length = 8) : bitsL (val B) = B ∧ val B < 256 := by
  have hlt := val_lt B
  rw [h] at hlt
  have e8 : (2 : Nat) ^ 8 = 256 := by decide
  have := (bits_f ((val B : Nat) : Int) (by omega) (by omega)).2
  rw [Int.toNat_natCast] at this
  exact ⟨val_inj (by rw [bitsL_len, h]) this, by omega⟩
/-- the number of a byte's first k bits. -/
def vb (E : List Bool) (i k : Nat) : Nat := val ((E.drop i).take k)
theorem vb_zero (E : List Bool) (i : Nat) : vb E i 0 = 0 := by simp [vb, val]
theorem vb_lt (E : List Bool) (i k : Nat) : vb E i k < 2 ^ k := by
  have h := val_lt ((E.drop i).take k)
  have h2 : ((E.drop i).take k).length ≤ k := List.length_take_le _ _
  have h3 : 2 ^ ((E.drop i).take k).length ≤ 2 ^ k := Nat.pow_le_pow_right (by omega) h2
  unfold vb; omega
theorem vb_step {E : List Bool} {i k : Nat} (h : i + k < E.length) : vb E i (k + 1) = vb E i k + (E[i + k]).toNat * 2 ^ k := by
  unfold vb
  have hk : k < (E.drop i).length := by rw [List.length_drop]; omega
  rw [List.take_succ_eq_append_getElem hk, val_append, List.length_take, Nat.min_eq_left (by omega), List.getElem_drop]
  congr 2
  cases E[i + k] <;> simp [val]
theorem vb_end {L : List Bool} {i : Nat} : ∀ {k d : Nat}, L.length ≤ i + k → k + d = 8 → i + 8 ≤ L.length + 8 → vb (L ++ List.replicate 8 false) i 8 = vb (L ++ List.replicate 8 false) i k
  | k, 0, _, h, _ => by
    have e : k = 8 := by omega
    rw [e]
  | k, d + 1, h1, h2, h3 => by
    rw [vb_end (k := k + 1) (d := d) (by omega) (by omega) h3, vb_step (by simp; omega)]
    have : (L ++ List.replicate 8 false)[i + k]'(by simp; omega) = false := by
      rw [List.getElem_append_right (by omega), List.getElem_replicate]
    rw [this]; simp
/-- the bits that a byte brings. -/
theorem byte_bits {L : List Bool} {i : Nat} (h : i < L.length) : bitsL (vb (L ++ List.replicate 8 false) i 8) = ((L ++ List.replicate 8 false).drop i).take 8 ∧ vb (L ++ List.replicate 8 false) i 8 < 256 :=
  bits_of_val (by rw [List.length_take, List.length_drop]; simp; omega)
theorem take_more (E : List Bool) (i : Nat) : E.take (i + 8) = E.take i ++ (E.drop i).take 8 := by rw [List.take_add]
theorem w32 (x : Int) (h0 : 0 ≤ x) (h1 : x < 4294967296) : IntKind.u32.wrap x = x := by simp [IntKind.wrap, IntKind.bits, IntKind.signed]; omega
theorem bit_low (y : Nat) (h : y < 4294967296) : (Go.bits .and .u32 (y : Int) 1 == 1) = (y % 2 == 1) := by
  have := bits_mask .u32 32 (by decide) (fun n h0 h1 => w32 n h0 (by omega)) 1 (by omega) (y : Int) (by omega) (by omega)
  have e1 : ((2 : Int) ^ 1 - 1) = 1 := by decide
  have e2 : ((2 : Int) ^ 1) = 2 := by decide
  rw [e1, e2] at this
  rw [this]
  rcases Nat.mod_two_eq_zero_or_one y with h | h
  · rw [show ((y : Int) % 2) = 0 by omega, h]; rfl
  · rw [show ((y : Int) % 2) = 1 by omega, h]; rfl
/-- one more bit of a code is written. -/
theorem bit_next {n X k j : Nat} (hX : X < 32768) (hk : k = j + 1) (hkn : k ≤ n) : (bts n X).take (n - j) = (bts n X).take (n - k) ++ [(Go.bits .and .u32 ((X : Int) / 2 ^ j) 1 == 1)] := by
  have hle : X / 2 ^ j ≤ X := Nat.div_le_self _ _
  have e : ((X : Int) / 2 ^ j) = ((X / 2 ^ j : Nat) : Int) := by rw [← cast_pow, Int.natCast_ediv]
  rw [e, bit_low _ (by omega)]
  have hb := bts_get n X (n - k) (by omega)
  rw [show n - 1 - (n - k) = j by omega] at hb
  obtain ⟨h1, h2⟩ := List.getElem?_eq_some_iff.1 hb
  rw [show n - j = (n - k) + 1 by omega, List.take_succ_eq_append_getElem h1, h2]
/-- what is known when i bits are put in and got symbols are read. -/
def RS (l : List Int) (ws : List Nat) (i got : Nat) (bs : List Bool) : Prop :=
  got ≤ ws.length ∧ (lineOf l ws ++ List.replicate 8 false).take i = lineOf l (ws.take got) ++ bs ∧ (i < (lineOf l ws).length → bs.length ≤ 15) ∧ ((lineOf l ws).length ≤ i → got = ws.length)
theorem rs_zero {l : List Int} {ws : List Nat} (h : AllC l ws) : RS l ws 0 0 [] :=
  ⟨Nat.zero_le _, by simp [lineOf], fun _ => by simp, fun h0 => by rw [lineOf_empty h (by omega)]; rfl⟩
/-- .. behind a byte. -/
def RM (l : List Int) (ws : List Nat) (i got : Nat) (bs : List Bool) : Prop := got ≤ ws.length ∧ (lineOf l ws ++ List.replicate 8 false).take i = lineOf l (ws.take got) ++ bs
theorem rs_put {l : List Int} {ws : List Nat} {i got : Nat} {bs : List Bool} (h : RS l ws i got bs) (hi : i < (lineOf l ws).length) : RM l ws (i + 8) got (bs ++ bitsL (vb (lineOf l ws ++ List.replicate 8 false) i 8)) :=
  ⟨h.1, by rw [take_more, h.2.1, (byte_bits hi).1, List.append_assoc]⟩
theorem rm_step {l : List Int} (hO : Ok l) (hK : kr l ≤ 32768) {ws : List Nat} (hA : AllC l ws) {i got : Nat} {bs : List Bool} (h : RM l ws i got bs) (hg : got < ws.length) :
    (Hit l bs ws[got] ∧ RM l ws i (got + 1) (bs.drop (ln l ws[got]))) ∨ (LookAt l bs 0 1 0 ∧ i < (lineOf l ws).length ∧ RS l ws i got bs) := by
  rcases back_step hO hK hA hg h.2 with ⟨h1, h2⟩ | ⟨h1, h2, h3⟩
  · exact .inl ⟨h1, hg, h2⟩
  · exact .inr ⟨h1, h3, h.1, h.2, fun _ => h2, fun h4 => by omega⟩
theorem rm_end {l : List Int} {ws : List Nat} {i : Nat} {bs : List Bool} (h : RM l ws i ws.length bs) : RS l ws i ws.length bs ∧ (lineOf l ws).length ≤ i := by
  have h2 := h.2
  rw [List.take_length] at h2
  have h3 := congrArg List.length h2
  rw [List.length_take, List.length_append, List.length_append] at h3
  have h4 : (lineOf l ws).length ≤ i := by omega
  exact ⟨⟨Nat.le_refl _, h.2, fun h5 => by omega, fun _ => rfl⟩, h4⟩
end Go.Proofs.Yteamaaiicjjidaa.PAll
