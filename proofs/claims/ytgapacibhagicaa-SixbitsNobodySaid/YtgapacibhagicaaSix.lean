/- Plain: what a letter is worth, one step of the reading of letters, and the whole reading. -/
import Derived.Test.YtgapacibhagicaaPAllx5
import Derived.Laws.BitsLemmas
namespace Go.Proofs.Ytgapacibhagicaa.Six
open Go.RowKit Go.Proofs.Ytgapacibhagicaa.PAll Go.Proofs.YtgapacibhagicaaW.PrintWords Go.Proofs.YtgapacibhagicaaW.PrintLast Go.Proofs.YtgapacibhagicaaW.PrintMore
set_option linter.unusedVariables false

/-- what a letter is worth: 0 to 63; 64 a blank, 65 the pad, 66 a stray. -/
def vl (c : Int) : Int :=
  if 65 ≤ c ∧ c ≤ 90 then c - 65 else if 97 ≤ c ∧ c ≤ 122 then c - 71 else if 48 ≤ c ∧ c ≤ 57 then c + 4 else if c = 43 then 62 else if c = 47 then 63 else if c = 61 then 65 else if c = 9 ∨ c = 10 ∨ c = 13 ∨ c = 32 then 64 else 66
theorem vl_range (c : Int) : 0 ≤ vl c ∧ vl c ≤ 66 := by
  unfold vl; repeat' split
  all_goals omega
theorem vl_pad (c : Int) : vl c = 65 ↔ c = 61 := by
  unfold vl; repeat' split
  all_goals omega
theorem v1 : ∀ n : Fin 256, sixbits_value.f 4 ((n.val : Nat) : Int) = some (vl ((n.val : Nat) : Int)) := by decide +kernel
theorem v2 : ∀ n : Fin 256, winkleref10_Value.f 4 ((n.val : Nat) : Int) = some (if vl ((n.val : Nat) : Int) < 64 then vl ((n.val : Nat) : Int) else -1) := by decide +kernel
theorem v3 : ∀ n : Fin 256, winkleref10_Blank.f ((n.val : Nat) : Int) = some (decide (vl ((n.val : Nat) : Int) = 64)) := by decide +kernel
theorem up {α : Type} {f : Nat → Option α} (m : ∀ k, LeO (f k) (f (k + 1))) {a b : Nat} {r : α} (h : f a = some r) (hab : a ≤ b) : f b = some r := by
  induction b with
  | zero => obtain rfl : a = 0 := by omega
            exact h
  | succ b ih =>
    rcases Nat.lt_or_ge b a with h1 | h1
    · obtain rfl : a = b + 1 := by omega
      exact h
    · exact m b r (ih h1)
theorem value_f (c : Int) (h0 : 0 ≤ c) (h1 : c ≤ 255) (k : Nat) (hk : 4 ≤ k) : sixbits_value.f k c = some (vl c) := by
  obtain ⟨n, rfl⟩ := Int.eq_ofNat_of_zero_le h0
  exact up (f := fun k => sixbits_value.f k _) (fun k => sixbits_value.mono _ k) (v1 ⟨n, by omega⟩) hk
theorem refvalue_f (c : Int) (h0 : 0 ≤ c) (h1 : c ≤ 255) (k : Nat) (hk : 4 ≤ k) : winkleref10_Value.f k c = some (if vl c < 64 then vl c else -1) := by
  obtain ⟨n, rfl⟩ := Int.eq_ofNat_of_zero_le h0
  exact up (f := fun k => winkleref10_Value.f k _) (fun k => winkleref10_Value.mono _ k) (v2 ⟨n, by omega⟩) hk
theorem blank_f (c : Int) (h0 : 0 ≤ c) (h1 : c ≤ 255) : winkleref10_Blank.f c = some (decide (vl c = 64)) := by
  obtain ⟨n, rfl⟩ := Int.eq_ofNat_of_zero_le h0
  exact v3 ⟨n, by omega⟩

/-- the byte that a letter of worth v tells after the bits h, at place P. -/
def byt (P h v : Int) : Int := (h % 64 * 64 + v) / 2 ^ (6 - 2 * P).toNat % 256
structure St where
  err : Int
  has : Bool
  b : Int
  P : Int
  Q : Int
  H : Int
/-- one letter read, at place P with Q pads behind and the bits H. -/
def st (P Q H c : Int) : St :=
  if vl c = 64 then ⟨0, false, 0, P, Q, H⟩
  else if 0 < Q ∧ P = 0 then ⟨21, false, 0, P, Q, H⟩
  else if vl c = 65 then (if P < 2 then ⟨21, false, 0, P, Q, H⟩ else ⟨0, false, 0, (P + 1) % 4, Q + 1, H⟩)
  else if 0 < Q then ⟨21, false, 0, P, Q, H⟩
  else if vl c = 66 then ⟨20, false, 0, P, Q, H⟩
  else ⟨0, decide (0 < P), if 0 < P then byt P H (vl c) else 0, (P + 1) % 4, Q, H % 64 * 64 + vl c⟩
structure Out where
  out : List Int
  times : List Int
  why : Int
  pos : Int
def run : List Int → Int → Int → Int → Int → Out
  | [], i, P, _, _ => ⟨[], [], if P = 0 then 0 else 1, i⟩
  | c :: r, i, P, Q, H =>
    if (st P Q H c).err = 0 then
      (if (st P Q H c).has = true then ⟨(st P Q H c).b :: (run r (i + 1) (st P Q H c).P (st P Q H c).Q (st P Q H c).H).out, i :: (run r (i + 1) (st P Q H c).P (st P Q H c).Q (st P Q H c).H).times, (run r (i + 1) (st P Q H c).P (st P Q H c).Q (st P Q H c).H).why, (run r (i + 1) (st P Q H c).P (st P Q H c).Q (st P Q H c).H).pos⟩
       else run r (i + 1) (st P Q H c).P (st P Q H c).Q (st P Q H c).H)
    else ⟨[], [], (st P Q H c).err, i⟩
/-- the decoder's fields beside the document's. -/
def Rel (p q h : Int) (last : Bool) (P Q H : Int) : Prop :=
  (last = true ∧ p = 0 ∧ q = 0 ∧ h = 0 ∧ P = 0 ∧ 0 < Q) ∨
  (last = false ∧ p = P ∧ q = Q ∧ 0 ≤ P ∧ P ≤ 3 ∧ 0 ≤ Q ∧ Q ≤ 1 ∧ (Q = 1 → P = 3) ∧ (P = 0 → h = 0) ∧ 0 ≤ h ∧ (P = 1 → h < 64) ∧ (P = 2 → h < 4096) ∧ (P = 3 → h < 262144) ∧ (1 ≤ P → h % 64 = H % 64))
theorem rel0 : Rel 0 0 0 false 0 0 0 := Or.inr (by simp)
theorem wu64 (n : Int) : IntKind.u64.wrap n = n % 18446744073709551616 := by simp [IntKind.wrap, IntKind.bits, IntKind.signed]
theorem w64 (n : Int) (h0 : -9223372036854775808 ≤ n) (h1 : n < 9223372036854775808) : wrap64 n = n := by unfold wrap64; omega
theorem orv (x v : Int) (h0 : 0 ≤ x) (h1 : x < 262144) (h2 : 0 ≤ v) (h3 : v < 64) : Go.bits .or .u32 ((x * 64) % 4294967296) v = x * 64 + v := by
  rw [show x * 64 % 4294967296 = x * 64 by omega]
  exact bits_join .u32 32 (by decide) (fun n h0 h1 => by rw [IntKind.wrap_u32]; omega) 6 (x * 64) v (by omega) (by omega) (by omega) h2 (by omega) (by omega)
theorem shr_byte (P x : Int) (h1 : 1 ≤ P) (h3 : P ≤ 3) : shr .u32 x (IntKind.u64.wrap (8 - (IntKind.u64.wrap (2 * (IntKind.u64.wrap (wrap64 (P + 1))))))) = x / 2 ^ (6 - 2 * P).toNat := by
  rw [w64 _ (by omega) (by omega), wu64 (P + 1), show (P + 1) % 18446744073709551616 = P + 1 by omega, wu64 (2 * _), show 2 * (P + 1) % 18446744073709551616 = 2 * (P + 1) by omega, wu64, show (8 - 2 * (P + 1)) % 18446744073709551616 = 6 - 2 * P by omega]
  exact (shr_small (k := .u32) rfl (show 6 - 2 * P ≤ ((32 : Nat) : Int) by omega)).symm
theorem byt_mod (P h H v : Int) (h1 : 1 ≤ P) (h3 : P ≤ 3) (e : h % 64 = H % 64) (h0 : 0 ≤ h) (hv0 : 0 ≤ v) (hv : v < 64) : (h * 64 + v) / 2 ^ (6 - 2 * P).toNat % 256 = byt P H v := by
  unfold byt
  have : P = 1 ∨ P = 2 ∨ P = 3 := by omega
  rcases this with rfl | rfl | rfl
  · rw [show (6 - 2 * (1 : Int)).toNat = 4 from rfl]; omega
  · rw [show (6 - 2 * (2 : Int)).toNat = 2 from rfl]; omega
  · rw [show (6 - 2 * (3 : Int)).toNat = 0 from rfl]; omega
theorem letter_f (p q h : Int) (last : Bool) (v : Int) (hp0 : 0 ≤ p) (hp3 : p ≤ 3) (h0 : 0 ≤ h) (h1 : h < 262144) (hv0 : 0 ≤ v) (hv : v < 64) :
    sixbits_Decoder_letter.f p q h last 0 v = some (if 0 < p then (h * 64 + v) / 2 ^ (6 - 2 * p).toNat % 256 else 0, decide (0 < p), if p = 3 then 0 else p + 1, if p = 3 then 0 else q, if p = 3 then 0 else h * 64 + v, last, 0) := by
  unfold sixbits_Decoder_letter.f
  have e1 : wrap64 (p + 1) = p + 1 := w64 _ (by omega) (by omega)
  rw [if_pos (by rw [wu64]; omega), orv h v h0 h1 hv0 hv]
  by_cases hp : 0 < p
  · rw [shr_byte p _ (by omega) hp3, e1, if_pos (by omega)]
    by_cases h4 : p = 3
    · rw [if_pos (by omega), if_pos hp, if_pos h4, if_pos h4, if_pos h4]; simp [h4]
    · rw [if_neg (by omega), if_pos hp, if_neg h4, if_neg h4, if_neg h4]; simp [hp]; omega
  · rw [e1, if_neg (by omega), if_neg hp, if_neg (show ¬ p = 3 by omega), if_neg (show ¬ p = 3 by omega), if_neg (show ¬ p = 3 by omega)]; simp [hp]
theorem put_st {p q h : Int} {last : Bool} {P Q H : Int} (R : Rel p q h last P Q H) (c : Int) (c0 : 0 ≤ c) (c1 : c ≤ 255) (k : Nat) (hk : 4 ≤ k) :
    ∃ p' q' h' last', sixbits_Decoder_Put.f k p q h last 0 c = some ((st P Q H c).b, (st P Q H c).has, (st P Q H c).err, p', q', h', last', (st P Q H c).err) ∧ ((st P Q H c).err = 0 → Rel p' q' h' last' (st P Q H c).P (st P Q H c).Q (st P Q H c).H) := by
  unfold sixbits_Decoder_Put.f
  rw [if_pos rfl, value_f c c0 c1 k hk]
  show ∃ p' q' h' last', (if vl c = 64 then _ else _) = _ ∧ _
  have hv := vl_range c
  unfold st
  generalize vl c = v at hv
  by_cases a : v = 64
  · simp only [if_pos a]
    exact ⟨p, q, h, last, rfl, fun _ => R⟩
  simp only [if_neg a]
  rcases R with ⟨rfl, rfl, rfl, rfl, rfl, hQ⟩ | ⟨rfl, rfl, rfl, hP0, hP3, hQ0, hQ1, hQP, hh0, hg0, hg1, hg2, hg3, hm⟩
  · rw [if_pos rfl]
    simp only [hQ, true_and, if_true]
    exact ⟨_, _, _, _, rfl, fun h => by cases h⟩
  · have hb : h < 262144 := by
      have : p = 0 ∨ p = 1 ∨ p = 2 ∨ p = 3 := by omega
      rcases this with e | e | e | e
      · rw [hh0 e]; omega
      · have := hg1 e; omega
      · have := hg2 e; omega
      · exact hg3 e
    rw [if_neg (by simp)]
    simp only [if_neg (show ¬ (0 < q ∧ p = 0) by omega)]
    by_cases a5 : v = 65
    · simp only [if_pos a5]
      unfold sixbits_Decoder_pad.f
      by_cases b2 : p < 2
      · simp only [if_pos b2]
        exact ⟨_, _, _, _, rfl, fun h => by cases h⟩
      · simp only [if_neg b2]
        rw [w64 _ (by omega) (by omega), w64 _ (by omega) (by omega)]
        by_cases b4 : p + 1 = 4
        · rw [if_pos b4]
          exact ⟨_, _, _, _, rfl, fun _ => Or.inl ⟨rfl, rfl, rfl, rfl, by show (p + 1) % 4 = 0; omega, by show 0 < q + 1; omega⟩⟩
        · rw [if_neg b4]
          obtain rfl : p = 2 := by omega
          obtain rfl : q = 0 := by omega
          exact ⟨_, _, _, _, rfl, fun _ => Or.inr ⟨rfl, rfl, rfl, by decide, by decide, by decide, by decide, fun _ => rfl, fun h => by simp at h, hg0, fun h => by simp at h, fun h => by simp at h, fun _ => hb, fun _ => hm (by decide)⟩⟩
    simp only [if_neg a5]
    by_cases aq : 0 < q
    · rw [if_pos (show q > 0 from aq)]
      simp only [if_pos aq]
      exact ⟨_, _, _, _, rfl, fun h => by cases h⟩
    rw [if_neg (show ¬ q > 0 from aq)]
    simp only [if_neg aq]
    by_cases a6 : v = 66
    · simp only [if_pos a6]
      exact ⟨_, _, _, _, rfl, fun h => by cases h⟩
    simp only [if_neg a6]
    rw [letter_f p q h false v hP0 hP3 hg0 hb hv.1 (by omega)]
    obtain rfl : q = 0 := by omega
    have eb : (if 0 < p then (h * 64 + v) / 2 ^ (6 - 2 * p).toNat % 256 else 0) = (if 0 < p then byt p H v else 0) := by
      by_cases hp : 0 < p
      · rw [if_pos hp, if_pos hp, byt_mod p h H v (by omega) hP3 (hm (by omega)) hg0 hv.1 (by omega)]
      · rw [if_neg hp, if_neg hp]
    rw [eb]
    refine ⟨_, _, _, _, rfl, fun _ => ?_⟩
    by_cases h3 : p = 3
    · rw [if_pos h3, if_pos h3, if_pos h3]
      subst h3
      exact Or.inr (by simp)
    · rw [if_neg h3, if_neg h3, if_neg h3]
      have : p = 0 ∨ p = 1 ∨ p = 2 := by omega
      rcases this with rfl | rfl | rfl
      · rw [hh0 rfl]; refine Or.inr ⟨rfl, rfl, rfl, ?_⟩; simp; omega
      · have := hg1 rfl; have := hm (by decide); refine Or.inr ⟨rfl, rfl, rfl, ?_⟩; simp; omega
      · have := hg2 rfl; have := hm (by decide); refine Or.inr ⟨rfl, rfl, rfl, ?_⟩; simp; omega
theorem put_err (p q h : Int) (last : Bool) (e c : Int) (he : e ≠ 0) (k : Nat) : sixbits_Decoder_Put.f k p q h last e c = some (0, false, e, p, q, h, last, e) := by
  unfold sixbits_Decoder_Put.f
  rw [if_neg he]
  rfl
theorem end_f {p q h : Int} {last : Bool} {P Q H : Int} (R : Rel p q h last P Q H) : ∃ p' q' h' last' e', sixbits_Decoder_End.f p q h last 0 = some (if P = 0 then 0 else 1, p', q', h', last', e') ∧ e' = (if P = 0 then 0 else 1) ∧ (P = 0 → Rel p' q' h' last' P Q H) := by
  unfold sixbits_Decoder_End.f sixbits_Decoder_reason.f
  rw [if_pos rfl]
  by_cases hP : P = 0
  · have : p = 0 ∧ q = 0 ∧ h = 0 := by
      rcases R with ⟨_, a, b, c, _, _⟩ | ⟨_, a, b, _, _, _, h1, h2, h3, _⟩
      · exact ⟨a, b, c⟩
      · exact ⟨by omega, by omega, h3 hP⟩
    obtain ⟨rfl, rfl, rfl⟩ := this
    rw [if_neg (by simp), if_pos hP]
    exact ⟨_, _, _, _, _, rfl, rfl, fun _ => R⟩
  · have : p ≠ 0 := by
      rcases R with ⟨_, a, b, c, d, _⟩ | ⟨_, a, b, _⟩
      · exact absurd d hP
      · omega
    rw [if_pos (by simp [this]), if_neg hP]
    exact ⟨_, _, _, _, _, rfl, rfl, fun h => absurd h hP⟩
theorem end_err (p q h : Int) (last : Bool) (e : Int) (he : e ≠ 0) : sixbits_Decoder_End.f p q h last e = some (e, p, q, h, last, e) := by
  unfold sixbits_Decoder_End.f sixbits_Decoder_reason.f
  rw [if_neg he]
  rfl
end Go.Proofs.Ytgapacibhagicaa.Six
