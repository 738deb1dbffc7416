/- Plain: bits turned round as a number; which symbol stands at the beginning of some bits, told by numbers. -/
import Derived.Test.YteamaaiicjjidaaBegins
import Derived.Test.YteamaaiicjjidaaRef
import Derived.Test.YteamaaiicjjidaaBv
namespace Go.Proofs.Yteamaaiicjjidaa.PAll
open Go.RowKit Go.Proofs.Yteamaaiicjjidaa.Huf Go.Proofs.YteamaaiicjjidaaW.PrintWords Go.Proofs.YteamaaiicjjidaaW.PrintLast Go.Proofs.YteamaaiicjjidaaW.PrintMore
open Go.Proofs.Yteamaaiicjjidaa.Bv
set_option linter.unusedVariables false
set_option linter.unusedSimpArgs false
theorem c1 : (16711935 : Int) = toI 0x00ff00ff#32 := by decide
theorem c2 : (252645135 : Int) = toI 0x0f0f0f0f#32 := by decide
theorem c3 : (858993459 : Int) = toI 0x33333333#32 := by decide
theorem c4 : (1431655765 : Int) = toI 0x55555555#32 := by decide
theorem r16 (a : B) : toI a / (65536 : Int) = toI (a >>> 16) := shr_toI a 16
theorem r8 (a : B) : toI a / (256 : Int) = toI (a >>> 8) := shr_toI a 8
theorem r4 (a : B) : toI a / (16 : Int) = toI (a >>> 4) := shr_toI a 4
theorem r2 (a : B) : toI a / (4 : Int) = toI (a >>> 2) := shr_toI a 2
theorem r1 (a : B) : toI a / (2 : Int) = toI (a >>> 1) := shr_toI a 1
theorem l16 (a : B) : (toI a * (65536 : Int)) % (4294967296 : Int) = toI (a <<< 16) := shl_toI a 16
theorem l8 (a : B) : (toI a * (256 : Int)) % (4294967296 : Int) = toI (a <<< 8) := shl_toI a 8
theorem l4 (a : B) : (toI a * (16 : Int)) % (4294967296 : Int) = toI (a <<< 4) := shl_toI a 4
theorem l2 (a : B) : (toI a * (4 : Int)) % (4294967296 : Int) = toI (a <<< 2) := shl_toI a 2
theorem l1 (a : B) : (toI a * (2 : Int)) % (4294967296 : Int) = toI (a <<< 1) := shl_toI a 1
def cl (n : Int) : Nat := (mx 0 (mn 32 n)).toNat
theorem cl_le (n : Int) : cl n ≤ 32 ∧ mx 0 (mn 32 n) = (cl n : Int) := by
  unfold cl mx mn; constructor <;> (repeat' split) <;> omega
theorem wrap_u64 (n : Int) : IntKind.u64.wrap n = n % 18446744073709551616 := by simp [IntKind.wrap, IntKind.bits, IntKind.signed]
theorem rev_f (x : B) (n : Int) : bits_Reverse.f (toI x) n = some ((rv (cl n) x.toNat 0 : Nat) : Int) := by
  unfold bits_Reverse.f
  obtain ⟨hm, he⟩ := cl_le n
  simp only [r16, l16, or_toI, r8, l8, c1, and_toI, r4, l4, c2, r2, l2, c3, r1, l1, c4]
  rw [he]
  generalize cl n = m at *
  have hx : ∀ i, (net x).toNat.testBit i = (decide (i < 32) && x.toNat.testBit (31 - i)) := fun i => by
    by_cases hi : i < 32
    · have := net_bit x i hi
      simp only [BitVec.testBit_toNat]
      rw [this]; simp [hi]
    · rw [BitVec.testBit_toNat, BitVec.getLsbD_of_ge _ _ (by omega)]; simp [hi]
  have key : (net x).toNat / 2 ^ (32 - m) = rv m x.toNat 0 := by
    apply Nat.eq_of_testBit_eq
    intro i
    rw [Nat.testBit_div_two_pow, hx, rv_bit]
    by_cases h : i < m
    · rw [if_pos h, decide_eq_true (show i + (32 - m) < 32 by omega), Bool.true_and]; congr 1; omega
    · rw [if_neg h, decide_eq_false (show ¬ i + (32 - m) < 32 by omega)]; simp
  congr 1
  show IntKind.u64.wrap (toI (net x)) / 2 ^ (32 - (m : Int)).toNat % 4294967296 = _
  rw [wrap_u64]
  have hr := toI_range (net x)
  rw [Int.emod_eq_of_lt hr.1 (by omega), show (32 - (m : Int)).toNat = 32 - m by omega]
  have h1 : toI (net x) / 2 ^ (32 - m) = ((rv m x.toNat 0 : Nat) : Int) := by
    rw [← key]; unfold toI; rw [Int.natCast_ediv]; simp
  rw [h1]
  have := rv_lt m x.toNat
  have h3 : 2 ^ m ≤ 2 ^ 32 := Nat.pow_le_pow_right (by omega) hm
  omega
theorem bn_cons (b : Bool) (l : List Bool) : bn (b :: l) = b.toNat * 2 ^ l.length + bn l := by
  have := bn_append [b] l
  rw [List.singleton_append] at this
  rw [this]
  simp [bn]
theorem rv_val : ∀ (k : Nat) (l : List Bool) (out : Nat), k ≤ l.length → rv k (val l) out = out * 2 ^ k + bn (l.take k)
  | 0, l, out, _ => by simp [rv, bn]
  | k + 1, [], out, h => by simp at h
  | k + 1, b :: l, out, h => by
    have h2 : val (b :: l) / 2 = val l ∧ val (b :: l) % 2 = b.toNat := by simp only [val]; cases b <;> simp <;> omega
    have hk : k ≤ l.length := by simpa using h
    rw [rv, h2.1, h2.2, rv_val k l _ hk, List.take_succ_cons, bn_cons, List.length_take, Nat.min_eq_left hk, Nat.pow_succ, Nat.add_mul]
    have : 2 * out * 2 ^ k = out * (2 ^ k * 2) := by rw [Nat.mul_comm 2 out, Nat.mul_assoc, Nat.mul_comm 2]
    omega
/-- the first k of some bits, turned round. -/
theorem rev_bits (bs : List Bool) (N k : Nat) (hN : N ≤ bs.length) (hN15 : N ≤ 15) (hk : k ≤ N) : bits_Reverse.f ((val bs % 2 ^ N : Nat) : Int) (k : Int) = some ((bn (bs.take k) : Nat) : Int) := by
  have h1 := val_take bs N hN
  have h2 := val_lt (bs.take N)
  rw [List.length_take, Nat.min_eq_left hN] at h2
  have h3 : 2 ^ N ≤ 2 ^ 15 := Nat.pow_le_pow_right (by omega) hN15
  have e15 : (2 : Nat) ^ 15 = 32768 := by decide
  rw [← h1]
  have e : (((val (bs.take N) : Nat)) : Int) = toI (BitVec.ofNat 32 (val (bs.take N))) := by unfold toI; rw [BitVec.toNat_ofNat]; omega
  have e2 : (BitVec.ofNat 32 (val (bs.take N))).toNat = val (bs.take N) := by rw [BitVec.toNat_ofNat]; omega
  rw [e, rev_f, e2]
  have e3 : cl (k : Int) = k := by unfold cl mx mn; (repeat' split) <;> omega
  rw [e3, rv_val k _ 0 (by rw [List.length_take]; omega), Nat.zero_mul, Nat.zero_add, List.take_take, Nat.min_eq_left hk]
/-- a symbol's code stands at the beginning. -/
def Hit (l : List Int) (bs : List Bool) (s : Nat) : Prop := ∃ h : s < l.length, 0 < l[s] ∧ code l s <+: bs
/-- a symbol's code goes on from all of them. -/
def Mor (l : List Int) (bs : List Bool) (s : Nat) : Prop := ∃ h : s < l.length, 0 < l[s] ∧ bs <+: code l s
/-- what is told of some bits: the symbol, how, and how many are taken. -/
def LookAt (l : List Int) (bs : List Bool) (s how n : Nat) : Prop :=
  (how = 0 ∧ Hit l bs s ∧ n = ln l s) ∨ (how = 1 ∧ s = 0 ∧ n = 0 ∧ (∀ t, ¬ Hit l bs t) ∧ ∃ t, Mor l bs t) ∨ (how = 2 ∧ s = 0 ∧ n = 0 ∧ (∀ t, ¬ Hit l bs t) ∧ ∀ t, ¬ Mor l bs t)
theorem hit_le {l : List Int} {bs : List Bool} {s : Nat} (h : Hit l bs s) : ln l s ≤ bs.length := by
  obtain ⟨hs, h0, hp⟩ := h
  have := hp.length_le
  rwa [code_len hs h0] at this
/-- is there a code of the length k at the beginning? -/
theorem hit_at {l : List Int} (hO : Ok l) (hK : kr l ≤ 32768) {bs : List Bool} {k : Nat} (hk : k ≤ bs.length) : (∃ s, Hit l bs s ∧ ln l s = k) ↔ fs l k ≤ bn (bs.take k) ∧ bn (bs.take k) < fs l k + ct l k := by
  constructor
  · rintro ⟨s, ⟨hs, h0, hp⟩, rfl⟩
    rw [((hit_iff hO hK bs hs h0).1 hp).2]
    exact ⟨cd_ge l s, cd_lt hs h0⟩
  · rintro ⟨h1, h2⟩
    obtain ⟨s, hs, e1, e2, e3, e4⟩ := find h1 h2
    exact ⟨s, ⟨hs, e2, (hit_iff hO hK bs hs e2).2 ⟨by omega, by rw [e3, e4]⟩⟩, e3⟩
/-- is there a code that goes on from them? (where none stands at the beginning) -/
theorem more_at {l : List Int} (hO : Ok l) (hK : kr l ≤ 32768) {bs : List Bool} (hno : ∀ t, ¬ Hit l bs t) : Bgs l (bn (bs.take (min bs.length 15))) (min bs.length 15) ↔ ∃ t, Mor l bs t := by
  constructor
  · rintro ⟨k, h1, h2, g1, g2, g3⟩
    have hn : min bs.length 15 = bs.length := by omega
    rw [hn, List.take_length] at g2 g3
    rw [hn] at h1
    obtain ⟨x, x1, x2, x3⟩ : ∃ x, fs l k ≤ x ∧ x < fs l k + ct l k ∧ x / 2 ^ (k - bs.length) = bn bs := by
      have hp : 0 < 2 ^ (k - bs.length) := Nat.pow_pos (by omega)
      have hd : ∀ x, bn bs * 2 ^ (k - bs.length) ≤ x → x < bn bs * 2 ^ (k - bs.length) + 2 ^ (k - bs.length) → x / 2 ^ (k - bs.length) = bn bs := fun x a b => by
        have e1 := (Nat.le_div_iff_mul_le hp).2 a
        have e2 : x / 2 ^ (k - bs.length) < bn bs + 1 := (Nat.div_lt_iff_lt_mul hp).2 (by rw [Nat.succ_mul]; exact b)
        omega
      by_cases hc : fs l k ≤ bn bs * 2 ^ (k - bs.length)
      · exact ⟨_, hc, g2, hd _ (Nat.le_refl _) (by omega)⟩
      · exact ⟨fs l k, Nat.le_refl _, by omega, hd _ (by omega) g3⟩
    obtain ⟨s, hs, e1, e2, e3, e4⟩ := find x1 x2
    exact ⟨s, hs, e2, (more_iff hO hK bs hs e2).2 ⟨by omega, by rw [e3, e4, x3]⟩⟩
  · rintro ⟨s, hs, h0, hp⟩
    obtain ⟨m1, m2⟩ := (more_iff hO hK bs hs h0).1 hp
    have hb := (cd_bound hO hK hs h0).1
    have hn : min bs.length 15 = bs.length := by omega
    have hlt : bs.length < ln l s := by
      rcases Nat.lt_or_eq_of_le m1 with h | h
      · exact h
      · exfalso
        apply hno s
        have e : bs = code l s := hp.eq_of_length (by rw [code_len hs h0]; exact h)
        exact ⟨hs, h0, by rw [← e]; exact List.prefix_refl _⟩
    have c1 := cd_ge l s
    have c2 := cd_lt hs h0
    have hpp : 0 < 2 ^ (ln l s - bs.length) := Nat.pow_pos (by omega)
    rw [hn, List.take_length]
    have q1 : bn bs * 2 ^ (ln l s - bs.length) ≤ cd l s := (Nat.le_div_iff_mul_le hpp).1 (by omega)
    have q2 : cd l s < bn bs * 2 ^ (ln l s - bs.length) + 2 ^ (ln l s - bs.length) := by
      have := (Nat.div_lt_iff_lt_mul (x := cd l s) (y := bn bs + 1) hpp).1 (by omega)
      rwa [Nat.succ_mul] at this
    exact ⟨ln l s, hlt, hb, by omega, by omega, by omega⟩
theorem look_hit {l : List Int} (hO : Ok l) (hK : kr l ≤ 32768) {bs : List Bool} {s how n t : Nat} (h : LookAt l bs s how n) (ht : Hit l bs t) : s = t ∧ how = 0 ∧ n = ln l t := by
  rcases h with ⟨rfl, ⟨hs, h0, hp⟩, rfl⟩ | ⟨_, _, _, hno, _⟩ | ⟨_, _, _, hno, _⟩
  · obtain ⟨ht', h0', hp'⟩ := ht
    have := hit_one hO hK hs ht' h0 h0' hp hp'
    subst this
    exact ⟨rfl, rfl, rfl⟩
  · exact absurd ht (hno t)
  · exact absurd ht (hno t)
theorem look_no {l : List Int} {bs : List Bool} {s how n : Nat} (h : LookAt l bs s how n) (hno : ∀ t, ¬ Hit l bs t) : s = 0 ∧ n = 0 ∧ ((how = 1 ∧ ∃ t, Mor l bs t) ∨ (how = 2 ∧ ∀ t, ¬ Mor l bs t)) := by
  rcases h with ⟨_, hh, _⟩ | ⟨h1, h2, h3, _, h4⟩ | ⟨h1, h2, h3, _, h4⟩
  · exact absurd hh (hno s)
  · exact ⟨h2, h3, .inl ⟨h1, h4⟩⟩
  · exact ⟨h2, h3, .inr ⟨h1, h4⟩⟩
open Classical in
theorem look_ex (l : List Int) (bs : List Bool) : ∃ s how n, LookAt l bs s how n := by
  by_cases h : ∃ s, Hit l bs s
  · obtain ⟨s, hs⟩ := h; exact ⟨s, 0, _, .inl ⟨rfl, hs, rfl⟩⟩
  · have hno : ∀ t, ¬ Hit l bs t := fun t ht => h ⟨t, ht⟩
    by_cases h2 : ∃ t, Mor l bs t
    · exact ⟨0, 1, 0, .inr (.inl ⟨rfl, rfl, rfl, hno, h2⟩)⟩
    · exact ⟨0, 2, 0, .inr (.inr ⟨rfl, rfl, rfl, hno, fun t ht => h2 ⟨t, ht⟩⟩)⟩
end Go.Proofs.Yteamaaiicjjidaa.PAll
