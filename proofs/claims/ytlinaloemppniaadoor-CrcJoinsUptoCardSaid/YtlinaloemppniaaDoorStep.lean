/- A sum with one byte more: by a table of nibbles, and move by move, it is the same; a sum of a row of bytes. -/
import Derived.Test.YtlinaloemppniaaDoorBv
import Derived.Test.YtlinaloemppniaaDoorWSized
namespace Go.Proofs.YtlinaloemppniaaDoor.PAll
open Go.RowKit Go.Proofs.YtlinaloemppniaaDoor.Crc Go.Proofs.YtlinaloemppniaaDoor.CrcMath Go.Proofs.YtlinaloemppniaaDoorW.PrintWords Go.Proofs.YtlinaloemppniaaDoorW.PrintLast Go.Proofs.YtlinaloemppniaaDoorW.PrintMore
attribute [local go_sem] max2_int min2_int max_two min_two max_three min_three max_four min_four   -- for this text's walks alone
set_option linter.unusedVariables false
set_option linter.unusedSimpArgs false
/-- the table of nibbles lies in block 0. -/
def Tab (W : World) : Prop := ∀ i, i < 16 → W.cell? ⟨0, i, none⟩ = some (.int .u32 (I (mvn 4 (BitVec.ofNat 32 i))))
theorem tab_below {n : Nat} {W W' : World} (h : Tab W) (hb : Below n W W') (hn : n = W.heap.size) : Tab W' := fun i hi => by subst hn; exact pw_cell_below hb (h i hi)
theorem tab_drawn {W W' : World} (h : Tab W) (hd : Drawn0 W W') : Tab W' := by obtain ⟨n, rfl⟩ := hd; exact h
theorem drawn_trans {W W' W'' : World} (h : Drawn0 W W') (hd : Drawn0 W' W'') : Drawn0 W W'' := by
  obtain ⟨n, rfl⟩ := h
  obtain ⟨m, rfl⟩ := hd
  exact ⟨⟨n + m, World.drewN_drewN ..⟩⟩
theorem drawn_cell {W W' : World} {a : Addr} {v : Value} (h : Drawn0 W W') (hc : W.cell? a = some v) : W'.cell? a = some v := by obtain ⟨n, rfl⟩ := h; exact hc
theorem nib (x : B) : (I (x &&& 15#32)).toNat < 16 ∧ BitVec.ofNat 32 (I (x &&& 15#32)).toNat = x &&& 15#32 := by
  unfold I
  rw [Int.toNat_natCast]
  refine ⟨?_, by simp⟩
  have h : (x &&& 15#32).toNat ≤ 15 := by
    rw [BitVec.toNat_and]
    exact Nat.and_le_right
  omega
theorem tab_cell {W : World} (h : Aside0 (Tab W)) (x : B) : W.cell? ⟨0, (I (x &&& 15#32)).toNat, none⟩ = some (.int .u32 (I (mvn 4 (x &&& 15#32)))) := by
  have := h.out _ (nib x).1
  rwa [(nib x).2] at this
theorem fifteenI : (15 : Int) = I 15#32 := by decide
theorem nibI (x : B) : Go.bits .and .u32 (I x) 15 = I (x &&& 15#32) := by rw [fifteenI, andI]
theorem mvn4 (x : B) : (x >>> 4) ^^^ mvn 4 (x &&& 15#32) = mvn 4 x := by
  have h1 : x = (x &&& ~~~15#32) ^^^ (x &&& 15#32) := by
    apply BitVec.eq_of_getLsbD_eq
    intro i hi
    simp only [BitVec.getLsbD_xor, BitVec.getLsbD_and, BitVec.getLsbD_not, hi, decide_true, Bool.true_and]
    cases x.getLsbD i <;> cases (15#32).getLsbD i <;> rfl
  have h15 : ∀ i : Fin 32, (15#32).getLsbD i.1 = decide (i.1 < 4) := by decide
  have h2 : mvn 4 (x &&& ~~~15#32) = x >>> 4 := by
    rw [mvn_low0]
    · apply BitVec.eq_of_getLsbD_eq
      intro i hi
      rw [BitVec.getLsbD_ushiftRight, BitVec.getLsbD_ushiftRight, BitVec.getLsbD_and, BitVec.getLsbD_not]
      by_cases h : 4 + i < 32
      · have := h15 ⟨4 + i, h⟩
        simp only at this
        rw [this]; simp [h]
      · rw [BitVec.getLsbD_of_ge _ _ (by omega)]; simp
    · intro i hi
      have := h15 ⟨i, by omega⟩
      simp only at this
      rw [BitVec.getLsbD_and, BitVec.getLsbD_not, this]; simp [hi]
  conv => rhs; rw [h1, mvn_xor, h2]
/-- a byte as a row of bits. -/
def bv (x : Int) : B := BitVec.ofInt 32 x
theorem bvI {x : Int} (h0 : 0 ≤ x) (h1 : x ≤ 255) : I (bv x) = x := by
  unfold I bv
  rw [BitVec.toNat_ofInt]
  omega
def stepB (s : B) (x : Int) : B := ~~~(mvn 8 (~~~s ^^^ bv x))
def sumB (s : B) (l : List Int) : B := l.foldl stepB s
theorem step8 (x : B) : mvn 4 (mvn 4 x) = mvn 8 x := by rw [← mvn_add]
theorem notI (x : B) : Go.bits .xor .u32 IntKind.u32.max (I x) = I (~~~x) := by
  have e : IntKind.u32.max = I (BitVec.allOnes 32) := by decide
  rw [e, xorI]
  congr 1
theorem byteI {x : Int} (hx : 0 ≤ x ∧ x ≤ 255) (y : B) : Go.bits .xor .u32 (I y) x = I (y ^^^ bv x) := by rw [← xorI, bvI hx.1 hx.2]
/-- what a nibble's turn needs. -/
theorem nib_facts {W : World} (h : Aside0 (Tab W)) (y : B) : ∃ lo hi q : Int, Go.bits .and .u32 (I y) 15 = lo ∧ 0 ≤ lo ∧ lo < 16 ∧ I y / 2 ^ 4 = hi ∧ I y / 16 = hi ∧ W.cell? ⟨0, lo.toNat, none⟩ = some (.int .u32 q) ∧ Go.bits .xor .u32 hi q = I (mvn 4 y) := by
  refine ⟨_, _, _, nibI y, I_nn _, ?_, shrI y 4, ?_, tab_cell h y, by rw [xorI, mvn4]⟩
  · have := (nib y).1
    have h0 := I_nn (y &&& 15#32)
    omega
  · have := shrI y 4
    have e : (2 : Int) ^ 4 = 16 := by decide
    rwa [e] at this
set_option maxHeartbeats 8000000 in
set_option maxRecDepth 100000 in
theorem step_calls (s : B) (x : Int) (hx : 0 ≤ x ∧ x ≤ 255) (w : World) (hT : Aside0 (Tab w)) : Calls Tryd.prog 10 #[.int .u32 (I s), .int .u8 x] w fun e w' => e = .returned (.int .u32 (I (stepB s x))) ∧ Drawn0 w w' := by
  have hn1 := notI s
  have hx1 := byteI hx (~~~s)
  have HS : Aside0 (stepB s x = ~~~(mvn 4 (mvn 4 (~~~s ^^^ bv x)))) := ⟨by rw [step8]; rfl⟩
  have hw : IntKind.u32.wrap x = x := by simp [IntKind.wrap, IntKind.bits, IntKind.signed]; omega
  obtain ⟨h0, h1⟩ := hx
  generalize ~~~s ^^^ bv x = y at *
  generalize I (~~~s) = ns at *
  obtain ⟨lo, hi, q, e1, e2, e3, e4, e4', e5, e6⟩ := nib_facts hT y
  generalize mvn 4 y = z at *
  obtain ⟨lo2, hi2, q2, f1, f2, f3, f4, f4', f5, f6⟩ := nib_facts hT z
  generalize mvn 4 z = u at *
  have hn2 := notI u
  have hr1 : 0 ≤ Go.bits .and .u32 (Go.bits .xor .u32 (Go.bits .xor .u32 IntKind.u32.max (I s)) x) 15 ∧ Go.bits .and .u32 (Go.bits .xor .u32 (Go.bits .xor .u32 IntKind.u32.max (I s)) x) 15 < 16 := by rw [hn1, hx1, e1]; exact ⟨e2, e3⟩
  clear hT
  go_enter Tryd.func10, Tryd.ntmps10
  go_wp2
  go_ret
  exact ⟨by rw [HS.out]; rfl, by repeat (first | exact Drawn0.refl _ | apply Drawn0.step)⟩
set_option maxHeartbeats 8000000 in
set_option maxRecDepth 100000 in
theorem rstep_calls (s : B) (x : Int) (hx : 0 ≤ x ∧ x ≤ 255) (w : World) : Calls Tryd.prog 11 #[.int .u32 (I s), .int .u8 x] w fun e w' => e = .returned (.int .u32 (I (stepB s x))) ∧ Drawn0 w w' := by
  have hn1 := notI s
  have hx1 := byteI hx (~~~s)
  have HS : Aside0 (stepB s x = ~~~(mvn 8 (~~~s ^^^ bv x))) := ⟨rfl⟩
  have hw : IntKind.u32.wrap x = x := by simp [IntKind.wrap, IntKind.bits, IntKind.signed]; omega
  obtain ⟨h0, h1⟩ := hx
  generalize ~~~s ^^^ bv x = y at *
  generalize I (~~~s) = ns at *
  go_enter Tryd.func11, Tryd.ntmps11
  go_wp2
  go_loopg [5, 6] 9 (fun kq v5 v6 w' => ∃ (k : Nat), v5 = .int .u32 (I (mvn k y)) ∧ v6 = .int .i64 (k : Int) ∧ k + kq = 9 ∧ k ≤ 8 ∧ Drawn0 w w')
  case atStart => exact ⟨0, rfl, rfl, by omega, by omega, Drawn0.refl _⟩
  case round =>
    obtain ⟨k, rfl, rfl, hk, hk8, HD⟩ := hrel
    cases gk with
    | zero => exact absurd hk (by omega)
    | succ k1 =>
    replace HD := Aside0.mk HD
    by_cases hp : k < 8
    · have hb : decide ((k : Int) < 8) = true := decide_eq_true (by omega)
      have HM := Aside0.mk (mvn_succ k y)
      generalize mvn k y = z at *
      clear hn1 hx1
      go_wp2_with (go_at_call 13; (with_reducible refine (moved_calls z _).mono ?_); rintro e w1 ⟨rfl, hd⟩; have HD1 := Aside0.mk (drawn_trans HD.out hd); clear hd HD)
      go_roundg k1
      case measure => omega
      case rel => exact ⟨k + 1, by rw [HM.out], by first | rfl | (congr 1; omega), by omega, by omega, HD1.out⟩
    · obtain rfl : k = 8 := by omega
      have hn2 := notI (mvn 8 y)
      generalize mvn 8 y = z at *
      clear hn1 hx1
      go_wp2
      go_ret
      exact ⟨by rw [HS.out]; rfl, HD.out⟩
theorem sumB_append (s : B) (l m : List Int) : sumB s (l ++ m) = sumB (sumB s l) m := List.foldl_append
theorem sumB_take (s : B) (l : List Int) (i : Nat) (h : i < l.length) : sumB s (l.take (i + 1)) = stepB (sumB s (l.take i)) (rd l (i : Int)) := by
  rw [List.take_succ_eq_append_getElem h, sumB_append]
  have : rd l (i : Int) = l[i] := by simp [rd, h]
  rw [this]; rfl
def Bytes (l : List Int) : Prop := ∀ x ∈ l, 0 ≤ x ∧ x ≤ 255
theorem bytes_rd {l : List Int} (h : Bytes l) {i : Nat} (hi : i < l.length) : 0 ≤ rd l (i : Int) ∧ rd l (i : Int) ≤ 255 := by
  have : rd l (i : Int) = l[i] := by simp [rd, hi]
  rw [this]; exact h _ (List.getElem_mem _)
set_option maxHeartbeats 8000000 in
set_option maxRecDepth 100000 in
theorem sum_calls (A : Option Addr) (c : Nat) (l : List Int) (w : World) (hC : Kd.C (Kd.int .u8) w A l.length l) (hc : l.length ≤ c) (hm : l.length ≤ 9223372036854775807) (hb : Aside0 (Bytes l)) (hT : Aside0 (Tab w)) : Calls Tryd.prog 8 #[.slice A l.length c] w fun e w' => e = .returned (.int .u32 (I (sumB 0#32 l))) ∧ Drawn0 w w' := by
  have HC := Aside0.mk hC
  clear hC
  have HL := Aside0.mk hm
  go_enter Tryd.func8, Tryd.ntmps8
  go_wp2
  go_loopg [3, 8] (l.length + 1) (fun kq v3 v8 w' => ∃ (i : Nat), v3 = .int .u32 (I (sumB 0#32 (l.take i))) ∧ v8 = .int .i64 (i : Int) ∧ i + kq = l.length + 1 ∧ i ≤ l.length ∧ Drawn0 w w')
  case atStart => exact ⟨0, rfl, rfl, by omega, by omega, Drawn0.refl _⟩
  case round =>
    obtain ⟨i, rfl, rfl, hk, hil, HD⟩ := hrel
    cases gk with
    | zero => exact absurd hk (by omega)
    | succ k1 =>
    by_cases hp : i < l.length
    · have hpb : decide ((i : Int) < (l.length : Int)) = true := decide_eq_true (by omega)
      obtain ⟨ad, rfl, hx⟩ := Kd.at_int HC.out (i : Int) (by omega) (by omega)
      have HB := Aside0.mk (bytes_rd hb.out hp)
      have HS := Aside0.mk (sumB_take 0#32 l i hp)
      have HT : Aside0 (Tab wr) := ⟨tab_drawn hT.out HD⟩
      replace hx : wr.cell? (ad.add (i : Int).toNat) = _ := (drawn_cell HD hx)
      replace HD := Aside0.mk HD
      rw [Int.toNat_natCast] at hx
      have hi0 : (0 : Int) ≤ (i : Int) := by omega
      have hi1 : (i : Int) < (l.length : Int) := by omega
      have hi2 : (i : Int) < 9223372036854775807 := by omega
      generalize rd l (i : Int) = X at *
      generalize sumB 0#32 (l.take i) = S at *
      go_wp2_with (go_at_call 10; (with_reducible refine (step_calls S X HB.out _ HT).mono ?_); rintro e w1 ⟨rfl, hd⟩; have HD1 := Aside0.mk (drawn_trans HD.out hd); clear hd HD HT hx)
      go_roundg k1
      case measure => omega
      case rel => exact ⟨i + 1, by rw [HS.out], by first | rfl | (congr 1; omega), by omega, by omega, HD1.out⟩
    · obtain rfl : i = l.length := by omega
      have hpb : decide ((l.length : Int) < (l.length : Int)) = false := decide_eq_false (by omega)
      rw [List.take_length]
      replace HD := Aside0.mk HD
      go_wp2
      go_ret
      exact ⟨rfl, HD.out⟩
end Go.Proofs.YtlinaloemppniaaDoor.PAll
