/- The document's sum of a row of bytes; CrcSums. -/
import Derived.Test.YtlinaloemppniaaDoorStep
namespace Go.Proofs.YtlinaloemppniaaDoor.PAll
open Go.RowKit Go.Proofs.YtlinaloemppniaaDoor.Crc Go.Proofs.YtlinaloemppniaaDoor.CrcMath Go.Proofs.YtlinaloemppniaaDoorW.PrintWords Go.Proofs.YtlinaloemppniaaDoorW.PrintLast Go.Proofs.YtlinaloemppniaaDoorW.PrintMore
attribute [local go_sem] max2_int min2_int max_two min_two max_three min_three max_four min_four   -- for this text's walks alone
set_option linter.unusedVariables false
set_option linter.unusedSimpArgs false
abbrev Rd (W : World) (A : Option Addr) (l : List Int) : Prop := ReadsOf (Value.int .u8) 0 W A l.length l
theorem rd_drawn {W W' : World} {A : Option Addr} {l : List Int} (h : Rd W A l) (hd : Drawn0 W W') : Rd W' A l := by obtain ⟨n, rfl⟩ := hd; exact h
theorem sum_reads (A : Option Addr) (c : Nat) (l : List Int) (w : World) (hR : Aside0 (Rd w A l)) (hc : l.length ≤ c) (hm : l.length ≤ 9223372036854775807) (hb : Aside0 (Bytes l)) (hT : Aside0 (Tab w)) : Calls Tryd.prog 8 #[.slice A l.length c] w fun e w' => e = .returned (.int .u32 (I (sumB 0#32 l))) ∧ Drawn0 w w' :=
  sum_calls A c l w (Kd.C_of_reads (d := (0 : Int)) (h1 := fun _ => rfl) hR.out) hc hm hb hT
set_option maxHeartbeats 8000000 in
set_option maxRecDepth 100000 in
theorem rsum_calls (A : Option Addr) (c : Nat) (l : List Int) (w : World) (hR : Aside0 (Rd w A l)) (hc : l.length ≤ c) (hm : l.length ≤ 9223372036854775807) (hb : Aside0 (Bytes l)) : Calls Tryd.prog 9 #[.slice A l.length c] w fun e w' => e = .returned (.int .u32 (I (sumB 0#32 l))) ∧ Drawn0 w w' := by
  have HC : Aside0 (Kd.C (Kd.int .u8) w A l.length l) := ⟨Kd.C_of_reads (d := (0 : Int)) (h1 := fun _ => rfl) hR.out⟩
  have HL := Aside0.mk hm
  go_enter Tryd.func9, Tryd.ntmps9
  go_wp2
  go_loopg [3, 4] (l.length + 1) (fun kq v3 v4 w' => ∃ (i : Nat), v3 = .int .u32 (I (sumB 0#32 (l.take i))) ∧ v4 = .int .i64 (i : Int) ∧ i + kq = l.length + 1 ∧ i ≤ l.length ∧ Drawn0 w w')
  case atStart => exact ⟨0, rfl, rfl, by omega, by omega, Drawn0.refl _⟩
  case round =>
    obtain ⟨i, rfl, rfl, hk, hil, HD⟩ := hrel
    cases gk with
    | zero => exact absurd hk (by omega)
    | succ k1 =>
    by_cases hp : i < l.length
    · have hpb : decide ((i : Int) < (l.length : Int)) = true := decide_eq_true (by omega)
      obtain ⟨ad, rfl, hx⟩ := Kd.at_int HC.out (i : Int) (by omega) (by omega)
      have HB := Aside0.mk (bytes_rd hb.out hp)
      have HS := Aside0.mk (sumB_take 0#32 l i hp)
      replace hx : wr.cell? (ad.add (i : Int).toNat) = _ := (drawn_cell HD hx)
      replace HD := Aside0.mk HD
      rw [Int.toNat_natCast] at hx
      have hi0 : (0 : Int) ≤ (i : Int) := by omega
      have hi1 : (i : Int) < (l.length : Int) := by omega
      have hi2 : (i : Int) < 9223372036854775807 := by omega
      generalize rd l (i : Int) = X at *
      generalize sumB 0#32 (l.take i) = S at *
      go_wp2_with (go_at_call 11; (with_reducible refine (rstep_calls S X HB.out _).mono ?_); rintro e w1 ⟨rfl, hd⟩; have HD1 := Aside0.mk (drawn_trans HD.out hd); clear hd HD hx)
      go_roundg k1
      case measure => omega
      case rel => exact ⟨i + 1, by rw [HS.out], by first | rfl | (congr 1; omega), by omega, by omega, HD1.out⟩
    · obtain rfl : i = l.length := by omega
      have hpb : decide ((l.length : Int) < (l.length : Int)) = false := decide_eq_false (by omega)
      rw [List.take_length]
      replace HD := Aside0.mk HD
      go_wp2
      go_ret
      exact ⟨rfl, HD.out⟩
theorem byts (l : List Int) (h : ∀ x ∈ l, (Lit.int .u8 x).wf = true) : Bytes l := fun x hx => by
  simpa [Lit.wf, IntKind.min, IntKind.max, IntKind.signed, IntKind.bits] using h x hx
theorem byt {x : Int} (h : (Lit.int .u8 x).wf = true) : 0 ≤ x ∧ x ≤ 255 := by
  simpa [Lit.wf, IntKind.min, IntKind.max, IntKind.signed, IntKind.bits] using h
/-- an incoming row, as its row tells it. -/
def RowIn (w : World) (a0 : Option Addr) (len0 cap0 : Nat) (z0 : List Int) : Prop := (a0 = none ∧ len0 = 0 ∧ cap0 = 0 ∧ z0 = []) ∨ ∃ x, a0 = some x ∧ len0 ≤ cap0 ∧ cap0 ≤ maxLen ∧ z0.length = cap0 ∧ (∀ i, i < z0.length → w.cell? (x.add i) = some (.int .u8 (z0.getD i 0))) ∧ ∀ n ∈ z0, (Lit.int .u8 n).wf = true
theorem rowIn {w : World} {a0 : Option Addr} {len0 cap0 : Nat} {z0 : List Int} (h : RowIn w a0 len0 cap0 z0) : ∃ l : List Int, len0 = l.length ∧ Rd w a0 l ∧ l.length ≤ cap0 ∧ Bytes l ∧ l.length ≤ 9223372036854775807 := by
  obtain ⟨l0, rfl, hr0, hm0, hw0, hc0⟩ := ReadsInt.ofRowC h
  exact ⟨l0, rfl, hr0, hc0, byts l0 hw0, Nat.le_trans hm0 (by decide)⟩
theorem a_step : I (stepB 0#32 97) = 3904355907 := by decide
set_option maxHeartbeats 8000000 in
set_option maxRecDepth 100000 in
theorem sums_bits (A : Option Addr) (c : Nat) (l : List Int) (s : B) (x : Int) (w : World) (hR : Aside0 (Rd w A l)) (hc : l.length ≤ c) (hm : l.length ≤ 9223372036854775807) (hb : Aside0 (Bytes l)) (hx : 0 ≤ x ∧ x ≤ 255) (hT : Aside0 (Tab w)) : Calls Tryd.prog 3 #[.slice A l.length c, .int .u32 (I s), .int .u8 x] w fun e w' => e = .returned (.bool true) ∧ Below w.heap.size w w' := by
  have hxx : (I (sumB 0#32 l) == I (sumB 0#32 l)) = true := beq_self_eq_true _
  have hss : (I (stepB s x) == I (stepB s x)) = true := beq_self_eq_true _
  have H1 := Aside0.mk (sum_reads A c l w hR hc hm hb hT)
  have H2 := Aside0.mk (fun W hr => rsum_calls A c l W hr hc hm hb)
  have H3 := Aside0.mk (fun W ht => step_calls s x hx W ht)
  have H4 := Aside0.mk (fun W => rstep_calls s x hx W)
  have H5 := Aside0.mk (fun W ht => step_calls 0#32 97 (by omega) W ht)
  rw [a_step, show I 0#32 = 0 from rfl] at H5
  generalize sumB 0#32 l = X at *
  generalize stepB s x = Y at *
  clear hx hm
  go_enter Tryd.func3, Tryd.ntmps3
  go_wp2_with (first
    | (go_at_call 8; (with_reducible refine (H1.out).mono ?_); rintro e w1 ⟨rfl, hd⟩; have HD1 := Aside0.mk hd; have HR1 := Aside0.mk (rd_drawn hR.out hd); clear hd H1)
    | (go_at_call 9; (with_reducible refine (H2.out _ HR1).mono ?_); rintro e w2 ⟨rfl, hd⟩; have HD2 := Aside0.mk (drawn_trans HD1.out hd); have HT2 := Aside0.mk (tab_drawn hT.out HD2.out); clear hd H2 HD1)
    | (go_at_call 10; (with_reducible refine (H3.out _ HT2).mono ?_); rintro e w3 ⟨rfl, hd⟩; have HD3 := Aside0.mk (drawn_trans HD2.out hd); clear hd H3 HD2 HT2)
    | (go_at_call 11; (with_reducible refine (H4.out _).mono ?_); rintro e w4 ⟨rfl, hd⟩; have HD4 := Aside0.mk (drawn_trans HD3.out hd); have HT4 := Aside0.mk (tab_drawn hT.out HD4.out); clear hd H4 HD3)
    | (go_at_call 10; (with_reducible refine (H5.out _ HT4).mono ?_); rintro e w5 ⟨rfl, hd⟩; have HD5 := Aside0.mk (drawn_trans HD4.out hd); clear hd H5 HD4 HT4))
  go_ret
  exact ⟨rfl, HD5.out.below⟩
theorem sums_walk (a0 : Option Addr) (len0 cap0 : Nat) (z0 : List Int) (s x : Int) (w : World) (w0 : RowIn w a0 len0 cap0 z0) (y0 : len0 * 1 ≤ 140737488351232) (ws : (Lit.int .u32 s).wf = true) (wx : (Lit.int .u8 x).wf = true) (hT : Tab w) :
    Calls Tryd.prog 3 #[.slice a0 len0 cap0, .int .u32 s, .int .u8 x] w fun e w' => e = .returned (.bool true) ∧ Below w.heap.size w w' := by
  obtain ⟨s, rfl⟩ := u32_I ws
  obtain ⟨l, rfl, hr, hc, hb, hm⟩ := rowIn w0
  exact sums_bits a0 cap0 l s x w ⟨hr⟩ hc hm ⟨hb⟩ (byt wx) ⟨hT⟩
end Go.Proofs.YtlinaloemppniaaDoor.PAll
