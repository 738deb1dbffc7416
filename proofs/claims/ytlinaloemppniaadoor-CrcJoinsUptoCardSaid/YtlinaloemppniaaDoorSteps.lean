/- CrcSteps: a sum that goes on byte by byte is the sum of all bytes. -/
import Derived.Test.YtlinaloemppniaaDoorSums
namespace Go.Proofs.YtlinaloemppniaaDoor.PAll
open Go.RowKit Go.Proofs.YtlinaloemppniaaDoor.Crc Go.Proofs.YtlinaloemppniaaDoor.CrcMath Go.Proofs.YtlinaloemppniaaDoorW.PrintWords Go.Proofs.YtlinaloemppniaaDoorW.PrintLast Go.Proofs.YtlinaloemppniaaDoorW.PrintMore
attribute [local go_sem] max2_int min2_int max_two min_two max_three min_three max_four min_four   -- for this text's walks alone
set_option linter.unusedVariables false
set_option linter.unusedSimpArgs false
theorem info5 : (Tryd.prog.info? 5).map (fun i => (i.zero, i.size, i.bytes)) = some (some (.int .u8 0), 1, 1) := by kernel_rfl
theorem rd_lit (W : World) (l : List Int) (hl : l.length ≤ 9223372036854775807) : Rd (W.alloc (.cells (encs (Value.int .u8) l).toArray 5)) (some ⟨W.heap.size, 0, none⟩) l := own_reads_of' (own_lit_of W 0 5 l (Nat.zero_le _) hl)
theorem tab_alloc {W : World} (h : Tab W) (o : Obj) : Tab (W.alloc o) := tab_below h (below_alloc (Below.refl W.heap.size W) o) rfl
theorem lit_sum (l : List Int) (hl : l.length ≤ 9223372036854775807) (hb : Aside0 (Bytes l)) (W : World) (hT : Aside0 (Tab W)) : Calls Tryd.prog 8 #[.slice (some ⟨W.heap.size, 0, none⟩) l.length l.length] (W.alloc (.cells (encs (Value.int .u8) l).toArray 5)) fun e w' => e = .returned (.int .u32 (I (sumB 0#32 l))) ∧ Below W.heap.size W w' :=
  (sum_reads _ l.length l _ ⟨rd_lit W l hl⟩ (Nat.le_refl _) hl hb ⟨tab_alloc hT.out _⟩).mono fun e w' ⟨he, hd⟩ => ⟨he, by
    obtain ⟨n, rfl⟩ := hd
    exact pw_below_drewN (below_alloc (Below.refl _ _) _) n⟩
theorem sum_zero : I (sumB 0#32 [0]) = 3523407757 := by decide
theorem lit0 (W : World) (hT : Aside0 (Tab W)) : Calls Tryd.prog 8 #[.slice (some ⟨W.heap.size, 0, none⟩) 1 1] (W.alloc (.cells #[.int .u8 0] 5)) fun e w' => e = .returned (.int .u32 3523407757) ∧ Below W.heap.size W w' := by
  have := lit_sum [0] (by decide) ⟨by intro x hx; simp at hx; omega⟩ W hT
  rw [sum_zero] at this
  exact this
set_option maxHeartbeats 8000000 in
set_option maxRecDepth 100000 in
theorem steps_bits (A : Option Addr) (c : Nat) (l : List Int) (at_ : Int) (w : World) (hR : Aside0 (Rd w A l)) (hc : l.length ≤ c) (hm : l.length ≤ 140737488351232) (hb : Aside0 (Bytes l)) (ha : 0 ≤ at_ ∧ at_ ≤ 65535) (hT : Aside0 (Tab w)) : Calls Tryd.prog 4 #[.slice A l.length c, .int .u16 at_] w fun e w' => e = .returned (.bool true) ∧ Below w.heap.size w w' := by
  have hxx : (I (sumB 0#32 l) == I (sumB 0#32 l)) = true := beq_self_eq_true _
  obtain ⟨K, htm, hK⟩ : ∃ K : Nat, Int.tmod at_ ((l.length : Int) + 1) = (K : Int) ∧ K ≤ l.length := by
    rw [Int.tmod_eq_emod_of_nonneg ha.1]
    have h1 := Int.emod_nonneg at_ (show (l.length : Int) + 1 ≠ 0 by omega)
    have h2 := Int.emod_lt_of_pos at_ (show (0 : Int) < (l.length : Int) + 1 by omega)
    exact ⟨(at_ % ((l.length : Int) + 1)).toNat, by omega, by omega⟩
  obtain ⟨i0, hi, _, hsz, _⟩ := info_parts info5
  obtain ⟨htk, htR, _⟩ := print_take_of (P := Tryd.prog) (Value.int .u8) (0 : Int) 22 5 .i64 Tryd.underlying22 hi hsz A c l (K : Int) (by omega) (by omega) hc
  rw [Int.toNat_natCast] at htk htR
  have hq : (l.take K).length = K := by rw [List.length_take]; omega
  have hbt : Bytes (l.take K) := fun x hx => hb.out x (List.mem_of_mem_take hx)
  have h1 := sum_reads A c (l.take K) w ⟨htR w hR.out⟩ (by omega) (by omega) ⟨hbt⟩ hT
  rw [hq] at h1 htk
  have H1 := Aside0.mk h1
  have H2 := Aside0.mk (fun W hr ht => sum_reads A c l W hr hc (by omega) hb ht)
  clear h1 hi hsz htR hq hbt
  have hl0 : (l.length : Int) + 1 ≠ 0 := by omega
  have ha0 := ha.1
  have ha1 := ha.2
  have hne0 : ((l.length : Int) + 1 == 0) = false := beq_eq_false_iff_ne.2 hl0
  have hwa : IntKind.i64.wrap at_ = at_ := by simp [IntKind.wrap, IntKind.bits, IntKind.signed]; omega
  have hC : Aside0 (Kd.C (Kd.int .u8) w A l.length l) := ⟨Kd.C_of_reads (d := (0 : Int)) (h1 := fun _ => rfl) hR.out⟩
  go_enter Tryd.func4, Tryd.ntmps4
  go_wp2_with (go_at_call 8; (with_reducible refine (H1.out).mono ?_); rintro e w1 ⟨rfl, hd⟩; have HD1 := Aside0.mk hd; clear hd H1)
  go_loopg [6, 7] (l.length + 1 - K) (fun kq v6 v7 w' => ∃ (i : Nat), v6 = .int .u32 (I (sumB 0#32 (l.take i))) ∧ v7 = .int .i64 (i : Int) ∧ i + kq = l.length + 1 ∧ i ≤ l.length ∧ Drawn0 w w')
  case atStart => exact ⟨K, rfl, rfl, by omega, by omega, HD1.out⟩
  case round =>
    clear HD1 htk htm hwa hne0
    obtain ⟨i, rfl, rfl, hk, hil, HD⟩ := hrel
    cases gk with
    | zero => exact absurd hk (by omega)
    | succ k1 =>
    by_cases hp : i < l.length
    · have hpb : decide ((i : Int) < (l.length : Int)) = true := decide_eq_true (by omega)
      obtain ⟨ad, rfl, hx⟩ := Kd.at_int hC.out (i : Int) (by omega) (by omega)
      have HB := Aside0.mk (bytes_rd hb.out hp)
      have HS := Aside0.mk (sumB_take 0#32 l i hp)
      have HT : Aside0 (Tab wr) := ⟨tab_drawn hT.out HD⟩
      replace hx : wr.cell? (ad.add (i : Int).toNat) = _ := (drawn_cell HD hx)
      replace HD := Aside0.mk HD
      rw [Int.toNat_natCast] at hx
      have hi0 : (0 : Int) ≤ (i : Int) := by omega
      have hi1 : (i : Int) < (l.length : Int) := by omega
      have hi2 : (i : Int) < 9223372036854775807 := by omega
      generalize rd l (i : Int) = X at *
      generalize sumB 0#32 (l.take i) = S at *
      go_wp2_with (go_at_call 10; (with_reducible refine (step_calls S X HB.out _ HT).mono ?_); rintro e w1 ⟨rfl, hd⟩; have HD1 := Aside0.mk (drawn_trans HD.out hd); clear hd HD HT hx)
      go_roundg k1
      case measure => omega
      case rel => exact ⟨i + 1, by rw [HS.out], by first | rfl | (congr 1; omega), by omega, by omega, HD1.out⟩
    · obtain rfl : i = l.length := by omega
      have hpb : decide ((l.length : Int) < (l.length : Int)) = false := decide_eq_false (by omega)
      rw [List.take_length]
      have HT : Aside0 (Tab wr) := ⟨tab_drawn hT.out HD⟩
      have HR : Aside0 (Rd wr A l) := ⟨rd_drawn hR.out HD⟩
      replace HD := Aside0.mk HD
      go_wp2_with (first
        | (go_at_call 8; (with_reducible refine (H2.out _ HR HT).mono ?_); rintro e w2 ⟨rfl, hd⟩; have HT2 := Aside0.mk (tab_drawn HT.out hd); have HD2 := Aside0.mk (drawn_trans HD.out hd); clear hd HD)
        | (go_at_call 8; (with_reducible refine (lit0 _ HT2).mono ?_); rintro e w3 ⟨rfl, hb3⟩; have HB3 := Aside0.mk (below_step HD2.out.below hb3); clear hb3 HD2))
      go_ret
      exact ⟨rfl, HB3.out⟩
theorem steps_walk (a0 : Option Addr) (len0 cap0 : Nat) (z0 : List Int) (x : Int) (w : World) (w0 : RowIn w a0 len0 cap0 z0) (y0 : len0 * 1 ≤ 140737488351232) (wx : (Lit.int .u16 x).wf = true) (hT : Tab w) :
    Calls Tryd.prog 4 #[.slice a0 len0 cap0, .int .u16 x] w fun e w' => e = .returned (.bool true) ∧ Below w.heap.size w w' := by
  obtain ⟨l, rfl, hr, hc, hb, hm⟩ := rowIn w0
  exact steps_bits a0 cap0 l x w ⟨hr⟩ hc (by omega) ⟨hb⟩ (by simpa [Lit.wf, IntKind.min, IntKind.max, IntKind.signed, IntKind.bits] using wx) ⟨hT⟩
end Go.Proofs.YtlinaloemppniaaDoor.PAll
