/- HuffmanBack's walk: symbols written by their codes, first bit first, are read back, each once. -/
import Derived.Test.YteamaaiicjjidaaBackW
namespace Go.Proofs.Yteamaaiicjjidaa.PAll
open Go.RowKit Go.Proofs.Yteamaaiicjjidaa.Huf Go.Proofs.YteamaaiicjjidaaW.PrintWords Go.Proofs.YteamaaiicjjidaaW.PrintLast Go.Proofs.YteamaaiicjjidaaW.PrintMore
attribute [local go_sem] max2_int min2_int max_two min_two max_three min_three max_four min_four   -- for this text's walks alone
set_option linter.unusedVariables false
set_option linter.unusedSimpArgs false
theorem or_bit2 {b k : Nat} (hk : k < 8) (hb : b < 2 ^ k) : Go.bits .or .u8 (b : Int) (2 ^ k % 256) = ((b + 2 ^ k : Nat) : Int) := by
  have h2 : 2 ^ k ≤ 2 ^ 7 := Nat.pow_le_pow_right (by omega) (by omega)
  have e7 : (2 : Nat) ^ 7 = 128 := by decide
  have e : (2 : Int) ^ k % 256 = ((2 ^ k : Nat) : Int) := by rw [← cast_pow]; omega
  rw [e]; exact or_bit hk hb
set_option maxHeartbeats 8000000 in
set_option maxRecDepth 100000 in
theorem back_walk (A : Option Addr) (c : Nat) (l : List Int) (AB : Option Addr) (cB : Nat) (lb : List Int) (W : World) (hr : Kd.C (Kd.int .i64) W A l.length l) (hc : l.length ≤ c) (hl : l.length * 8 ≤ 140737488355328)
    (hb : Kd.C (Kd.int .u16) W AB lb.length lb) (hwb : ∀ x ∈ lb, 0 ≤ x ∧ x ≤ 65535) :
    Calls Try.prog 6 #[.slice A l.length c, .slice AB lb.length cB] W fun e W' => e = .returned (.bool true) ∧ Below W.heap.size W W' := by
  have HR := Aside0.mk hr
  have HL := Aside0.mk hl
  have HLB := Aside0.mk hb
  have HWB := Aside0.mk hwb
  clear hr hl hc hb hwb
  go_enter Try.func6, Try.ntmps6
  go_wp2_with ((refine app_copy ?_ (.tmp 23) (.tmp 24) ?_ A c l ?_ ?_ HR.out HL.out ?_); (· rfl); (· rfl); (· rfl); (· rfl); intro A2 c2 w2 hown hC hlc hB; have HC2 := Aside0.mk hC; have HLC := Aside0.mk hlc; have HB2 := Aside0.mk hB; clear hown hC hlc hB)
  refine (new_calls A2 c2 l w2 HC2.out HLC.out).mono ?_
  rintro e w5 (⟨hne, rfl, hb⟩ | ⟨he0, g, cb, mb, rfl, ht, hb, hg1, hg2, hg3⟩)
  · have HB5 := Aside0.mk (below_step HB2.out hb)
    have hnb : (er l == 0) = false := beq_eq_false_iff_ne.2 hne
    have hnb2 : (er l != 0) = true := by simpa using hne
    clear HC2 HB2 hb
    generalize er l = E at *
    go_wp2_with (go_at_call 13; (with_reducible refine (awake_calls _).mono ?_); rintro e w8 ⟨rfl, hd⟩; have HB8 := Aside0.mk (below_step HB5.out hd); clear hd)
    go_ret
    exact ⟨rfl, HB8.out⟩
  · have HB5 := Aside0.mk (below_step HB2.out hb)
    have HO := Aside0.mk (er_ok he0)
    have HTT := Aside0.mk ht
    clear HC2 HB2 hb he0 hg1 hg2 hg3 ht
    by_cases hl0 : l.length = 0
    · have hz : ((l.length : Int) == 0) = true := beq_iff_eq.2 (by omega)
      have hz2 : l = [] := List.eq_nil_of_length_eq_zero hl0
      clear hl0
      go_wp2_with (go_at_call 13; (with_reducible refine (awake_calls _).mono ?_); rintro e w8 ⟨rfl, hd⟩; have HB8 := Aside0.mk (below_step HB5.out hd); clear hd)
      go_ret
      exact ⟨rfl, HB8.out⟩
    · have hz : ((l.length : Int) == 0) = false := beq_eq_false_iff_ne.2 (by omega)
      have hz2 : ¬ l = [] := fun e => hl0 (by rw [e]; rfl)
      go_wp2
      go_loopg [7, 8, 9] 301 (fun kq v7 v8 v9 w' => ∃ (i : Nat) (ws : List Nat) (A7 : Option Addr) (c7 : Nat) (A8 : Option Addr) (c8 : Nat), v7 = .slice A7 (lineOf l ws).length c7 ∧ v8 = .slice A8 ws.length c8 ∧ v9 = .int .i64 (i : Int) ∧ i + kq = 301 ∧ i ≤ 300 ∧ ws.length ≤ i ∧ (lineOf l ws).length ≤ 15 * i ∧ Aside0 (AllC l ws) ∧ Aside0 (BK w5 w' (lineOf l ws) ws A7 c7 A8 c8))
      case atStart => exact ⟨0, [], none, 0, none, 0, rfl, rfl, rfl, by omega, by omega, by simp, by simp [lineOf], ⟨fun s hs => by cases hs⟩, ⟨bk_nil w5⟩⟩
      case round =>
        obtain ⟨i, ws, A7, c7, A8, c8, rfl, rfl, rfl, hiq, hi300, hwl, hll, HAC, HBK⟩ := hrel
        cases gk with
        | zero => exact absurd hiq (by omega)
        | succ k1 =>
        by_cases h12 : i < lb.length ∧ i < 300
        · have h1 : decide ((i : Int) < (lb.length : Int)) = true := decide_eq_true (by omega)
          have h1n : decide (i < lb.length) = true := decide_eq_true h12.1
          have h2 : decide ((i : Int) < 300) = true := decide_eq_true (by omega)
          have h2n : decide (i < 300) = true := decide_eq_true h12.2
          have hi299 : i < 300 := h12.2
          obtain ⟨ad, rfl, hcell⟩ := Kd.at_int (Kd.C_below HLB.out (below_step HB5.out HBK.out.below)) (i : Int) (by omega) (by omega)
          rw [rd_at h12.1, Int.toNat_natCast] at hcell
          have hx := HWB.out _ (List.getElem_mem h12.1)
          obtain ⟨x, hxe⟩ : ∃ x : Nat, lb[i]'h12.1 = (x : Int) := ⟨(lb[i]'h12.1).toNat, by omega⟩
          rw [hxe] at hcell hx
          have hi0 : (0 : Int) ≤ (i : Int) := by omega
          have hi1 : (i : Int) < (lb.length : Int) := by omega
          have hlp : 0 < l.length := by omega
          obtain ⟨s, hs⟩ : ∃ s, s = x % l.length := ⟨_, rfl⟩
          have hsl : s < l.length := by rw [hs]; exact Nat.mod_lt _ hlp
          have hm1 : Int.tmod (x : Int) (l.length : Int) = (s : Int) := by rw [hs, Int.tmod_eq_emod_of_nonneg (by omega)]; exact (Int.natCast_emod _ _).symm
          have hm2 : (x : Int) % (l.length : Int) = (s : Int) := by rw [hs]; exact (Int.natCast_emod _ _).symm
          have HT1 := Aside0.mk (ht_below HTT.out HBK.out.below)
          have hx0 : (0 : Int) ≤ (x : Int) := by omega
          have hx1 : (x : Int) ≤ 65535 := hx.2
          clear hs hx hxe
          by_cases hp : 0 < l[s]
          · obtain ⟨n, hn⟩ : ∃ n : Nat, l[s] = (n : Int) := ⟨l[s].toNat, by omega⟩
            have HCA := Aside0.mk (code_at s HT1 hsl hp)
            rw [hn] at HCA
            have hln : ln l s = n := by rw [ln_of hsl, hn]; simp
            have hbd := cd_bound HO.out.1 HO.out.2.2 hsl hp
            rw [hln] at hbd
            have HCD : Aside0 (code l s = bts n (cd l s) ∧ n ≤ 15 ∧ cd l s < 32768 ∧ 0 < l[s]) := ⟨by rw [code_pos hsl hp, hln], hbd.1, by
              have h2 : 2 ^ n ≤ 2 ^ 15 := Nat.pow_le_pow_right (by omega) hbd.1
              have e15 : (2 : Nat) ^ 15 = 32768 := by decide
              omega, hp⟩
            have hn1 : 1 ≤ n := by omega
            have hn15 : n ≤ 15 := hbd.1
            obtain ⟨X, hX⟩ : ∃ X, cd l s = X := ⟨_, rfl⟩
            rw [hX] at HCA HCD
            have HW0 := Aside0.mk (show ws.length ≤ 1000000 by omega)
            clear hn hln hbd hX hp h12
            go_wp2_with (first
              | (go_at_call 14; (with_reducible refine (HCA.out).mono ?_); rintro e w6 ⟨rfl, hd⟩; have HBK1 := Aside0.mk (bk_below HBK.out hd.below); clear hd HBK HCA HT1)
              | ((refine bk_sym s HBK1.out HW0.out ?_ (.tmp 77) (.tmp 79) ?_ ?_ ?_ ?_); (· rfl); (· rfl); (· rfl); (· rfl); intro A8n c8n w7 hbk; have HBK2 := Aside0.mk hbk; clear hbk HBK1))
            go_loopg [7, 14] (n + 1) (fun kq v7 v14 w' => ∃ (k : Nat) (L : List Bool) (A7n : Option Addr) (c7n : Nat), v14 = .int .i64 ((k : Int) - 1) ∧ v7 = .slice A7n L.length c7n ∧ k + 1 = kq ∧ k ≤ n ∧ Aside0 (L = lineOf l ws ++ (bts n X).take (n - k)) ∧ L.length ≤ 5000 ∧ Aside0 (BK w5 w' L (ws ++ [s]) A7n c7n A8n c8n))
            case atStart => exact ⟨n, _, A7, c7, rfl, rfl, by omega, by omega, ⟨by simp⟩, by omega, HBK2⟩
            case round =>
              clear HBK2
              obtain ⟨k, L, A7n, c7n, rfl, rfl, hkq, hkn, HLL, hL5, HBK3⟩ := hrel
              cases gk with
              | zero => exact absurd hkq (by omega)
              | succ k3 =>
              by_cases hk : 0 < k
              · obtain ⟨j, hj⟩ : ∃ j, k = j + 1 := ⟨k - 1, by omega⟩
                have hkj : (k : Int) - 1 = (j : Int) := by omega
                have hjb : decide ((0 : Int) ≤ (j : Int)) = true := decide_eq_true (by omega)
                have HJ := Aside0.mk hj
                have HL6 := Aside0.mk (show L.length ≤ 1000000 by omega)
                clear hj
                go_wp2_with ((refine bk_bit _ HBK3.out HL6.out ?_ (.tmp 87) (.tmp 94) ?_ ?_ ?_ ?_); (· rfl); (· rfl); (· rfl); (· rfl); intro A7m c7m w8 hbk; have HBK4 := Aside0.mk hbk; clear hbk HBK3)
                go_roundg k3
                case measure => omega
                case rel => exact ⟨j, _, A7m, c7m, rfl, by rw [List.length_append]; rfl, by have := HJ.out; omega, by have := HJ.out; omega, ⟨by rw [HLL.out, bit_next HCD.out.2.2.1 HJ.out hkn, List.append_assoc]⟩, by rw [HLL.out, List.length_append, List.length_append, List.length_take, List.length_singleton]; omega, HBK4⟩
              · obtain rfl : k = 0 := by omega
                have hkb : decide ((0 : Int) ≤ -1) = false := by decide
                have hcl : (bts n X).length = n := bts_len n X
                have hLe : L = lineOf l (ws ++ [s]) := by rw [HLL.out, lineOf_snoc, HCD.out.1, List.take_of_length_le (by rw [hcl]; omega)]
                have HLE := Aside0.mk hLe
                have HAC2 := Aside0.mk (allC_snoc HAC.out hsl HCD.out.2.2.2)
                have hlen : L.length ≤ 15 * (i + 1) := by rw [HLL.out, List.length_append, List.length_take, hcl]; omega
                have HBK5 : Aside0 (BK w5 wr (lineOf l (ws ++ [s])) (ws ++ [s]) A7n c7n A8n c8n) := ⟨by rw [← HLE.out]; exact HBK3.out⟩
                clear hcl hLe HBK3
                go_wp2
                go_roundg k1
                case measure => omega
                case rel => exact ⟨i + 1, ws ++ [s], A7n, c7n, A8n, c8n, by rw [HLE.out], by rw [List.length_append]; rfl, by go_num, by omega, by omega, by rw [List.length_append, List.length_singleton]; omega, by rw [← HLE.out]; exact hlen, HAC2, HBK5⟩
          · have hz0 : l[s] = 0 := by have := ok_at HO.out.1 hsl; omega
            have HCA := Aside0.mk (code_zero s HT1 hsl hz0)
            clear hz0 hp h12
            go_wp2_with (go_at_call 14; (with_reducible refine (HCA.out).mono ?_); rintro e w6 ⟨rfl, hd⟩; have HBK1 := Aside0.mk (bk_below HBK.out hd.below); clear hd HBK HCA HT1)
            go_roundg k1
            case measure => omega
            case rel => exact ⟨i + 1, ws, A7, c7, A8, c8, rfl, rfl, by go_num, by omega, by omega, by omega, by omega, HAC, HBK1⟩
        · go_upto_region 7 with (fail)
          go_cut [57] (fun v57 wc => v57 = .bool false ∧ Aside0 (BK w5 wc (lineOf l ws) ws A7 c7 A8 c8))
          case first =>
            by_cases h1 : i < lb.length
            · have h1b : decide ((i : Int) < (lb.length : Int)) = true := decide_eq_true (by omega)
              have h1n : decide (i < lb.length) = true := decide_eq_true h1
              have h2 : decide ((i : Int) < 300) = false := decide_eq_false (by omega)
              have h2n : decide (i < 300) = false := decide_eq_false (by omega)
              go_wp2
              go_meet
              case rel => exact ⟨rfl, HBK⟩
            · have h1b : decide ((i : Int) < (lb.length : Int)) = false := decide_eq_false (by omega)
              have h1n : decide (i < lb.length) = false := decide_eq_false h1
              go_wp2
              go_meet
              case rel => exact ⟨rfl, HBK⟩
          case rest =>
            clear HBK
            obtain ⟨rfl, HBK⟩ := hcut
            have HLL := Aside0.mk (show (lineOf l ws).length ≤ 4500 ∧ ws.length ≤ 300 by omega)
            clear hiq hi300 hwl hll h12
            have HBW := Aside0.mk HBK.out.below
            go_wp2_with (go_at_call 16; (with_reducible refine (rdr_new w5 _ HBW).mono ?_); rintro e w7 ⟨r, rfl, hr7, hb7, hg7⟩; have HRR : Aside0 (Rdr w5 w7 r (val []) ([] : List Bool).length) := ⟨hr7⟩; have HBK1 := Aside0.mk (bk_below HBK.out hb7); clear hr7 hb7 hg7 HBK HBW)
            obtain ⟨L, hL⟩ : ∃ L, lineOf l ws = L := ⟨_, rfl⟩
            have HLQ := Aside0.mk hL
            rw [hL] at HBK1 HLL
            rw [hL]
            clear hL hl0
            go_loopg [16, 17] (L.length + 2) (fun kq v16 v17 w' => ∃ (j i got : Nat) (bs : List Bool), v16 = .int .i64 (got : Int) ∧ v17 = .int .i64 (i : Int) ∧ i = 8 * j ∧ j + kq = L.length + 2 ∧ j ≤ L.length + 1 ∧ Aside0 (RS l ws i got bs) ∧ Aside0 (Rdr w5 w' r (val bs) bs.length) ∧ Aside0 (BK w5 w' L ws A7 c7 A8 c8))
            case atStart => exact ⟨0, 0, 0, [], rfl, rfl, rfl, by omega, by omega, ⟨rs_zero HAC.out⟩, HRR, HBK1⟩
            case round =>
              clear HRR HBK1
              obtain ⟨j, i2, got, bs, rfl, rfl, hij, hjq, hjl, HRS, HRR, HBK⟩ := hrel
              cases gk with
              | zero => exact absurd hjq (by omega)
              | succ k4 =>
              have hLL := HLL.out.1
              by_cases hi : i2 < L.length
              · have hib : decide ((i2 : Int) < (L.length : Int)) = true := decide_eq_true (by omega)
                have hib2 : decide (i2 < L.length) = true := decide_eq_true hi
                have HIJ := Aside0.mk (show i2 = 8 * j ∧ j + (k4 + 1) = L.length + 2 ∧ i2 < L.length from ⟨hij, hjq, hi⟩)
                have hi5 : i2 ≤ 4500 := by omega
                clear hij hjq hi
                go_wp2
                go_loopg [18, 19] 9 (fun kq v18 v19 w' => ∃ k : Nat, v18 = .int .u8 (vb (L ++ List.replicate 8 false) i2 k : Int) ∧ v19 = .int .i64 (k : Int) ∧ k + kq = 9 ∧ k ≤ 8 ∧ Aside0 (Rdr w5 w' r (val bs) bs.length) ∧ Aside0 (BK w5 w' L ws A7 c7 A8 c8))
                case atStart => exact ⟨0, by rw [vb_zero]; rfl, rfl, by omega, by omega, HRR, HBK⟩
                case round =>
                  clear HRR HBK
                  obtain ⟨k, rfl, rfl, hkq, hk8, HRR, HBK⟩ := hrel
                  cases gk with
                  | zero => exact absurd hkq (by omega)
                  | succ k5 =>
                  by_cases hk : k < 8 ∧ i2 + k < L.length
                  · have hkb : decide ((k : Int) < 8) = true := decide_eq_true (by omega)
                    have hkb2 : decide (k < 8) = true := decide_eq_true hk.1
                    have hkc : decide ((i2 : Int) + (k : Int) < (L.length : Int)) = true := decide_eq_true (by omega)
                    obtain ⟨gA, rfl, hcl⟩ := bk_line HBK.out hk.2
                    have hvs := vb_step (E := L ++ List.replicate 8 false) (i := i2) (k := k) (by rw [List.length_append]; omega)
                    rw [List.getElem_append_left hk.2] at hvs
                    have hvl := vb_lt (L ++ List.replicate 8 false) i2 k
                    have hq0 : (0 : Int) ≤ (i2 : Int) + (k : Int) := by omega
                    have hq1 : (i2 : Int) + (k : Int) < (L.length : Int) := by omega
                    have hk7 : k < 8 := hk.1
                    cases hbit : L[i2 + k]'hk.2 with
                    | true =>
                      rw [hbit] at hcl hvs
                      have HVS : Aside0 (vb (L ++ List.replicate 8 false) i2 (k + 1) = vb (L ++ List.replicate 8 false) i2 k + 2 ^ k) := ⟨by rw [hvs]; simp⟩
                      have HOR := Aside0.mk (or_bit2 hk7 hvl)
                      generalize vb (L ++ List.replicate 8 false) i2 k = y at *
                      clear hvs hvl hbit hk
                      go_wp2
                      go_roundg k5
                      case measure => omega
                      case rel => exact ⟨k + 1, by rw [HVS.out, ← HOR.out], by go_num, by omega, by omega, HRR, HBK⟩
                    | false =>
                      rw [hbit] at hcl hvs
                      have HVS : Aside0 (vb (L ++ List.replicate 8 false) i2 (k + 1) = vb (L ++ List.replicate 8 false) i2 k) := ⟨by rw [hvs]; simp⟩
                      clear hvs hvl hbit hk
                      go_wp2
                      go_roundg k5
                      case measure => omega
                      case rel => exact ⟨k + 1, by rw [HVS.out], by go_num, by omega, by omega, HRR, HBK⟩
                  · have hve : vb (L ++ List.replicate 8 false) i2 k = vb (L ++ List.replicate 8 false) i2 8 := by
                      by_cases h8 : k = 8
                      · rw [h8]
                      · exact (vb_end (L := L) (i := i2) (k := k) (d := 8 - k) (by omega) (by omega) (by have := HIJ.out.2.2; omega)).symm
                    have hbb := byte_bits (L := L) (i := i2) HIJ.out.2.2
                    rw [hve]
                    have HPB := Aside0.mk (show bs.length ≤ 56 ∧ vb (L ++ List.replicate 8 false) i2 8 < 256 from ⟨by have := HRS.out.2.2.1 (by rw [HLQ.out]; exact HIJ.out.2.2); omega, hbb.2⟩)
                    have HRM := rs_put HRS.out (by rw [HLQ.out]; exact HIJ.out.2.2)
                    rw [HLQ.out] at HRM
                    have HRM2 := Aside0.mk HRM
                    generalize vb (L ++ List.replicate 8 false) i2 8 = y at *
                    clear hve hbb HRM
                    go_upto_region 24 with (fail)
                    go_cut [112] (fun v112 wc => v112 = .bool false ∧ Aside0 (Rdr w5 wc r (val bs) bs.length) ∧ Aside0 (BK w5 wc L ws A7 c7 A8 c8))
                    case first =>
                      by_cases h8 : k < 8
                      · have hkb : decide ((k : Int) < 8) = true := decide_eq_true (by omega)
                        have hkb2 : decide (k < 8) = true := decide_eq_true h8
                        have hkc : decide ((i2 : Int) + (k : Int) < (L.length : Int)) = false := decide_eq_false (by omega)
                        clear hk
                        go_wp2
                        go_meet
                        case rel => exact ⟨rfl, HRR, HBK⟩
                      · have hkb : decide ((k : Int) < 8) = false := decide_eq_false (by omega)
                        have hkb2 : decide (k < 8) = false := decide_eq_false h8
                        clear hk
                        go_wp2
                        go_meet
                        case rel => exact ⟨rfl, HRR, HBK⟩
                    case rest =>
                      clear HRR HBK hk hkq hk8
                      obtain ⟨rfl, HRR, HBK⟩ := hcut
                      go_wp2_with (go_at_call 20; (with_reducible refine (put_b y HRR HPB.out.1 HPB.out.2).mono ?_); rintro e w8 ⟨rfl, hr8, hk8⟩; have HBK8 := Aside0.mk (bk_keep HBK.out HRR.out hk8 hr8.2.1); have HRR8 := Aside0.mk hr8; clear hr8 hk8 HRR HBK)
                      generalize bs ++ bitsL y = cs at *
                      clear HPB
                      go_loopg [16, 20, 21] (ws.length - got + 1) (fun kq v16 v20 v21 w' => ∃ (n : Nat) (ds : List Bool), v16 = .int .i64 (n : Int) ∧ n + kq = ws.length + 1 ∧ Aside0 (RM l ws (i2 + 8) n ds) ∧ Aside0 (Rdr w5 w' r (val ds) ds.length) ∧ Aside0 (BK w5 w' L ws A7 c7 A8 c8))
                      case atStart => exact ⟨got, cs, rfl, by have := HRM2.out.1; omega, HRM2, HRR8, HBK8⟩
                      case round =>
                        clear HRM2 HRR8 HBK8
                        obtain ⟨n, ds, rfl, hnq, HRM, HRR, HBK⟩ := hrel
                        cases gk with
                        | zero => exact absurd hnq (by have := HRM.out.1; omega)
                        | succ k6 =>
                        by_cases hn : n < ws.length
                        · have hnb : decide ((n : Int) < (ws.length : Int)) = true := decide_eq_true (by omega)
                          have hnb2 : decide (n < ws.length) = true := decide_eq_true hn
                          have HTA := Aside0.mk (ht_below HTT.out HBK.out.below)
                          rcases rm_step HO.out.1 HO.out.2.2 HAC.out HRM.out hn with ⟨hh, hrm⟩ | ⟨hlk, hlt, hrs⟩
                          · obtain ⟨s, hs⟩ : ∃ s, ws[n] = s := ⟨_, rfl⟩
                            rw [hs] at hh hrm
                            have HLK : Aside0 (LookAt l ds s 0 (ln l s)) := ⟨.inl ⟨rfl, hh, rfl⟩⟩
                            have HRMN := Aside0.mk hrm
                            have HSS := Aside0.mk hs
                            have hse : ((s : Int) != (s : Int)) = false := bne_self_eq_false _
                            have hw3 : ws.length ≤ 300 := HLL.out.2
                            have hn0 : (0 : Int) ≤ (n : Int) := by omega
                            have hn1 : (n : Int) < (ws.length : Int) := by omega
                            clear hh hrm hs
                            go_wp2_with (go_at_call 17; (with_reducible refine (read_calls s 0 (ln l s) HTA HRR HO.out.1 HO.out.2.2 HO.out.2.1 HLK.out).mono ?_); rintro e w9 ⟨rfl, hr9, ht9, hk9⟩; have HBK9 := Aside0.mk (bk_keep HBK.out HRR.out hk9 hr9.2.1); have HRR9 := Aside0.mk hr9; clear hr9 ht9 hk9 HRR HBK HTA; obtain ⟨gW, hgW, hcw⟩ := bk_want HBK9.out hn; subst hgW; rw [HSS.out] at hcw)
                            go_roundg k6
                            case measure => omega
                            case rel => exact ⟨n + 1, _, by go_num, by omega, HRMN, HRR9, HBK9⟩
                          · have hib3 : decide ((i2 : Int) + 8 < (L.length : Int)) = true := decide_eq_true (by rw [HLQ.out] at hlt; omega)
                            have HLK := Aside0.mk hlk
                            have HRSN := Aside0.mk hrs
                            clear hlk hlt hrs hn
                            go_wp2_with (go_at_call 17; (with_reducible refine (read_calls 0 1 0 HTA HRR HO.out.1 HO.out.2.2 HO.out.2.1 HLK.out).mono ?_); rintro e w9 ⟨rfl, hr9, ht9, hk9⟩; have HBK9 := Aside0.mk (bk_keep HBK.out HRR.out hk9 hr9.2.1); have HRR9 : Aside0 (Rdr w5 w9 r (val ds) ds.length) := ⟨hr9⟩; clear hr9 ht9 hk9 HRR HBK HTA)
                            go_roundg k4
                            case measure => omega
                            case rel => exact ⟨j + 1, i2 + 8, n, ds, rfl, by go_num, by have := HIJ.out; omega, by have := HIJ.out; omega, by have := HIJ.out; omega, HRSN, HRR9, HBK9⟩
                        · have hnb : decide ((n : Int) < (ws.length : Int)) = false := decide_eq_false (by omega)
                          have hnb2 : decide (n < ws.length) = false := decide_eq_false hn
                          have hnw : n = ws.length := by have := HRM.out.1; omega
                          subst hnw
                          have HRSN := Aside0.mk (rm_end HRM.out).1
                          clear hn hnq
                          go_wp2
                          go_roundg k4
                          case measure => omega
                          case rel => exact ⟨j + 1, i2 + 8, ws.length, ds, rfl, by go_num, by have := HIJ.out; omega, by have := HIJ.out; omega, by have := HIJ.out; omega, HRSN, HRR, HBK⟩
              · have hib : decide ((i2 : Int) < (L.length : Int)) = false := decide_eq_false (by omega)
                have hib2 : decide (i2 < L.length) = false := decide_eq_false hi
                have hgg : got = ws.length := HRS.out.2.2.2 (by rw [HLQ.out]; omega)
                subst hgg
                have hwe : ((ws.length : Int) == (ws.length : Int)) = true := beq_self_eq_true _
                have HBX := Aside0.mk (below_step HB5.out HBK.out.below)
                go_wp2_with (go_at_call 13; (with_reducible refine (awake_calls _).mono ?_); rintro e w8 ⟨rfl, hd⟩; have HB8 := Aside0.mk (below_step HBX.out hd); clear hd)
                go_ret
                exact ⟨rfl, HB8.out⟩
theorem back_row (a0 : Option Addr) (len0 cap0 : Nat) (z0 : List Int) (a1 : Option Addr) (len1 cap1 : Nat) (z1 : List Int) (w : World) (w0 : (a0 = none ∧ len0 = 0 ∧ cap0 = 0 ∧ z0 = []) ∨ ∃ x, a0 = some x ∧ len0 ≤ cap0 ∧ cap0 ≤ maxLen ∧ z0.length = cap0 ∧ (∀ i, i < z0.length → w.cell? (x.add i) = some (.int .i64 (z0.getD i 0))) ∧ ∀ n ∈ z0, (Lit.int .i64 n).wf = true) (y0 : len0 * 8 ≤ 140737488351232) (w1 : (a1 = none ∧ len1 = 0 ∧ cap1 = 0 ∧ z1 = []) ∨ ∃ x, a1 = some x ∧ len1 ≤ cap1 ∧ cap1 ≤ maxLen ∧ z1.length = cap1 ∧ (∀ i, i < z1.length → w.cell? (x.add i) = some (.int .u16 (z1.getD i 0))) ∧ ∀ n ∈ z1, (Lit.int .u16 n).wf = true) (y1 : len1 * 2 ≤ 140737488351232) :
    Calls Try.prog 6 #[.slice a0 len0 cap0, .slice a1 len1 cap1] w fun e w' => e = .returned (.bool true) ∧ Below w.heap.size w w' := by
  obtain ⟨l0, rfl, hr0, hm0, hw0, hc0⟩ := ReadsInt.ofRowC w0
  obtain ⟨l1, rfl, hr1, hm1, hw1, hc1⟩ := ReadsInt.ofRowC w1
  have e1 : ∀ x ∈ l1, 0 ≤ x ∧ x ≤ 65535 := fun x hx => by simpa [Lit.wf, IntKind.min, IntKind.max, IntKind.signed, IntKind.bits] using hw1 x hx
  exact back_walk a0 cap0 l0 a1 cap1 l1 w (Kd.C_of_reads (enc := Value.int .i64) (d := (0 : Int)) (h1 := fun _ => rfl) hr0) hc0 (by omega) (Kd.C_of_reads (enc := Value.int .u16) (d := (0 : Int)) (h1 := fun _ => rfl) hr1) e1
end Go.Proofs.Yteamaaiicjjidaa.PAll
