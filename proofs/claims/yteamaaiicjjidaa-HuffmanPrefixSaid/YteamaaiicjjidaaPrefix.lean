/- HuffmanPrefix's walk: no symbol's code begins another one's, and codes of one length rise by one. -/
import Derived.Test.YteamaaiicjjidaaCopy
namespace Go.Proofs.Yteamaaiicjjidaa.PAll
open Go.RowKit Go.Proofs.Yteamaaiicjjidaa.Huf Go.Proofs.YteamaaiicjjidaaW.PrintWords Go.Proofs.YteamaaiicjjidaaW.PrintLast Go.Proofs.YteamaaiicjjidaaW.PrintMore
attribute [local go_sem] max2_int min2_int max_two min_two max_three min_three max_four min_four   -- for this text's walks alone
set_option linter.unusedVariables false
set_option linter.unusedSimpArgs false
/-- the last code of a length among the first j symbols, or -1. -/
def LS (l : List Int) (n j : Nat) : Int := if ct (l.take j) n = 0 then -1 else ((fs l n + ct (l.take j) n : Nat) : Int) - 1
theorem LS_zero (l : List Int) (n : Nat) : LS l n 0 = -1 := by unfold LS; rw [List.take_zero, ct_nil, if_pos rfl]
theorem LS_hit {l : List Int} {n j : Nat} (h : j < l.length) (hn : l[j] = (n : Int)) (h0 : 0 < l[j]) : LS l n (j + 1) = (cd l j : Int) := by
  have hl : ln l j = n := by rw [ln_of h, hn]; simp
  have h1 := ct_take_succ l j n h
  rw [if_pos ⟨h0, hn⟩] at h1
  unfold LS cd
  rw [if_neg (by omega), hl, h1]; omega
theorem LS_miss {l : List Int} {n j : Nat} (h : j < l.length) (hn : ¬ (0 < l[j] ∧ l[j] = (n : Int))) : LS l n (j + 1) = LS l n j := by
  unfold LS
  rw [ct_take_succ l j n h, if_neg hn]; rfl
theorem LS_end {l : List Int} {n i : Nat} (hl : ln l i = n) : LS l n i = -1 ∨ (0 ≤ LS l n i ∧ LS l n i + 1 = (cd l i : Int)) := by
  unfold LS cd
  rw [hl]
  by_cases h : ct (l.take i) n = 0
  · left; rw [if_pos h]
  · right; rw [if_neg h]; omega
theorem shl_test {n x : Nat} (h : n ≤ 15) (hx : x < 2 ^ n) : decide (IntKind.u64.wrap (2 ^ min (IntKind.u64.wrap (n : Int)).toNat 64) ≤ IntKind.u64.wrap (x : Int)) = false := by
  refine decide_eq_false ?_
  rw [w64 (n : Int) (by omega) (by omega), Int.toNat_natCast, Nat.min_eq_left (by omega)]
  have e := cast_pow n
  have h2 : 2 ^ n ≤ 2 ^ 15 := Nat.pow_le_pow_right (by omega) h
  have e15 : (2 : Nat) ^ 15 = 32768 := by decide
  rw [← e, w64 _ (by omega) (by omega), w64 (x : Int) (by omega) (by omega)]
  omega
theorem shr_ne {x y n m : Nat} (hm : m ≤ n) (hn : n ≤ 15) (h : x / 2 ^ (n - m) ≠ y) : ((x : Int) / 2 ^ min (IntKind.u64.wrap (wrap64 ((n : Int) - (m : Int)))).toNat 32 == (y : Int)) = false ∧ ¬ ((x : Int) / 2 ^ min (IntKind.u64.wrap (wrap64 ((n : Int) - (m : Int)))).toNat 32 = (y : Int)) := by
  have e : IntKind.u64.wrap (wrap64 ((n : Int) - (m : Int))) = ((n - m : Nat) : Int) := by
    rw [w64 _ (by unfold wrap64; omega) (by unfold wrap64; omega)]
    unfold wrap64; omega
  have h2 : ¬ ((x : Int) / 2 ^ min (IntKind.u64.wrap (wrap64 ((n : Int) - (m : Int)))).toNat 32 = (y : Int)) := by
    rw [e, Int.toNat_natCast, Nat.min_eq_left (by omega), ← cast_pow]
    intro hc
    apply h
    rw [← Int.natCast_ediv] at hc
    exact Int.ofNat.inj hc
  exact ⟨beq_eq_false_iff_ne.2 h2, h2⟩
theorem shr_test {d y : Nat} (h : d ≤ 15) : y / 2 ^ min (IntKind.u64.wrap (d : Int)).toNat 32 = y / 2 ^ d := by
  rw [w64 (d : Int) (by omega) (by omega), Int.toNat_natCast, Nat.min_eq_left (by omega)]
set_option maxHeartbeats 8000000 in
set_option maxRecDepth 100000 in
theorem prefix_walk (A : Option Addr) (c : Nat) (l : List Int) (W : World) (hr : Kd.C (Kd.int .i64) W A l.length l) (hc : l.length ≤ c) (hl : l.length * 8 ≤ 140737488355328) :
    Calls Try.prog 4 #[.slice A l.length c] W fun e W' => e = .returned (.bool true) ∧ Below W.heap.size W W' := by
  have HR := Aside0.mk hr
  have HL := Aside0.mk hl
  clear hr hl
  go_enter Try.func4, Try.ntmps4
  go_wp2_with ((refine app_copy ?_ (.tmp 15) (.tmp 16) ?_ A c l ?_ ?_ HR.out HL.out ?_); (· rfl); (· rfl); (· rfl); (· rfl); intro A2 c2 w2 hown hC hlc hB; have HC2 := Aside0.mk hC; have HLC := Aside0.mk hlc; have HB2 := Aside0.mk hB; clear hown hC hlc hB)
  refine (new_calls A2 c2 l w2 HC2.out HLC.out).mono ?_
  rintro e w3 (⟨hne, rfl, hb⟩ | ⟨he0, g, cb, mb, rfl, ht, hb, hg1, hg2, hg3⟩)
  · have HB3 := Aside0.mk (below_step HB2.out hb)
    clear HC2 HB2 hb
    have hnb : (er l == 0) = false := beq_eq_false_iff_ne.2 hne
    have hnb2 : (er l != 0) = true := by simpa using hne
    generalize er l = E at *
    go_wp2_with ((go_at_call 13; (with_reducible refine (awake_calls _).mono ?_); rintro e w4 ⟨rfl, hd⟩; have HB4 := Aside0.mk (below_step HB3.out hd); clear hd))
    go_ret
    exact ⟨rfl, HB4.out⟩
  · have HB3 := Aside0.mk (below_step HB2.out hb)
    have HTT := Aside0.mk ht
    have HO := Aside0.mk (er_ok he0)
    have HG := Aside0.mk hg1
    clear HC2 HB2 hb ht he0 hg1 hg2 hg3
    go_wp2
    go_loopg [5] (l.length + 1) (fun kq v5 w' => ∃ k : Nat, v5 = .int .i64 (k : Int) ∧ k + kq = l.length + 1 ∧ k ≤ l.length ∧ Aside0 (HT w' g cb mb l) ∧ Aside0 (Below W.heap.size W w'))
    case atStart => exact ⟨0, rfl, by omega, by omega, HTT, HB3⟩
    case round =>
      clear HTT HB3
      obtain ⟨k, rfl, hkq, hkl, HTT, HB⟩ := hrel
      cases gk with
      | zero => exact absurd hkq (by omega)
      | succ k1 =>
      have hl320 := HO.out.2.1
      by_cases hlt : k < l.length
      · have hb : decide ((k : Int) < (l.length : Int)) = true := decide_eq_true (by omega)
        obtain ⟨ad, rfl, hcell⟩ := Kd.at_int (Kd.C_below HR.out HB.out) (k : Int) (by omega) (by omega)
        rw [rd_at hlt, Int.toNat_natCast] at hcell
        obtain ⟨o0, o1⟩ := ok_at HO.out.1 hlt
        have hk0 : (0 : Int) ≤ (k : Int) := by omega
        have hk1 : (k : Int) < (l.length : Int) := by omega
        by_cases hp : 0 < l[k]
        · obtain ⟨n, hn⟩ : ∃ n : Nat, l[k] = (n : Int) := ⟨l[k].toNat, by omega⟩
          have hln : ln l k = n := by rw [ln_of hlt, hn]; simp
          have hbd := cd_bound HO.out.1 HO.out.2.2 hlt hp
          rw [hln] at hbd
          have hn1 : 0 < n := by omega
          have HCT := Aside0.mk (code_at k HTT hlt hp)
          rw [hn] at HCT hcell
          have HX : Aside0 (l[k] = (n : Int) ∧ 0 < l[k] ∧ ln l k = n ∧ n ≤ 15 ∧ cd l k < 2 ^ n) := ⟨hn, hp, hln, hbd⟩
          obtain ⟨x, hx⟩ : ∃ x, cd l k = x := ⟨_, rfl⟩
          rw [hx] at HCT
          have hst := shl_test hbd.1 (by rw [← hx]; exact hbd.2 : x < 2 ^ n)
          have HXX := Aside0.mk hx
          clear hn hp o0 o1 hln hx hbd
          go_wp2_with (go_at_call 14; (refine (HCT.out).mono ?_); rintro e w4 ⟨rfl, hd⟩; have hc4 : w4.cell? (ad.add k) = some (.int .i64 (n : Int)) := (by obtain ⟨⟨n4, rfl⟩⟩ := hd; exact hcell); have HT4 := Aside0.mk (ht_below HTT.out hd.below); have HB4 := Aside0.mk (below_step HB.out hd.below); clear hd HTT HB HCT)
          clear hc4 hst
          go_loopg [9, 10] (k + 1) (fun kq v9 v10 w' => ∃ j : Nat, v10 = .int .i64 (j : Int) ∧ v9 = .int .i64 (LS l n j) ∧ j + kq = k + 1 ∧ j ≤ k ∧ Aside0 (HT w' g cb mb l) ∧ Aside0 (Below W.heap.size W w'))
          case atStart => exact ⟨0, rfl, by rw [LS_zero], by omega, by omega, HT4, HB4⟩
          case round =>
            clear HT4 HB4
            obtain ⟨j, rfl, rfl, hjq, hjk, HTJ, HBJ⟩ := hrel
            cases gk with
            | zero => exact absurd hjq (by omega)
            | succ k2 =>
            by_cases hj : j < k
            · have hjb : decide ((j : Int) < (k : Int)) = true := decide_eq_true (by omega)
              have hjl : j < l.length := by omega
              obtain ⟨o0, o1⟩ := ok_at HO.out.1 hjl
              by_cases hjp : 0 < l[j]
              · obtain ⟨m, hm⟩ : ∃ m : Nat, l[j] = (m : Int) := ⟨l[j].toNat, by omega⟩
                have hlm : ln l j = m := by rw [ln_of hjl, hm]; simp
                have HCJ := Aside0.mk (code_at j HTJ hjl hjp)
                obtain ⟨y, hy⟩ : ∃ y, cd l j = y := ⟨_, rfl⟩
                have hbj := cd_bound HO.out.1 HO.out.2.2 hjl hjp
                rw [hy, hlm] at hbj
                rw [hm, hy] at HCJ
                have hm15 : m ≤ 15 := hbj.1
                rcases Nat.lt_trichotomy m n with hmn | hmn | hmn
                · have hb1 : ((m : Int) == (n : Int)) = false := beq_eq_false_iff_ne.2 (by omega)
                  have hb2 : decide ((m : Int) ≤ (n : Int)) = true := decide_eq_true (by omega)
                  have hb3 : decide ((n : Int) < (m : Int)) = false := decide_eq_false (by omega)
                  have hb4 : decide (m ≤ n) = true := decide_eq_true (by omega)
                  have hb5 : decide (n < m) = false := decide_eq_false (by omega)
                  have HLS := Aside0.mk (LS_miss (n := n) hjl (by omega))
                  have hnp := no_prefix (t := k) hjl hjp (by rw [hlm, HX.out.2.2.1]; exact hmn)
                  rw [hlm, HX.out.2.2.1, HXX.out, hy] at hnp
                  obtain ⟨t1, t2⟩ := shr_ne (x := x) (y := y) (Nat.le_of_lt hmn) HX.out.2.2.2.1 (by omega)
                  clear hm hjp o0 o1 hnp hlm hy hbj hmn hm15
                  go_wp2_with (go_at_call 14; (refine (HCJ.out).mono ?_); rintro e w5 ⟨rfl, hd⟩; have HT5 := Aside0.mk (ht_below HTJ.out hd.below); have HB5 := Aside0.mk (below_step HBJ.out hd.below); clear hd HTJ HBJ HCJ)
                  go_roundg k2
                  case measure => omega
                  case rel => exact ⟨j + 1, by go_num, by rw [HLS.out], by omega, by omega, HT5, HB5⟩
                · subst hmn
                  have hb1 : ((m : Int) == (m : Int)) = true := beq_self_eq_true _
                  have hb2 : decide ((m : Int) ≤ (m : Int)) = true := decide_eq_true (by omega)
                  have hb3 : decide ((m : Int) < (m : Int)) = false := decide_eq_false (by omega)
                  have hb4 : decide (m ≤ m) = true := decide_eq_true (by omega)
                  have hb5 : decide (m < m) = false := decide_eq_false (by omega)
                  have HLS := Aside0.mk (LS_hit hjl hm hjp)
                  rw [hy] at HLS
                  have hxy : x ≠ y := fun e => by
                    have := cd_inj hjl hlt hjp HX.out.2.1 (by rw [hlm, HX.out.2.2.1]) (by rw [hy, HXX.out, e])
                    omega
                  obtain ⟨t1, t2⟩ := shr_ne (x := x) (y := y) (Nat.le_refl m) hm15 (by simpa using hxy)
                  have hxyb : ((x : Int) == (y : Int)) = false := beq_eq_false_iff_ne.2 (by omega)
                  have hxyc : ¬ ((x : Int) = (y : Int)) := by omega
                  have hy63 : y < 32768 := by
                    have h2 : 2 ^ m ≤ 2 ^ 15 := Nat.pow_le_pow_right (by omega) hm15
                    have e15 : (2 : Nat) ^ 15 = 32768 := by decide
                    omega
                  have hyw : IntKind.i64.wrap (y : Int) = (y : Int) := by simp [IntKind.wrap, IntKind.bits, IntKind.signed]; omega
                  have hyw2 : wrap64 (y : Int) = (y : Int) := by unfold wrap64; omega
                  clear hm hjp o0 o1 hlm hy hbj hm15 hxy hy63
                  go_wp2_with (go_at_call 14; (refine (HCJ.out).mono ?_); rintro e w5 ⟨rfl, hd⟩; have HT5 := Aside0.mk (ht_below HTJ.out hd.below); have HB5 := Aside0.mk (below_step HBJ.out hd.below); clear hd HTJ HBJ HCJ)
                  go_roundg k2
                  case measure => omega
                  case rel => exact ⟨j + 1, by go_num, by rw [HLS.out], by omega, by omega, HT5, HB5⟩
                · have hb1 : ((m : Int) == (n : Int)) = false := beq_eq_false_iff_ne.2 (by omega)
                  have hb2 : decide ((m : Int) ≤ (n : Int)) = false := decide_eq_false (by omega)
                  have hb3 : decide ((n : Int) < (m : Int)) = true := decide_eq_true (by omega)
                  have hb4 : decide (m ≤ n) = false := decide_eq_false (by omega)
                  have hb5 : decide (n < m) = true := decide_eq_true (by omega)
                  have HLS := Aside0.mk (LS_miss (n := n) hjl (by omega))
                  have hnp := no_prefix (t := j) hlt HX.out.2.1 (by rw [hlm, HX.out.2.2.1]; exact hmn)
                  rw [hlm, HX.out.2.2.1, HXX.out, hy] at hnp
                  obtain ⟨t1, t2⟩ := shr_ne (x := y) (y := x) (Nat.le_of_lt hmn) hm15 (by omega)
                  clear hm hjp o0 o1 hnp hlm hy hbj hmn hm15
                  go_wp2_with (go_at_call 14; (refine (HCJ.out).mono ?_); rintro e w5 ⟨rfl, hd⟩; have HT5 := Aside0.mk (ht_below HTJ.out hd.below); have HB5 := Aside0.mk (below_step HBJ.out hd.below); clear hd HTJ HBJ HCJ)
                  go_roundg k2
                  case measure => omega
                  case rel => exact ⟨j + 1, by go_num, by rw [HLS.out], by omega, by omega, HT5, HB5⟩
              · have hz : l[j] = 0 := by omega
                have HLS := Aside0.mk (LS_miss (n := n) hjl (by omega))
                have HZ := Aside0.mk hz
                clear hz hjp o0 o1
                generalize LS l n j = L at *
                go_wp2_with (go_at_call 14; (refine (code_zero j HTJ hjl HZ.out).mono ?_); rintro e w5 ⟨rfl, hd⟩; have HT5 := Aside0.mk (ht_below HTJ.out hd.below); have HB5 := Aside0.mk (below_step HBJ.out hd.below); clear hd HTJ HBJ)
                go_roundg k2
                case measure => omega
                case rel => exact ⟨j + 1, by go_num, by rw [HLS.out], by omega, by omega, HT5, HB5⟩
            · have hjb : decide ((j : Int) < (k : Int)) = false := decide_eq_false (by omega)
              obtain rfl : j = k := by omega
              have HE := LS_end HX.out.2.2.1
              rw [HXX.out] at HE
              generalize LS l n j = L at *
              rcases HE with rfl | ⟨hL0, hL1⟩
              · go_wp2
                go_roundg k1
                case measure => omega
                case rel => exact ⟨j + 1, by go_num, by omega, by omega, HTJ, HBJ⟩
              · have hLb : decide (0 ≤ L) = true := decide_eq_true hL0
                have hne : (wrap64 (x : Int) != wrap64 (L + 1)) = false := by rw [hL1]; exact bne_self_eq_false _
                clear hL1
                go_wp2
                go_roundg k1
                case measure => omega
                case rel => exact ⟨j + 1, by go_num, by omega, by omega, HTJ, HBJ⟩
        · have hz : l[k] = 0 := by omega
          rw [hz] at hcell
          have HZ := Aside0.mk hz
          clear hz hp o0 o1
          go_wp2_with (go_at_call 14; (refine (code_zero k HTT hlt HZ.out).mono ?_); rintro e w4 ⟨rfl, hd⟩; have hc4 : w4.cell? (ad.add k) = some (.int .i64 0) := (by obtain ⟨⟨n4, rfl⟩⟩ := hd; exact hcell); have HT4 := Aside0.mk (ht_below HTT.out hd.below); have HB4 := Aside0.mk (below_step HB.out hd.below); clear hd HTT HB)
          refine wp_loop_rounds 1 ?_
          rw [rounds_succ]
          by_cases h0k : 0 < k
          · have hkb : decide ((0 : Int) < (k : Int)) = true := decide_eq_true (by omega)
            go_wp2
            go_roundg k1
            case measure => omega
            case rel => exact ⟨k + 1, by go_num, by omega, by omega, HT4, HB4⟩
          · have hkb : decide ((0 : Int) < (k : Int)) = false := decide_eq_false (by omega)
            go_wp2
            go_roundg k1
            case measure => omega
            case rel => exact ⟨k + 1, by go_num, by omega, by omega, HT4, HB4⟩
      · have hb : decide ((k : Int) < (l.length : Int)) = false := decide_eq_false (by omega)
        go_wp2_with ((go_at_call 13; (with_reducible refine (awake_calls _).mono ?_); rintro e w4 ⟨rfl, hd⟩; have HB4 := Aside0.mk (below_step HB.out hd); clear hd))
        go_ret
        exact ⟨rfl, HB4.out⟩
theorem prefix_row (a0 : Option Addr) (len0 cap0 : Nat) (z0 : List Int) (w : World) (w0 : (a0 = none ∧ len0 = 0 ∧ cap0 = 0 ∧ z0 = []) ∨ ∃ x, a0 = some x ∧ len0 ≤ cap0 ∧ cap0 ≤ maxLen ∧ z0.length = cap0 ∧ (∀ i, i < z0.length → w.cell? (x.add i) = some (.int .i64 (z0.getD i 0))) ∧ ∀ n ∈ z0, (Lit.int .i64 n).wf = true) (y0 : len0 * 8 ≤ 140737488351232) :
    Calls Try.prog 4 #[.slice a0 len0 cap0] w fun e w' => e = .returned (.bool true) ∧ Below w.heap.size w w' := by
  obtain ⟨l0, rfl, hr0, hm0, hw0, hc0⟩ := ReadsInt.ofRowC w0
  exact prefix_walk a0 cap0 l0 w (Kd.C_of_reads (enc := Value.int .i64) (d := (0 : Int)) (h1 := fun _ => rfl) hr0) hc0 (by omega)
end Go.Proofs.Yteamaaiicjjidaa.PAll
