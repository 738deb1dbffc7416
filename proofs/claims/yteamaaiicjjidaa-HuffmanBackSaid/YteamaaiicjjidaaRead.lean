/- (*Table).Read: a symbol out of the bits that a reader holds. -/
import Derived.Test.YteamaaiicjjidaaLook
namespace Go.Proofs.Yteamaaiicjjidaa.PAll
open Go.RowKit Go.Proofs.Yteamaaiicjjidaa.Huf Go.Proofs.YteamaaiicjjidaaW.PrintWords Go.Proofs.YteamaaiicjjidaaW.PrintLast Go.Proofs.YteamaaiicjjidaaW.PrintMore
attribute [local go_sem] max2_int min2_int max_two min_two max_three min_three max_four min_four   -- for this text's walks alone
set_option linter.unusedVariables false
set_option linter.unusedSimpArgs false
theorem zero3 (w : World) : (zeroValue 3).run Try.prog w = .ok (.int .i64 0) w := by kernel_rfl
/-- a table stays as it is while another block is written. -/
theorem ht_keep {W W' : World} {g cb mb r : Nat} {l : List Int} (h : HT W g cb mb l) (hk : KeepBut W W' r none) (h1 : g ≠ r) (h2 : cb ≠ r) (h3 : mb ≠ r) : HT W' g cb mb l := by
  obtain ⟨n, D, hm, hd⟩ := h.mp
  have hl := hm.lt
  obtain ⟨es, clock, hb, F, hs, hD⟩ := hm
  exact ⟨hk.blk h.tb h1 (by simp), hk.blk h.cb h2 (by simp), n, D, ⟨es, clock, (hk.2 mb hl h3 (by simp)).trans hb, F, hs, hD⟩, hd⟩
theorem ht_apart {w W : World} {g cb mb r H n : Nat} {l : List Int} (h : HT W g cb mb l) (hr : Rdr w W r H n) : g ≠ r ∧ cb ≠ r ∧ mb ≠ r := by
  obtain ⟨_, D, ⟨es, clock, hb, _⟩, _⟩ := h.mp
  refine ⟨blk_ne h.tb hr.1.1 (by decide), blk_ne h.cb hr.1.1 (by decide), fun e => ?_⟩
  have h2 := hr.1.1
  rw [← e, hb] at h2
  cases h2
theorem rdr_keep' {w W W' : World} {g H n : Nat} (h : Rdr w W g H n) (hb : Below W.heap.size W W') : Rdr w W' g H n :=
  ⟨h.1.below hb, below_step h.2.1 hb, h.2.2⟩
/-- no code of a length below k stands at the beginning. -/
def NoHit (l : List Int) (bs : List Bool) (k : Nat) : Prop := ∀ t, Hit l bs t → k ≤ ln l t
theorem nohit_one (l : List Int) (bs : List Bool) : NoHit l bs 1 := fun t ⟨h, h0, _⟩ => by rw [ln_of h]; omega
theorem nohit_all {l : List Int} (hO : Ok l) {bs : List Bool} (h : NoHit l bs (min bs.length 15 + 1)) : ∀ t, ¬ Hit l bs t := fun t ht => by
  have h1 := h t ht
  have h2 := hit_le ht
  obtain ⟨hs, h0, _⟩ := ht
  have := (ok_at hO hs).2
  have := ln_of hs
  omega
theorem nohit_next {l : List Int} (hO : Ok l) (hK : kr l ≤ 32768) {bs : List Bool} {k : Nat} (hk : k ≤ bs.length) (h : NoHit l bs k) (hn : ¬ (fs l k ≤ bn (bs.take k) ∧ bn (bs.take k) < fs l k + ct l k)) : NoHit l bs (k + 1) := fun t ht => by
  have h1 := h t ht
  have h2 : ln l t ≠ k := fun e => hn ((hit_at hO hK hk).1 ⟨t, ht, e⟩)
  omega
/-- the difference that Read looks at. -/
theorem dif_nums {l : List Int} (hO : Ok l) (hK : kr l ≤ 32768) {bs : List Bool} {k : Nat} (hk : k ≤ bs.length) (h15 : k ≤ 15) :
    ∃ d : Int, wrap64 ((bn (bs.take k) : Int) - (fs l k : Int)) = d ∧ wrap64 (bn (bs.take k) : Int) = (bn (bs.take k) : Int) ∧ ((0 ≤ d ∧ d < (ct l k : Int)) ↔ (fs l k ≤ bn (bs.take k) ∧ bn (bs.take k) < fs l k + ct l k)) := by
  have h1 := fs_bound hO hK k h15
  have h2 := bn_lt (bs.take k)
  rw [List.length_take, Nat.min_eq_left hk] at h2
  have h3 : 2 ^ k ≤ 2 ^ 15 := Nat.pow_le_pow_right (by omega) h15
  have e15 : (2 : Nat) ^ 15 = 32768 := by decide
  refine ⟨(bn (bs.take k) : Int) - (fs l k : Int), ?_, ww (by omega), ?_⟩
  · unfold wrap64; omega
  · constructor <;> (intro h; omega)
/-- begins' contract at some bits, wherever it is called. -/
def BegC (g cb mb : Nat) (l : List Int) (x N : Nat) (r : Bool) : Prop := ∀ W, Aside0 (HT W g cb mb l) → Calls Try.prog 25 #[.pointer (some ⟨g, 0, none⟩), .int .u32 (x : Int), .int .i64 (N : Int)] W fun e W' => e = .returned (.bool r) ∧ Drawn0 W W'
theorem BegC.use {g cb mb : Nat} {l : List Int} {x N : Nat} {r : Bool} (h : BegC g cb mb l x N r) {W : World} (hT : Aside0 (HT W g cb mb l)) : Calls Try.prog 25 #[.pointer (some ⟨g, 0, none⟩), .int .u32 (x : Int), .int .i64 (N : Int)] W fun e W' => e = .returned (.bool r) ∧ Drawn0 W W' := h W hT
section
variable {w W : World} {g cb mb r : Nat} {l : List Int} {bs : List Bool}
set_option maxHeartbeats 8000000 in
set_option maxRecDepth 100000 in
theorem read_calls (s how n : Nat) (h : Aside0 (HT W g cb mb l)) (hr : Aside0 (Rdr w W r (val bs) bs.length)) (hO : Ok l) (hK : kr l ≤ 32768) (hl320 : l.length ≤ 320) (hL : LookAt l bs s how n) :
    Calls Try.prog 17 #[.pointer (some ⟨g, 0, none⟩), .pointer (some ⟨r, 0, none⟩)] W fun e W' => e = .returned (.tuple #[.int .i64 (s : Int), .int .i64 (how : Int)]) ∧ Rdr w W' r (val (bs.drop n)) (bs.drop n).length ∧ HT W' g cb mb l ∧ KeepBut W W' r none := by
  have HL := Aside0.mk hL
  have HOK := Aside0.mk (show Ok l ∧ kr l ≤ 32768 from ⟨hO, hK⟩)
  have HLN := Aside0.mk hl320
  have HNE := Aside0.mk (ht_apart h.out hr.out)
  obtain ⟨nm, D, hm, hd⟩ := h.out.mp
  have hlen := hm.len Try.underlying58 3
  have hc1 := tb_c1 h.out.tb
  have HK0 := Aside0.mk (KeepBut.refl W r none)
  by_cases hz : Maps.size D = 0
  · have hno : ∀ s, ∀ h : s < l.length, ¬ 0 < l[s] := fun s hs => hd.2.2 hz s hs hs
    have HR2 : Aside0 (s = 0 ∧ how = 2 ∧ n = 0) := by
      obtain ⟨h1, h2, h3⟩ := look_no hL (fun t ⟨ht, h0, _⟩ => hno t ht h0)
      rcases h3 with ⟨_, t, ht, h0, _⟩ | ⟨h3, _⟩
      · exact absurd h0 (hno t ht)
      · exact ⟨h1, h3, h2⟩
    rw [hz] at hlen
    clear hO hK hl320 hL hd hno hz hm
    go_enter Try.func17, Try.ntmps17
    go_wp2
    go_ret2
    obtain ⟨rfl, rfl, rfl⟩ := HR2.out
    exact ⟨rfl, hr.out, h.out, HK0.out⟩
  · have hzb : ((Maps.size D : Int) == 0) = false := beq_eq_false_iff_ne.2 (by omega)
    obtain ⟨N, hN⟩ : ∃ N : Nat, N = min bs.length 15 := ⟨_, rfl⟩
    have hmin : (if (15 : Int) < (bs.length : Int) then (15 : Int) else (bs.length : Int)) = (N : Int) := by rw [hN]; split <;> omega
    have HN := Aside0.mk hN
    obtain ⟨V, hV⟩ : ∃ V : Nat, V = val bs % 2 ^ N := ⟨_, rfl⟩
    have HV := Aside0.mk hV
    clear hV
    have HLD := Aside0.mk (rdr_held hr)
    clear hO hK hl320 hL hd hz hm hN hr
    go_enter Try.func17, Try.ntmps17
    go_wp2_with (first
      | (go_at_call 19; (with_reducible refine (HLD.out).mono ?_); rintro e w1 ⟨rfl, hr1, hk1⟩; have HR1 := Aside0.mk hr1; have HK1 := Aside0.mk hk1; clear hr1 hk1 HLD HK0)
      | (go_at_call 23; (with_reducible refine (rdr_peek N HR1 ⟨(by have := HN.out; omega), (by have := HN.out; omega)⟩).mono ?_); rintro e w2 ⟨rfl, hr2, hk2⟩; rw [← HV.out]; have HR2 := Aside0.mk hr2; have HK2 := Aside0.mk (HK1.out.trans hk2 (.inl rfl)); clear hr2 hk2 HR1 HK1))
    have HT2 := Aside0.mk (ht_keep h.out HK2.out HNE.out.1 HNE.out.2.1 HNE.out.2.2)
    clear hlen hc1 hmin hzb
    go_loopg [9] (N + 1) (fun kq v9 w' => ∃ k : Nat, v9 = .int .i64 (k : Int) ∧ k + kq = N + 2 ∧ 1 ≤ k ∧ k ≤ N + 1 ∧ Aside0 (NoHit l bs k) ∧ Aside0 (HT w' g cb mb l) ∧ Aside0 (Rdr w w' r (val bs) bs.length) ∧ Aside0 (KeepBut W w' r none))
    case atStart => exact ⟨1, rfl, by omega, by omega, by omega, ⟨nohit_one l bs⟩, HT2, HR2, HK2⟩
    case round =>
      clear HT2 HR2 HK2
      obtain ⟨k, rfl, hkq, hk1, hkN, HNH, HTT, HRR, HKK⟩ := hrel
      cases gk with
      | zero => exact absurd hkq (by omega)
      | succ k1 =>
      by_cases hlt : k ≤ N
      · have hb : decide ((k : Int) ≤ (N : Int)) = true := decide_eq_true (by omega)
        have hb2 : decide (k ≤ N) = true := decide_eq_true (by omega)
        have hrv := rev_bits bs N k (by have := HN.out; omega) (by have := HN.out; omega) hlt
        rw [← HV.out] at hrv
        have HRV := Aside0.mk hrv
        clear hrv
        obtain ⟨d, hd1, hd2, hd3⟩ := dif_nums HOK.out.1 HOK.out.2 (bs := bs) (k := k) (by have := HN.out; omega) (by have := HN.out; omega)
        have HD3 := Aside0.mk hd3
        have hF : FK l 16 k = fs l k := by unfold FK; rw [if_pos (by have := HN.out; omega)]
        have HF := Aside0.mk hF
        have hk0 : (0 : Int) ≤ (k : Int) := by omega
        have hk17 : (k : Int) < 17 := by have := HN.out; omega
        clear hd3 hF
        obtain ⟨x, hx⟩ : ∃ x, bn (bs.take k) = x := ⟨_, rfl⟩
        rw [hx] at HRV hd1 hd2 HD3
        have HX := Aside0.mk hx
        clear hx
        by_cases t1 : 0 ≤ d
        · have t1b : decide (0 ≤ d) = true := decide_eq_true t1
          by_cases t2 : d < (ct l k : Int)
          · have t2b : decide (d < (ct l k : Int)) = true := decide_eq_true t2
            obtain ⟨t, ht, htk⟩ := (hit_at HOK.out.1 HOK.out.2 (bs := bs) (k := k) (by have := HN.out; omega)).2 (by rw [HX.out]; exact HD3.out.1 ⟨t1, t2⟩)
            obtain ⟨rfl, rfl, rfl⟩ := look_hit HOK.out.1 HOK.out.2 HL.out ht
            have HTK := Aside0.mk htk
            obtain ⟨hs, h0, hp⟩ := ht
            have hcd := ((hit_iff HOK.out.1 HOK.out.2 bs hs h0).1 hp).2
            rw [htk, HX.out] at hcd
            have HCD : Aside0 (x = cd l s ∧ 0 < l[s]) := ⟨hcd, h0⟩
            have hxb : x < 32768 := by
              have hb := cd_bound HOK.out.1 HOK.out.2 hs h0
              have h2 : 2 ^ ln l s ≤ 2 ^ 15 := Nat.pow_le_pow_right (by omega) hb.1
              have e15 : (2 : Nat) ^ 15 = 32768 := by decide
              omega
            have HKY := Aside0.mk (key_mk (wfn (n := k) (by have := HN.out; omega)) (wfc (c := x) (by omega)))
            clear hcd h0 hp htk hxb t1 t2
            go_wp2_with (first
              | (go_at_call 22; (with_reducible refine (bits_Reverse.calls _ _ _ _ HRV.out).mono ?_); rintro e w3 ⟨rfl, hb3⟩; have HT3 := Aside0.mk (ht_below HTT.out hb3); have HR3 := Aside0.mk (rdr_keep' HRR.out hb3); have HK3 := Aside0.mk (HKK.out.trans (KeepBut.of_below hb3 r none) (.inl rfl)); have hcF := tb_F HT3.out.tb (i := k) (by omega); rw [HF.out] at hcF; have hcC := tb_C HT3.out.tb (i := k) (by omega); clear hb3 HTT HRR HKK)
              | (go_at_call 24; (refine (rdr_take k HR3 ⟨(by have := HN.out; omega), (by have := HN.out; omega)⟩).mono ?_); rintro e w4 ⟨rfl, hr4, hk4⟩; have HR4 := Aside0.mk hr4; have HT4 := Aside0.mk (ht_keep HT3.out hk4 HNE.out.1 HNE.out.2.1 HNE.out.2.2); have HK4 := Aside0.mk (HK3.out.trans hk4 (.inl rfl)); have hc4 := tb_c1 HT4.out.tb; obtain ⟨n4, D4, hm4, hd4⟩ := HT4.out.mp; have HM4 := Aside0.mk hm4; have HD4 := Aside0.mk hd4; clear hr4 hk4 HR3 HT3 HK3 hcF hcC hm4 hd4)
              | (at_lookup; refine wpList_lookup_own_int _ rfl _ _ 58 rfl 64 3 .i64 law64 Try.underlying58 Try.underlying3 (zero3 _) mb n4 D4 rfl HM4.out _ _ rfl HKY.out ?_; intro c hat hwc; have HAT := Aside0.mk hat; clear hat hwc))
            go_ret2
            have hat := HAT.out
            have hds := HD4.out.2.1 s hs hs HCD.out.2
            rw [HTK.out, ← HCD.out.1] at hds
            have hcs : c = (s : Int) := by
              have h2 := hds.symm.trans hat
              simp at h2
              exact h2.symm
            subst hcs
            refine ⟨rfl, ?_, HT4.out, HK4.out⟩
            rw [HTK.out, val_drop bs k (by have := HN.out; omega), List.length_drop]
            exact HR4.out
          · have t2b : decide (d < (ct l k : Int)) = false := decide_eq_false t2
            have HNX := Aside0.mk (nohit_next HOK.out.1 HOK.out.2 (by have := HN.out; omega) HNH.out (by rw [HX.out]; exact fun h => t2 (HD3.out.2 h).2))
            clear t1 t2
            go_wp2_with (go_at_call 22; (with_reducible refine (bits_Reverse.calls _ _ _ _ HRV.out).mono ?_); rintro e w3 ⟨rfl, hb3⟩; have HT3 := Aside0.mk (ht_below HTT.out hb3); have HR3 := Aside0.mk (rdr_keep' HRR.out hb3); have HK3 := Aside0.mk (HKK.out.trans (KeepBut.of_below hb3 r none) (.inl rfl)); have hcF := tb_F HT3.out.tb (i := k) (by omega); rw [HF.out] at hcF; have hcC := tb_C HT3.out.tb (i := k) (by omega); clear hb3 HTT HRR HKK)
            go_roundg k1
            case measure => omega
            case rel => exact ⟨k + 1, by go_num, by omega, by omega, by omega, HNX, HT3, HR3, HK3⟩
        · have t1b : decide (0 ≤ d) = false := decide_eq_false t1
          have HNX := Aside0.mk (nohit_next HOK.out.1 HOK.out.2 (by have := HN.out; omega) HNH.out (by rw [HX.out]; exact fun h => t1 (HD3.out.2 h).1))
          clear t1
          go_wp2_with (go_at_call 22; (with_reducible refine (bits_Reverse.calls _ _ _ _ HRV.out).mono ?_); rintro e w3 ⟨rfl, hb3⟩; have HT3 := Aside0.mk (ht_below HTT.out hb3); have HR3 := Aside0.mk (rdr_keep' HRR.out hb3); have HK3 := Aside0.mk (HKK.out.trans (KeepBut.of_below hb3 r none) (.inl rfl)); have hcF := tb_F HT3.out.tb (i := k) (by omega); rw [HF.out] at hcF; clear hb3 HTT HRR HKK)
          go_roundg k1
          case measure => omega
          case rel => exact ⟨k + 1, by go_num, by omega, by omega, by omega, HNX, HT3, HR3, HK3⟩
      · have hb : decide ((k : Int) ≤ (N : Int)) = false := decide_eq_false (by omega)
        have hb2 : decide (k ≤ N) = false := decide_eq_false (by omega)
        have hkN1 : k = N + 1 := by omega
        have hno := nohit_all HOK.out.1 (bs := bs) (by have := HNH.out; rw [hkN1, HN.out] at this; exact this)
        have hmo := more_at HOK.out.1 HOK.out.2 hno
        rw [← HN.out] at hmo
        have hrv := rev_bits bs N N (by have := HN.out; omega) (by have := HN.out; omega) (Nat.le_refl _)
        rw [← HV.out] at hrv
        have HRV := Aside0.mk hrv
        have hbl := bn_lt (bs.take N)
        rw [List.length_take, Nat.min_eq_left (by have := HN.out; omega)] at hbl
        have HBL := Aside0.mk hbl
        obtain ⟨x, hx⟩ : ∃ x, bn (bs.take N) = x := ⟨_, rfl⟩
        rw [hx] at HRV HBL hmo
        clear hrv hbl hx hkN1
        obtain ⟨h1, h2, h3⟩ := look_no HL.out hno
        have HS : Aside0 (s = 0 ∧ n = 0) := ⟨h1, h2⟩
        clear h1 h2 hno
        rcases h3 with ⟨h3, h4⟩ | ⟨h3, h4⟩
        · have HRB : Aside0 (BegC g cb mb l x N true) := ⟨fun W' h' => begins_calls x N true h' HOK.out.1 HOK.out.2 (by have := HN.out; omega) HBL.out ⟨fun _ => hmo.2 h4, fun _ => rfl⟩⟩
          have HH := Aside0.mk h3
          clear hmo h3 h4
          go_wp2_with (first
            | (go_at_call 22; (with_reducible refine (bits_Reverse.calls _ _ _ _ HRV.out).mono ?_); rintro e w3 ⟨rfl, hb3⟩; have HT3 := Aside0.mk (ht_below HTT.out hb3); have HR3 := Aside0.mk (rdr_keep' HRR.out hb3); have HK3 := Aside0.mk (HKK.out.trans (KeepBut.of_below hb3 r none) (.inl rfl)); clear hb3 HTT HRR HKK)
            | (go_at_call 25; (with_reducible refine (BegC.use HRB.out HT3).mono ?_); rintro e w4 ⟨rfl, hd4⟩; have HT4 := Aside0.mk (ht_below HT3.out hd4.below); have HR4 := Aside0.mk (rdr_keep' HR3.out hd4.below); have HK4 := Aside0.mk (HK3.out.trans (KeepBut.of_below hd4.below r none) (.inl rfl)); clear hd4 HT3 HR3 HK3))
          go_ret2
          obtain ⟨rfl, rfl⟩ := HS.out
          have hh := HH.out
          subst hh
          exact ⟨rfl, HR4.out, HT4.out, HK4.out⟩
        · have HRB : Aside0 (BegC g cb mb l x N false) := ⟨fun W' h' => begins_calls x N false h' HOK.out.1 HOK.out.2 (by have := HN.out; omega) HBL.out ⟨(fun h => by cases h), (fun h => by obtain ⟨t, ht⟩ := hmo.1 h; exact absurd ht (h4 t))⟩⟩
          have HH := Aside0.mk h3
          clear hmo h3 h4
          go_wp2_with (first
            | (go_at_call 22; (with_reducible refine (bits_Reverse.calls _ _ _ _ HRV.out).mono ?_); rintro e w3 ⟨rfl, hb3⟩; have HT3 := Aside0.mk (ht_below HTT.out hb3); have HR3 := Aside0.mk (rdr_keep' HRR.out hb3); have HK3 := Aside0.mk (HKK.out.trans (KeepBut.of_below hb3 r none) (.inl rfl)); clear hb3 HTT HRR HKK)
            | (go_at_call 25; (with_reducible refine (BegC.use HRB.out HT3).mono ?_); rintro e w4 ⟨rfl, hd4⟩; have HT4 := Aside0.mk (ht_below HT3.out hd4.below); have HR4 := Aside0.mk (rdr_keep' HR3.out hd4.below); have HK4 := Aside0.mk (HK3.out.trans (KeepBut.of_below hd4.below r none) (.inl rfl)); clear hd4 HT3 HR3 HK3))
          go_ret2
          obtain ⟨rfl, rfl⟩ := HS.out
          have hh := HH.out
          subst hh
          exact ⟨rfl, HR4.out, HT4.out, HK4.out⟩
end
end Go.Proofs.Yteamaaiicjjidaa.PAll
