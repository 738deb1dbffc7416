/- HuffmanFull's walk: out of full lengths' codes every run of 15 bits begins with one. -/
import Derived.Test.YteamaaiicjjidaaRead
import Derived.Test.YteamaaiicjjidaaCopy
namespace Go.Proofs.Yteamaaiicjjidaa.PAll
open Go.RowKit Go.Proofs.Yteamaaiicjjidaa.Huf Go.Proofs.YteamaaiicjjidaaW.PrintWords Go.Proofs.YteamaaiicjjidaaW.PrintLast Go.Proofs.YteamaaiicjjidaaW.PrintMore
open Go.Proofs.Yteamaaiicjjidaa.Bv
attribute [local go_sem] max2_int min2_int max_two min_two max_three min_three max_four min_four   -- for this text's walks alone
set_option linter.unusedVariables false
set_option linter.unusedSimpArgs false
theorem us_zero {l : List Int} (h : us l = 0) : kr l = 0 := by
  induction l with
  | nil => rfl
  | cons x l ih =>
    unfold us at h
    rw [List.countP_cons] at h
    by_cases hx : 0 < x
    · simp [hx] at h
    · simp only [kr, if_neg hx, Nat.zero_add]
      exact ih (by unfold us; omega)
theorem us_one {l : List Int} (h : us l = 1) (h1 : ct l 1 = 1) : kr l = 16384 := by
  induction l with
  | nil => simp [us] at h
  | cons x l ih =>
    have hu : us (x :: l) = us l + if 0 < x then 1 else 0 := by unfold us; rw [List.countP_cons]; simp
    rw [ct_cons] at h1
    by_cases hx : 0 < x
    · rw [hu, if_pos hx] at h
      have h0 : us l = 0 := by omega
      have hc : ct l 1 = 0 := by
        have h3 : ∀ m : List Int, ct m 1 ≤ us m := fun m => by
          unfold ct us
          refine List.countP_mono_left fun y _ hy => ?_
          unfold isn at hy
          simp at hy ⊢
          omega
        have := h3 l
        omega
      rw [hc] at h1
      have hx1 : x = 1 := by
        by_cases hh : 0 < x ∧ x = ((1 : Nat) : Int)
        · simpa using hh.2
        · rw [if_neg hh] at h1; omega
      subst hx1
      simp only [kr]
      rw [us_zero h0]
      decide
    · rw [hu, if_neg hx] at h
      rw [if_neg (by omega)] at h1
      simp only [kr, if_neg hx, Nat.zero_add]
      exact ih (by omega) (by omega)
theorem er_half {l : List Int} (h : er l = 0) : kr l = 32768 ∨ kr l ≤ 16384 := by
  have hk := er_ok h
  by_cases h1 : kr l = 32768
  · exact .inl h1
  · right
    unfold er at h
    rw [if_neg (by simpa using ⟨hk.1, hk.2.1⟩), if_neg (by omega)] at h
    split at h
    · simp at h
    · rename_i h2
      by_cases hu : us l = 0
      · rw [us_zero hu]; omega
      · by_cases hc : us l = 1 ∧ ct l 1 = 1
        · rw [us_one hc.1 hc.2]; omega
        · exact absurd ⟨by omega, by omega, hc⟩ h2
/-- out of full lengths' codes one stands at the beginning or goes on from all bits. -/
theorem full_any {l : List Int} (hO : Ok l) (hk : kr l = 32768) (bs : List Bool) : (∃ t, Hit l bs t) ∨ ∃ t, Mor l bs t := by
  obtain ⟨s, hs, h0, hp⟩ := full_hit hO hk (bs ++ List.replicate 15 false) (by simp)
  rcases Nat.le_total (code l s).length bs.length with h | h
  · exact .inl ⟨s, hs, h0, List.prefix_of_prefix_length_le hp (List.prefix_append _ _) h⟩
  · exact .inr ⟨s, hs, h0, List.prefix_of_prefix_length_le (List.prefix_append _ _) hp h⟩
theorem full_long {l : List Int} (hO : Ok l) (hk : kr l = 32768) (bs : List Bool) (hb : 15 ≤ bs.length) : ∃ t, Hit l bs t := by
  obtain ⟨s, hs, h0, hp⟩ := full_hit hO hk bs hb
  exact ⟨s, hs, h0, hp⟩
theorem rev_all {bs : List Bool} {k : Nat} (h : val bs < 4294967296) (hk : k ≤ bs.length) (h32 : k ≤ 32) : bits_Reverse.f ((val bs : Nat) : Int) (k : Int) = some ((bn (bs.take k) : Nat) : Int) := by
  have e : ((val bs : Nat) : Int) = toI (BitVec.ofNat 32 (val bs)) := by unfold toI; rw [BitVec.toNat_ofNat]; omega
  have e2 : (BitVec.ofNat 32 (val bs)).toNat = val bs := by rw [BitVec.toNat_ofNat]; omega
  rw [e, rev_f, e2]
  have e3 : cl (k : Int) = k := by unfold cl mx mn; (repeat' split) <;> omega
  rw [e3, PAll.rv_val k _ 0 hk, Nat.zero_mul, Nat.zero_add]
theorem val_bits {b : Nat} (h : b < 256) : val (bitsL b) = b := by
  have := (bits_f (b : Int) (by omega) (by omega)).2
  simpa using this
theorem rdr_putL {w W : World} {r : Nat} {bs : List Bool} (b : Nat) (h : Aside0 (Rdr w W r (val bs) bs.length)) (hn : bs.length ≤ 56) (hb : b < 256) :
    Calls Try.prog 20 #[.pointer (some ⟨r, 0, none⟩), .int .u8 (b : Int)] W fun e W' => e = .returned (.bool true) ∧ Rdr w W' r (val (bs ++ bitsL b)) (bs ++ bitsL b).length ∧ KeepBut W W' r none := by
  refine (rdr_put (b : Int) h ⟨hn, by omega, by omega⟩).mono ?_
  rintro e W' ⟨he, hr, hk⟩
  refine ⟨he, ?_, hk⟩
  rw [Int.toNat_natCast] at hr
  rw [val_append, val_bits hb, List.length_append, bitsL_len]
  exact hr
theorem full_rev {l : List Int} (hO : Ok l) (hK : kr l ≤ 32768) {v s : Nat} (hv : v < 65536) (h : Hit l (bitsL (v % 256) ++ bitsL (v / 256)) s) : ∃ hs : s < l.length, 0 < l[s] ∧ bits_Reverse.f (v : Int) l[s] = some (cd l s : Int) := by
  obtain ⟨hs, h0, hp⟩ := h
  obtain ⟨h1, h2⟩ := (hit_iff hO hK _ hs h0).1 hp
  refine ⟨hs, h0, ?_⟩
  have hval : val (bitsL (v % 256) ++ bitsL (v / 256)) = v := by
    rw [val_append, val_bits (by omega), val_bits (by omega), bitsL_len]
    have : (2 : Nat) ^ 8 = 256 := by decide
    omega
  have h3 := rev_all (bs := bitsL (v % 256) ++ bitsL (v / 256)) (k := ln l s) (by rw [hval]; omega) h1 (by
    have := (cd_bound hO hK hs h0).1; omega)
  rw [hval, h2] at h3
  rw [show l[s] = ((ln l s : Nat) : Int) by rw [ln_of hs]; omega]
  exact h3
theorem hit_more {l : List Int} {bs cs : List Bool} {s : Nat} (h : Hit l bs s) : Hit l (bs ++ cs) s := by
  obtain ⟨hs, h0, hp⟩ := h
  exact ⟨hs, h0, hp.trans (List.prefix_append _ _)⟩
def KrS (l : List Int) (ks : Int) (kb : Bool) : Prop := (kb = true → (Ok l ∧ l.length ≤ 320) ∧ ks = (kr l : Int)) ∧ (kb = false → ¬ (Ok l ∧ l.length ≤ 320))
set_option maxHeartbeats 8000000 in
set_option maxRecDepth 100000 in
theorem full_walk (A : Option Addr) (c : Nat) (l : List Int) (v : Nat) (W : World) (hr : Kd.C (Kd.int .i64) W A l.length l) (hc : l.length ≤ c) (hl : l.length * 8 ≤ 140737488355328) (hv : v < 65536) :
    Calls Try.prog 7 #[.slice A l.length c, .int .u16 (v : Int)] W fun e W' => e = .returned (.bool true) ∧ Below W.heap.size W W' := by
  have HR := Aside0.mk hr
  have HL := Aside0.mk hl
  have HV := Aside0.mk hv
  obtain ⟨⟨kk, hkf⟩, _⟩ := krs_f l
  obtain ⟨ks, hks⟩ : ∃ x, x = (krs l).1 := ⟨_, rfl⟩
  obtain ⟨kb, hkb⟩ : ∃ x, x = (krs l).2 := ⟨_, rfl⟩
  rw [← hks, ← hkb] at hkf
  have HKF := Aside0.mk hkf
  have HKS : Aside0 ((kb = true → (Ok l ∧ l.length ≤ 320) ∧ ks = (kr l : Int)) ∧ (kb = false → ¬ (Ok l ∧ l.length ≤ 320))) := ⟨by
    unfold krs at hks hkb
    by_cases h : Ok l ∧ l.length ≤ 320
    · rw [if_pos h] at hks hkb; exact ⟨fun _ => ⟨h, hks⟩, (fun e => by rw [hkb] at e; cases e)⟩
    · rw [if_neg h] at hks hkb; exact ⟨(fun e => by rw [hkb] at e; cases e), fun _ => h⟩⟩
  have HKS1 : Aside0 (KrS l ks kb) := ⟨HKS.out⟩
  clear hr hl hkf hv hks hkb HKS
  go_enter Try.func7, Try.ntmps7
  go_wp2_with (first
    | ((refine app_copy ?_ (.tmp 16) (.tmp 17) ?_ A c l ?_ ?_ HR.out HL.out ?_); (· rfl); (· rfl); (· rfl); (· rfl); intro A2 c2 w2 hown hC hlc hB; have HC2 := Aside0.mk hC; have HLC := Aside0.mk hlc; have HB2 := Aside0.mk hB; clear hown hC hlc hB)
    | (go_at_call 8; (refine (huffman_Kraft.calls kk A2 c2 l _ _ _ HC2.out HLC.out HKF.out).mono ?_); rintro e w3 ⟨rfl, hd⟩; have HB3 := Aside0.mk (below_step HB2.out hd.below); have HR3 := Aside0.mk (Kd.C_below HR.out HB3.out); clear hd HB2 HC2 HLC)
    | ((refine app_copy ?_ (.tmp 23) (.tmp 24) ?_ A c l ?_ ?_ HR3.out HL.out ?_); (· rfl); (· rfl); (· rfl); (· rfl); intro A4 c4 w4 hown hC hlc hB; have HC4 := Aside0.mk hC; have HLC4 := Aside0.mk hlc; have HB4 := Aside0.mk (below_step HB3.out hB); clear hown hC hlc hB HB3))
  refine (new_calls A4 c4 l w4 HC4.out HLC4.out).mono ?_
  rintro e w5 (⟨hne, rfl, hb⟩ | ⟨he0, g, cb, mb, rfl, ht, hb, hg1, hg2, hg3⟩)
  · have HB5 := Aside0.mk (below_step HB4.out hb)
    clear HC4 HB4 hb HLC4 HR3
    have hnb : (er l == 0) = false := beq_eq_false_iff_ne.2 hne
    have hnb2 : (er l != 0) = true := by simpa using hne
    cases kb with
    | false =>
      generalize er l = E at *
      go_wp2_with (go_at_call 13; (with_reducible refine (awake_calls _).mono ?_); rintro e w6 ⟨rfl, hd⟩; have HB6 := Aside0.mk (below_step HB5.out hd); clear hd)
      go_ret
      exact ⟨rfl, HB6.out⟩
    | true =>
      obtain ⟨hok, hkr⟩ := HKS1.out.1 rfl
      have h1 : ¬ ks = 32768 := fun e => hne (er_0 hok (by omega) (.inl (by omega)))
      have h1b : (ks == 32768) = false := beq_eq_false_iff_ne.2 h1
      have h1c : (ks != 32768) = true := by simpa using h1
      clear hok hkr HKS1 HKF
      generalize er l = E at *
      go_wp2_with (go_at_call 13; (with_reducible refine (awake_calls _).mono ?_); rintro e w6 ⟨rfl, hd⟩; have HB6 := Aside0.mk (below_step HB5.out hd); clear hd)
      go_ret
      exact ⟨rfl, HB6.out⟩
  · have HB5 := Aside0.mk (below_step HB4.out hb)
    have HOE := er_ok he0
    cases kb with
    | false => exact absurd ⟨HOE.1, HOE.2.1⟩ (HKS1.out.2 rfl)
    | true =>
    obtain ⟨hok, hkr⟩ := HKS1.out.1 rfl
    by_cases h1 : ks = 32768
    · subst h1
      have HK : Aside0 (kr l = 32768) := ⟨by omega⟩
      have HO := Aside0.mk HOE
      have HTT := Aside0.mk ht
      clear HC4 HB4 hb HLC4 HR3 hok hkr HKS1 HKF HOE ht he0
      have HV0 : Aside0 (((v % 256 : Nat) : Int) = (v : Int) % 256) := ⟨by omega⟩
      have HV1 : Aside0 (((v / 256 : Nat) : Int) = (v : Int) / 256 % 256) := ⟨by have := HV.out; omega⟩
      have HVW : Aside0 ((v : Int) % 4294967296 = (v : Int)) := ⟨by have := HV.out; omega⟩
      obtain ⟨s, how, n, hL⟩ := look_ex l (bitsL (v % 256))
      have HLK := Aside0.mk hL
      rcases hL with ⟨rfl, hh, rfl⟩ | ⟨rfl, rfl, rfl, hno, hmo⟩ | ⟨_, _, _, hno, hnm⟩
      · obtain ⟨hs, h0, hrev⟩ := full_rev HO.out.1 HO.out.2.2 HV.out (hit_more hh)
        have HRV := Aside0.mk hrev
        have HS0 := Aside0.mk h0
        clear hrev h0 hh
        go_wp2_with (first
          | (go_at_call 16; (with_reducible refine (rdr_new W _ HB5).mono ?_); rintro e w6 ⟨r, rfl, hr6, hb6, hg6⟩; have HR6 : Aside0 (Rdr W w6 r (val []) ([] : List Bool).length) := ⟨hr6⟩; have HT6 := Aside0.mk (ht_below HTT.out hb6); clear hr6 hb6 hg6 HTT)
          | (go_at_call 20; rw [← HV0.out]; (with_reducible refine (rdr_putL (v % 256) HR6 (by simp) (by omega)).mono ?_); rintro e w7 ⟨rfl, hr7, hk7⟩; have HR7 : Aside0 (Rdr W w7 r (val (bitsL (v % 256))) (bitsL (v % 256)).length) := ⟨hr7⟩; have HNE := ht_apart HT6.out HR6.out; have HT7 := Aside0.mk (ht_keep HT6.out hk7 HNE.1 HNE.2.1 HNE.2.2); clear hr7 hk7 HR6 HT6 HNE)
          | (go_at_call 17; (with_reducible refine (read_calls s 0 (ln l s) HT7 HR7 HO.out.1 HO.out.2.2 HO.out.2.1 HLK.out).mono ?_); rintro e w8 ⟨rfl, hr8, ht8, hk8⟩; have HT8 := Aside0.mk ht8; have HR8 := Aside0.mk hr8; clear hr8 ht8 hk8 HR7 HT7)
          | (go_at_call 14; (with_reducible refine (code_at s HT8 hs HS0.out).mono ?_); rintro e wc ⟨rfl, hd⟩; have HBC := Aside0.mk (below_step HR8.out.2.1 hd.below); clear hd)
          | (go_at_call 22; rw [HVW.out]; (with_reducible refine (bits_Reverse.calls _ _ _ _ HRV.out).mono ?_); rintro e wr ⟨rfl, hb3⟩; have HBR := Aside0.mk (below_step HBC.out hb3); clear hb3)
          | (go_at_call 13; (with_reducible refine (awake_calls _).mono ?_); rintro e wa ⟨rfl, hd⟩; have HBA := Aside0.mk (below_step HBR.out hd); clear hd))
        go_ret
        exact ⟨rfl, HBA.out⟩
      · obtain ⟨s2, hh⟩ := full_long HO.out.1 HK.out (bitsL (v % 256) ++ bitsL (v / 256)) (by rw [List.length_append, bitsL_len, bitsL_len]; omega)
        have HLK2 : Aside0 (LookAt l (bitsL (v % 256) ++ bitsL (v / 256)) s2 0 (ln l s2)) := ⟨.inl ⟨rfl, hh, rfl⟩⟩
        obtain ⟨hs, h0, hrev⟩ := full_rev HO.out.1 HO.out.2.2 HV.out hh
        have HRV := Aside0.mk hrev
        have HS0 := Aside0.mk h0
        clear hrev h0 hh hno hmo
        go_wp2_with (first
          | (go_at_call 16; (with_reducible refine (rdr_new W _ HB5).mono ?_); rintro e w6 ⟨r, rfl, hr6, hb6, hg6⟩; have HR6 : Aside0 (Rdr W w6 r (val []) ([] : List Bool).length) := ⟨hr6⟩; have HT6 := Aside0.mk (ht_below HTT.out hb6); clear hr6 hb6 hg6 HTT)
          | (go_at_call 17; (with_reducible refine (read_calls s2 0 (ln l s2) HT9 HR9 HO.out.1 HO.out.2.2 HO.out.2.1 HLK2.out).mono ?_); rintro e w10 ⟨rfl, hr10, ht10, hk10⟩; have HT10 := Aside0.mk ht10; have HR10 := Aside0.mk hr10; clear hr10 ht10 hk10 HR9 HT9)
          | (go_at_call 20; rw [← HV1.out]; (with_reducible refine (rdr_putL (v / 256) HR8 (by rw [List.drop_zero, bitsL_len]; omega) (by have := HV.out; omega)).mono ?_); rintro e w9 ⟨rfl, hr9, hk9⟩; have HR9 : Aside0 (Rdr W w9 r (val (bitsL (v % 256) ++ bitsL (v / 256))) (bitsL (v % 256) ++ bitsL (v / 256)).length) := ⟨hr9⟩; have HNE := ht_apart HT8.out HR8.out; have HT9 := Aside0.mk (ht_keep HT8.out hk9 HNE.1 HNE.2.1 HNE.2.2); clear hr9 hk9 HR8 HT8 HNE)
          | (go_at_call 17; (with_reducible refine (read_calls 0 1 0 HT7 HR7 HO.out.1 HO.out.2.2 HO.out.2.1 HLK.out).mono ?_); rintro e w8 ⟨rfl, hr8, ht8, hk8⟩; have HT8 := Aside0.mk ht8; have HR8 := Aside0.mk hr8; clear hr8 ht8 hk8 HR7 HT7)
          | (go_at_call 20; rw [← HV0.out]; (with_reducible refine (rdr_putL (v % 256) HR6 (by simp) (by omega)).mono ?_); rintro e w7 ⟨rfl, hr7, hk7⟩; have HR7 : Aside0 (Rdr W w7 r (val (bitsL (v % 256))) (bitsL (v % 256)).length) := ⟨hr7⟩; have HNE := ht_apart HT6.out HR6.out; have HT7 := Aside0.mk (ht_keep HT6.out hk7 HNE.1 HNE.2.1 HNE.2.2); clear hr7 hk7 HR6 HT6 HNE)
          | (go_at_call 14; (with_reducible refine (code_at s2 HT10 hs HS0.out).mono ?_); rintro e wc ⟨rfl, hd⟩; have HBC := Aside0.mk (below_step HR10.out.2.1 hd.below); clear hd)
          | (go_at_call 22; rw [HVW.out]; (with_reducible refine (bits_Reverse.calls _ _ _ _ HRV.out).mono ?_); rintro e wr ⟨rfl, hb3⟩; have HBR := Aside0.mk (below_step HBC.out hb3); clear hb3)
          | (go_at_call 13; (with_reducible refine (awake_calls _).mono ?_); rintro e wa ⟨rfl, hd⟩; have HBA := Aside0.mk (below_step HBR.out hd); clear hd))
        go_ret
        exact ⟨rfl, HBA.out⟩
      · rcases full_any HO.out.1 HK.out (bitsL (v % 256)) with ⟨t, ht⟩ | ⟨t, ht⟩
        · exact absurd ht (hno t)
        · exact absurd ht (hnm t)
    · have h1b : (ks == 32768) = false := beq_eq_false_iff_ne.2 h1
      have h1c : (ks != 32768) = true := by simpa using h1
      have h2 : decide (ks ≤ 16384) = true := decide_eq_true (by rcases er_half he0 with h | h <;> omega)
      clear HC4 HB4 hb HLC4 HR3 hok hkr HKS1 HKF HOE ht
      go_wp2_with (go_at_call 13; (with_reducible refine (awake_calls _).mono ?_); rintro e w6 ⟨rfl, hd⟩; have HB6 := Aside0.mk (below_step HB5.out hd); clear hd)
      go_ret
      exact ⟨rfl, HB6.out⟩
theorem full_row (a0 : Option Addr) (len0 cap0 : Nat) (z0 : List Int) (v : Int) (w : World) (w0 : (a0 = none ∧ len0 = 0 ∧ cap0 = 0 ∧ z0 = []) ∨ ∃ x, a0 = some x ∧ len0 ≤ cap0 ∧ cap0 ≤ maxLen ∧ z0.length = cap0 ∧ (∀ i, i < z0.length → w.cell? (x.add i) = some (.int .i64 (z0.getD i 0))) ∧ ∀ n ∈ z0, (Lit.int .i64 n).wf = true) (y0 : len0 * 8 ≤ 140737488351232) (wv : (Lit.int .u16 v).wf = true) :
    Calls Try.prog 7 #[.slice a0 len0 cap0, .int .u16 v] w fun e w' => e = .returned (.bool true) ∧ Below w.heap.size w w' := by
  obtain ⟨l0, rfl, hr0, hm0, hw0, hc0⟩ := ReadsInt.ofRowC w0
  have h : 0 ≤ v ∧ v ≤ 65535 := by simpa [Lit.wf, IntKind.min, IntKind.max, IntKind.signed, IntKind.bits] using wv
  obtain ⟨v, rfl⟩ : ∃ s : Nat, v = (s : Int) := ⟨v.toNat, by omega⟩
  exact full_walk a0 cap0 l0 v w (Kd.C_of_reads (enc := Value.int .i64) (d := (0 : Int)) (h1 := fun _ => rfl) hr0) hc0 (by omega) (by omega)
end Go.Proofs.Yteamaaiicjjidaa.PAll
