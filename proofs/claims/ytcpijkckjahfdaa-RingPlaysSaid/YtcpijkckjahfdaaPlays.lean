/- RingPlays: a window and the document's window side by side: the walk by hand. -/
import Derived.Test.YtcpijkckjahfdaaPU
namespace Go.Proofs.Ytcpijkckjahfdaa.PAll
open Go.RowKit Go.Proofs.YtcpijkckjahfdaaW.PrintWords Go.Proofs.YtcpijkckjahfdaaW.PrintLast Go.Proofs.YtcpijkckjahfdaaW.PrintMore
set_option linter.unusedVariables false
set_option linter.unusedSimpArgs false
theorem xr_C {w W : World} {A : Option Addr} {n c : Nat} {l : List Int} (h : XR w W (.slice A n c) l) : (Kd.int .u8).C W A l.length l := (Kd.R_reads' h).2.2
set_option maxHeartbeats 8000000 in
set_option maxRecDepth 100000 in
theorem plays_no (size : Int) (A : Option Addr) (c n : Nat) (w : World) (h : size < 1 ∨ 32768 < size) :
    Calls Try.prog 6 #[.int .i64 size, .slice A n c] w fun e w' => e = .returned (.bool true) ∧ Below w.heap.size w w' := by
  have H := Aside0.mk h
  clear h
  go_enter Try.func6, Try.ntmps6
  go_wp2_with (first
    | (go_at_call 8; (with_reducible refine (ring_new_no _ size H.out).mono ?_); rintro e w1 ⟨rfl, hd⟩; have HD := Aside0.mk hd; clear hd)
    | (go_at_call 15; (with_reducible refine (rq_new_no _ size H.out).mono ?_); rintro e w2 ⟨rfl, hd⟩; have HE := Aside0.mk hd; clear hd))
  go_ret
  exact ⟨rfl, below_step HD.out.below (HE.out.below)⟩
set_option maxHeartbeats 8000000 in
set_option maxRecDepth 100000 in
theorem plays_walk (N : Nat) (A : Option Addr) (c : Nat) (l : List (List Int)) (w : World) (hR : Acts.Reads w [.u8, .u8, .i64, .i64] A l) (hc : l.length ≤ c) (hl : l.length ≤ 9223372036854775807) (hN1 : 1 ≤ N) (hN2 : N ≤ 32768) :
    Calls Try.prog 6 #[.int .i64 (N : Int), .slice A l.length c] w fun e w' => e = .returned (.bool true) ∧ Below w.heap.size w w' := by
  have HR := Aside0.mk hR
  have HN := Aside0.mk (show 1 ≤ N ∧ N ≤ 32768 from ⟨hN1, hN2⟩)
  clear hR hc hN1 hN2
  go_enter Try.func6, Try.ntmps6
  go_wp2_with (first
    | (go_at_call 8; (with_reducible refine (win_new w N HN.out.1 HN.out.2).mono ?_); rintro e w1 ⟨rfl, hw, hb⟩; have HW := Aside0.mk hw; have HB := Aside0.mk hb; clear hw hb)
    | (go_at_call 15; (with_reducible refine (rq_new w w1 N (fun k => k ≠ w.heap.size + 1 ∧ k ≠ w.heap.size ∧ ¬ NoF k) HB.out HN.out.1 HN.out.2).mono ?_); rintro e w2 ⟨rfl, hq, hb⟩; have HT := Aside0.mk (ps_new (gq := 0) HW.out HB.out (Nat.le_succ _) (Nat.le_refl _) hq hb); clear hq hb HW HB))
  generalize w.heap.size + 1 = g at *
  generalize w1.heap.size = gq at *
  obtain ⟨gb, hgb⟩ : ∃ gb, gb = w.heap.size := ⟨_, rfl⟩
  rw [← hgb] at HT
  clear hgb
  go_loopg [9] (l.length + 1) (fun kq v9 w' => ∃ (i : Nat) (q : List Int), v9 = .int .i64 (i : Int) ∧ i ≤ l.length ∧ i + kq = l.length + 1 ∧ Aside0 (PS w w' g gb gq N NoF q q))
  case atStart => exact ⟨0, [], rfl, by omega, by omega, HT⟩
  case round =>
    clear HT
    obtain ⟨i, q, rfl, hil, hik, HT⟩ := hrel
    cases gk with
    | zero => exact absurd hik (by omega)
    | succ k1 =>
    by_cases hlt : i < l.length
    · have hb : decide ((i : Int) < (l.length : Int)) = true := decide_eq_true (by omega)
      have hbb : decide (i < l.length) = true := decide_eq_true (by omega)
      have hp0 : (0 : Int) ≤ (i : Int) := by omega
      have hp1 : (i : Int) < (l.length : Int) := by omega
      obtain ⟨x, hA, hx⟩ := HR.out i hlt
      subst hA
      obtain ⟨hx0, hw0⟩ := hx 0 .u8 rfl
      obtain ⟨hx1, hw1⟩ := hx 1 .u8 rfl
      obtain ⟨hx2, hw2⟩ := hx 2 .i64 rfl
      obtain ⟨hx3, hw3⟩ := hx 3 .i64 rfl
      clear hx
      have hB := ps_base HT.out
      replace hx0 := pw_cell_below hB hx0
      replace hx1 := pw_cell_below hB hx1
      replace hx2 := pw_cell_below hB hx2
      replace hx3 := pw_cell_below hB hx3
      generalize (l.getD i []).getD 0 0 = x0 at *
      generalize (l.getD i []).getD 1 0 = x1 at *
      generalize (l.getD i []).getD 2 0 = x2 at *
      generalize (l.getD i []).getD 3 0 = x3 at *
      have e3 : [IntKind.u8, IntKind.u8, IntKind.i64, IntKind.i64].length = 4 := rfl
      rw [e3] at hx0 hx1 hx2 hx3
      rw [add_field _ _ _ (by omega)] at hx1 hx2 hx3
      rw [Nat.add_zero] at hx0
      clear e3 hB
      have HA := pa_start HT x0 x1 x2 x3
      have hr0 : 0 ≤ x0 ∧ x0 ≤ 255 := by simpa [Lit.wf, IntKind.min, IntKind.max, IntKind.signed, IntKind.bits] using hw0
      have HQN := Aside0.mk (win_len_le HT.out.1)
      clear hw0 hw1 hw2 hw3 HT
      go_upto_region 11 with (fail)
      clear hx0 hx1 hx2 hx3
      generalize wr.alloc (.cells #[.int .u8 x0, .int .u8 x1, .int .i64 x2, .int .i64 x3] 45) = W1 at HA ⊢
      generalize wr.heap.size = gA at HA ⊢
      have hc0 := pa_c0 HA
      have hm : x0 % 4 = 0 ∨ x0 % 4 = 1 ∨ x0 % 4 = 2 ∨ x0 % 4 = 3 := by omega
      have HM := Aside0.mk hm
      clear hm
      go_upto_block 2 with (fail)
      clear hc0
      go_cut [] (fun wc => ∃ q' : List Int, Aside0 (PS w wc g gb gq N NoF q' q'))
      case first =>
        rcases kinds4 (x0 % 4) HM.out with hb0 | ⟨hb0, hb1⟩ | ⟨hb0, hb1, hb2⟩ | ⟨hb0, hb1, hb2⟩
        all_goals clear HM
        · have hc1 := pa_c1 HA
          go_wp2_with (first
            | (go_at_call 9; (with_reducible refine (ps_put x1 (pa_ps HA)).mono ?_); rintro e w2 ⟨rfl, hs, hk⟩; have HA' := pa_step HA hs HA.out.2.1 hk; clear hs hk HA hc1; have hc1 := pa_c1 HA')
            | (go_at_call 16; (with_reducible refine (ps_qput x1 (pa_ps HA') HQN.out).mono ?_); rintro e w3 ⟨rfl, hs, hk⟩; have HT := Aside0.mk (ps_no hs); clear hs hk HA' hc1))
          go_meet
          case rel => exact ⟨_, HT⟩
        · have hc2 := pa_c2 HA
          go_wp2_with (first
            | (go_at_call 13; (with_reducible refine (ps_back x2 (pa_ps HA)).mono ?_); rintro e w2 ⟨rfl, hs, hd⟩; have HA' := pa_drawn HA hs hd; clear hs hd HA hc2; have hc2 := pa_c2 HA')
            | (go_at_call 17; (with_reducible refine (ps_qback x2 (pa_ps HA') HQN.out).mono ?_); rintro e w3 ⟨rfl, hs, hd⟩; have HT := Aside0.mk (ps_no hs); clear hs hd HA' hc2; generalize backV q x2 = X at *; generalize backO q x2 = B at *))
          go_meet
          case rel => exact ⟨_, HT⟩
        · have hc2 := pa_c2 HA
          have hc3 := pa_c3 HA
          have HRL := Aside0.mk (Nat.lt_of_le_of_lt (repV_len q x2 x3) (show 65536 < 140737488355328 by decide))
          go_wp2_with (first
            | (go_at_call 14; (with_reducible refine (ps_rep x2 x3 (pa_ps HA)).mono ?_); rintro e w2 ⟨vx, rfl, hs, hx, hk⟩; have HA' := pa_step HA hs (.inl HA.out.2.1) hk; have HX := Aside0.mk hx; obtain ⟨Ax, cx, hvx, hcx, _⟩ := xr_slice hx; subst hvx; clear hs hk HA hc2 hc3 hx; have hc2 := pa_c2 HA'; have hc3 := pa_c3 HA')
            | (go_at_call 18; (with_reducible refine (ps_qrep x2 x3 (pa_ps HA') HQN.out).mono ?_); rintro e w3 ⟨Ay, cy, rfl, hs, hcy, hC, hk⟩; have HT := Aside0.mk hs; have HCY := Aside0.mk (And.intro hcy hC); have HX' := Aside0.mk (xr_fk HX.out hk); clear hs hk hcy hC HA' HX hc2 hc3; generalize decide (repC q x2 x3) = B at *; generalize repV q x2 x3 = rl at *; generalize repQ N q x2 x3 = q' at *)
            | (go_at_call 10; (with_reducible refine (ps_same rl HRL.out (xr_C HX'.out) hcx HCY.out.2 HCY.out.1).mono ?_); rintro e w4 ⟨rfl, hd⟩; have HT2 := Aside0.mk (ps_drawn HT.out hd); have HX2 := Aside0.mk (xr_drawn HX'.out hd); clear hd HT HX' HCY)
            | (go_at_call 19; (with_reducible refine (ps_spoil _ HT2 HX2.out HRL.out).mono ?_); rintro e w5 ⟨rfl, hs⟩; have HT3 := Aside0.mk (ps_no hs); clear hs HT2 HX2))
          go_meet
          case rel => exact ⟨_, HT3⟩
        · go_wp2_with (first
            | (go_at_call 20; (with_reducible refine (ps_clear (pa_ps HA)).mono ?_); rintro e w2 ⟨rfl, hs, hk⟩; have HT := Aside0.mk (ps_no hs); clear hs hk HA; obtain ⟨Aq, cq, _, hcq, _, _, hfq⟩ := rq_cells HT.out.2.1))
          go_meet
          case rel => exact ⟨_, ⟨ps_qclear HT.out⟩⟩
      case rest =>
        clear HM HA
        obtain ⟨q', HT⟩ := hcut
        obtain ⟨A2, c2, hpb⟩ := pb_open HT.out
        have HP := Aside0.mk hpb
        clear hpb HT
        go_wp2_with (go_at_call 11; (with_reducible refine (pb_tail HP).mono ?_); rintro e w2 ⟨At, ct, rfl, ht⟩; have HQ := Aside0.mk ht; clear ht HP)
        go_region_held3 (fun W' => W'.cell? ⟨gq, 1, none⟩ = some (.slice A2 q'.length c2)) (first | exact pq_c HQ | exact pq_c (pq_drew HQ))
          (first
            | (go_at_call 10; (with_reducible refine (pq_same (pq_drew HQ)).mono ?_); rintro e w3 ⟨rfl, ht⟩; have HQ' := Aside0.mk ht; clear HQ ht; have HQ := HQ'; clear HQ')
            | (go_at_call 12; (with_reducible refine (pq_len HQ).mono ?_); rintro e w4 ⟨rfl, ht⟩; have HQ' := Aside0.mk ht; clear HQ ht; have HQ := HQ'; clear HQ')
            | (go_at_call 21; (with_reducible refine (pq_size HQ).mono ?_); rintro e w5 ⟨rfl, ht⟩; have HQ' := Aside0.mk ht; clear HQ ht; have HQ := HQ'; clear HQ'))
        go_wp2_with (go_at_call 19; (with_reducible refine (pq_spoil _ HQ).mono ?_); rintro e w6 ⟨rfl, ht⟩; have HZ := Aside0.mk ht; clear ht HQ)
        go_roundg k1
        case measure => omega
        case rel => exact ⟨i + 1, q', by go_num, by omega, by omega, HZ⟩
    · have hb : decide ((i : Int) < (l.length : Int)) = false := decide_eq_false (by omega)
      have hbb : decide (i < l.length) = false := decide_eq_false (by omega)
      obtain ⟨A2, c2, hpb⟩ := pb_open HT.out
      have HP := Aside0.mk hpb
      clear hpb HT
      go_wp2
      go_region_held3 (fun W' => W'.cell? ⟨gq, 1, none⟩ = some (.slice A2 q.length c2)) (first | exact pb_c HP | exact pb_c (pb_drew HP) | exact pq_c HQ)
        (first
          | (go_at_call 11; (with_reducible refine (pb_tail (pb_drew HP)).mono ?_); rintro e w2 ⟨At, ct, rfl, ht⟩; have HQ := Aside0.mk ht; clear ht HP)
          | (go_at_call 10; (with_reducible refine (pq_same HQ).mono ?_); rintro e w3 ⟨rfl, ht⟩; have HQ' := Aside0.mk ht; clear HQ ht; have HQ := HQ'; clear HQ'))
      go_wp2
      go_ret
      exact ⟨rfl, ps_base HQ.out.1.1⟩
end Go.Proofs.Ytcpijkckjahfdaa.PAll
