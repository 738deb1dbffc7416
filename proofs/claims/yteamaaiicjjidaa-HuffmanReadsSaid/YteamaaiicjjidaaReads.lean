/- HuffmanReads' walk: symbols read out of any bytes, put in one at a time, are the document's. -/
import Derived.Test.YteamaaiicjjidaaRead
import Derived.Test.YteamaaiicjjidaaQRead
import Derived.Test.YteamaaiicjjidaaCopy
namespace Go.Proofs.Yteamaaiicjjidaa.PAll
open Go.RowKit Go.Proofs.Yteamaaiicjjidaa.Huf Go.Proofs.YteamaaiicjjidaaW.PrintWords Go.Proofs.YteamaaiicjjidaaW.PrintLast Go.Proofs.YteamaaiicjjidaaW.PrintMore
attribute [local go_sem] max2_int min2_int max_two min_two max_three min_three max_four min_four   -- for this text's walks alone
set_option linter.unusedVariables false
set_option linter.unusedSimpArgs false
/-- both readers. -/
def BR (w W : World) (g1 g2 : Nat) (b1 b2 : List Bool) : Prop := Rdr w W g1 (val b1) b1.length ∧ RB w W g2 b2 ∧ g1 ≠ g2
theorem rb_keep {w W W' : World} {g1 g2 H n : Nat} {bs : List Bool} (h1 : Rdr w W g1 H n) (h : RB w W g2 bs) (hne : g1 ≠ g2) (hk : KeepBut W W' g1 none) (hB : Below w.heap.size w W') : RB w W' g2 bs := by
  obtain ⟨v, h2, h3, h4, h5⟩ := h
  refine ⟨v, hk.blk h2 (fun e => hne e.symm) (by simp), h3, own_move h4 (fun k hk' => ?_), hB⟩
  have hlt := own_lt h4 k hk'
  exact hk.2 k hlt (fun e => own_ne h4 h1.1.1 (by decide) (by rw [hk', e])) (by simp)
theorem rdr_foot {w W W' : World} {g1 g2 H n : Nat} (h : Rdr w W g1 H n) (hne : g1 ≠ g2) (hf : Own.Foot W W' g2 4) (hB : Below w.heap.size w W') : Rdr w W' g1 H n :=
  ⟨⟨hf.2 _ _ _ h.1.1 hne (by decide), h.1.2⟩, hB, h.2.2⟩
section
variable {w W : World} {g1 g2 : Nat} {b1 b2 : List Bool}
theorem br_one (h : Aside0 (BR w W g1 g2 b1 b2)) {f : FuncId} {args : Array Value} {v : Value} {b1' : List Bool}
    (hc : Aside0 (Rdr w W g1 (val b1) b1.length) → Calls Try.prog f args W fun e W' => e = .returned v ∧ Rdr w W' g1 (val b1') b1'.length ∧ KeepBut W W' g1 none) :
    Calls Try.prog f args W fun e W' => e = .returned v ∧ BR w W' g1 g2 b1' b2 ∧ KeepBut W W' g1 none :=
  (hc ⟨h.out.1⟩).mono fun e W' ⟨he, hr, hk⟩ => ⟨he, ⟨hr, rb_keep h.out.1 h.out.2.1 h.out.2.2 hk hr.2.1, h.out.2.2⟩, hk⟩
theorem br_two (h : Aside0 (BR w W g1 g2 b1 b2)) {f : FuncId} {args : Array Value} {v : Value} {b2' : List Bool}
    (hc : Aside0 (RB w W g2 b2) → Calls Try.prog f args W fun e W' => e = .returned v ∧ RB w W' g2 b2' ∧ Own.Foot W W' g2 4) :
    Calls Try.prog f args W fun e W' => e = .returned v ∧ BR w W' g1 g2 b1 b2' :=
  (hc ⟨h.out.2.1⟩).mono fun e W' ⟨he, hr, hf⟩ => by
    obtain ⟨v', h1, h2, h3, h4⟩ := hr
    exact ⟨he, rdr_foot h.out.1 h.out.2.2 hf h4, ⟨v', h1, h2, h3, h4⟩, h.out.2.2⟩
theorem br_drew (h : Aside0 (BR w W g1 g2 b1 b2)) : Aside0 (BR w W.drew g1 g2 b1 b2) := by
  obtain ⟨⟨h1, ⟨v, h2, h3, h4, h5⟩, h6⟩⟩ := h
  exact ⟨⟨(rdr_drew ⟨h1⟩).out, ⟨v, h2, h3, h4, below_drew h5⟩, h6⟩⟩
theorem br_g2 (h : Aside0 (BR w W g1 g2 b1 b2)) : ∃ A c, W.cell? ⟨g2, 0, none⟩ = some (.slice A b2.length c) := by
  obtain ⟨⟨h1, ⟨v, h2, h3, h4, h5⟩, h6⟩⟩ := h
  obtain ⟨A, c, rfl⟩ := own_slice h4
  exact ⟨A, c, cellRB h2⟩
theorem br_below (h : Aside0 (BR w W g1 g2 b1 b2)) : Below w.heap.size w W := h.out.1.2.1
theorem br_held (h : Aside0 (BR w W g1 g2 b1 b2)) : Calls Try.prog 19 #[.pointer (some ⟨g1, 0, none⟩)] W fun e W' => e = .returned (.int .i64 (b1.length : Int)) ∧ BR w W' g1 g2 b1 b2 ∧ KeepBut W W' g1 none :=
  (rdr_held ⟨h.out.1⟩).mono fun e W' ⟨he, hs, hk⟩ => ⟨he, ⟨hs, rb_keep h.out.1 h.out.2.1 h.out.2.2 hk hs.2.1, h.out.2.2⟩, hk⟩
theorem br_new {w W' : World} {r : Nat} (h : Rdr w W' r 0 0) : BR w (W'.alloc (.cells #[.slice none 0 0] 47)) r W'.heap.size [] [] :=
  ⟨⟨h.1.below (below_alloc (Below.refl _ _) _), below_alloc h.2.1 _, h.2.2⟩, ⟨_, by simpa using heap_alloc_new W' _, h.2.1.size, own_nil _ _ _ _, below_alloc h.2.1 _⟩, Nat.ne_of_lt h.1.lt⟩
end
theorem rdr_putL {w W : World} {r : Nat} {bs : List Bool} (b : Int) (h : Aside0 (Rdr w W r (val bs) bs.length)) (hn : bs.length ≤ 56 ∧ 0 ≤ b ∧ b ≤ 255) :
    Calls Try.prog 20 #[.pointer (some ⟨r, 0, none⟩), .int .u8 b] W fun e W' => e = .returned (.bool true) ∧ Rdr w W' r (val (bs ++ bitsL b.toNat)) (bs ++ bitsL b.toNat).length ∧ KeepBut W W' r none := by
  refine (rdr_put b h ⟨hn⟩).mono ?_
  rintro e W' ⟨he, hr, hk⟩
  refine ⟨he, ?_, hk⟩
  rw [val_append, (bits_f b hn.2.1 hn.2.2).2, List.length_append, bitsL_len]
  exact hr
theorem cell_lt {w : World} {p : Addr} {v : Value} (h : w.cell? p = some v) : p.block < w.heap.size := by
  rcases Nat.lt_or_ge p.block w.heap.size with hl | hl
  · exact hl
  · unfold World.cell? at h
    rw [Array.getElem?_eq_none hl] at h
    simp at h
/-- the two rows of bytes stay what they are. -/
def InU (AB : Option Addr) (lb : List Int) (AR : Option Addr) (lr : List Int) (w : World) : Prop :=
  ∀ i : Nat, ∀ W', Below w.heap.size w W' → (i < lb.length → ∃ ad, AB = some ad ∧ W'.cell? (ad.add i) = some (.int .u8 (lb.getD i 0)) ∧ 0 ≤ lb.getD i 0 ∧ lb.getD i 0 ≤ 255) ∧ (i < lr.length → ∃ ad, AR = some ad ∧ W'.cell? (ad.add i) = some (.int .u8 (lr.getD i 0)) ∧ 0 ≤ lr.getD i 0 ∧ lr.getD i 0 ≤ 255)
set_option maxHeartbeats 8000000 in
set_option maxRecDepth 100000 in
theorem reads_walk (A : Option Addr) (c : Nat) (l : List Int) (AB : Option Addr) (cB : Nat) (lb : List Int) (AR : Option Addr) (cR : Nat) (lr : List Int) (W : World) (hr : Kd.C (Kd.int .i64) W A l.length l) (hc : l.length ≤ c) (hl : l.length * 8 ≤ 140737488355328)
    (hb : Kd.C (Kd.int .u8) W AB lb.length lb) (hwb : ∀ x ∈ lb, 0 ≤ x ∧ x ≤ 255) (hrr : Kd.C (Kd.int .u8) W AR lr.length lr) (hwr : ∀ x ∈ lr, 0 ≤ x ∧ x ≤ 255) (hbl : lb.length ≤ 140737488355328) (hrl : lr.length ≤ 140737488355328) :
    Calls Try.prog 5 #[.slice A l.length c, .slice AB lb.length cB, .slice AR lr.length cR] W fun e W' => e = .returned (.bool true) ∧ Below W.heap.size W W' := by
  have HR := Aside0.mk hr
  have HL := Aside0.mk hl
  have HCP := Aside0.mk hc
  have HLB := Aside0.mk hb
  have HLR := Aside0.mk hrr
  have HWB := Aside0.mk hwb
  have HWR := Aside0.mk hwr
  have HLL := Aside0.mk (show lb.length ≤ 140737488355328 ∧ lr.length ≤ 140737488355328 from ⟨hbl, hrl⟩)
  clear hr hl hc hb hrr hwb hwr hbl hrl
  go_enter Try.func5, Try.ntmps5
  go_wp2_with ((refine app_copy ?_ (.tmp 21) (.tmp 22) ?_ A c l ?_ ?_ HR.out HL.out ?_); (· rfl); (· rfl); (· rfl); (· rfl); intro A2 c2 w2 hown hC hlc hB; have HC2 := Aside0.mk hC; have HLC := Aside0.mk hlc; have HB2 := Aside0.mk hB; clear hown hC hlc hB)
  refine (new_calls A2 c2 l w2 HC2.out HLC.out).mono ?_
  rintro e w5 (⟨hne, rfl, hb⟩ | ⟨he0, g, cb, mb, rfl, ht, hb, hg1, hg2, hg3⟩)
  · have HB5 := Aside0.mk (below_step HB2.out hb)
    have HR5 := Aside0.mk (Kd.C_below HR.out HB5.out)
    have HNE := Aside0.mk hne
    clear HC2 HB2 hb hne
    generalize hEE : er l = E at *
    have HEE := Aside0.mk hEE
    clear hEE
    go_wp2_with (first
        | (go_at_call 11; (refine (qnew_calls A c l w5 HR5.out HCP.out).mono ?_); rintro e w6 (⟨hne6, rfl, hb6⟩ | ⟨he6, _⟩); rotate_left 1; (· exact absurd (HEE.out.symm.trans he6) HNE.out); have HB6 := Aside0.mk (below_step HB5.out hb6); clear hne6 hb6)
        | (go_at_call 16; (with_reducible refine (rdr_new W _ HB6).mono ?_); rintro e w7 ⟨r, rfl, hr7, hb7, hg7⟩; have HB7 := Aside0.mk (below_step HB6.out (below_step hb7 (below_alloc (Below.refl _ _) (.cells #[.slice none 0 0] 47)))); clear hr7 hb7 hg7)
        | (go_at_call 13; (with_reducible refine (awake_calls _).mono ?_); rintro e w8 ⟨rfl, hd⟩; have HB8 := Aside0.mk (below_step HB7.out hd); clear hd))
    go_ret
    exact ⟨rfl, HB8.out⟩
  · have HB5 := Aside0.mk (below_step HB2.out hb)
    have HR5 := Aside0.mk (Kd.C_below HR.out HB5.out)
    have HE := Aside0.mk he0
    have HO := Aside0.mk (er_ok he0)
    have HTT := Aside0.mk ht
    clear HC2 HB2 hb he0 hg1 hg2 hg3 ht
    go_wp2_with (first
        | (go_at_call 11; (refine (qnew_calls A c l w5 HR5.out HCP.out).mono ?_); rintro e w6 (⟨hne6, _⟩ | ⟨_, q, qb, rfl, hq, hb6⟩); (· exact absurd HE.out hne6); have HB6 := Aside0.mk (below_step HB5.out hb6); have HT6 := Aside0.mk (ht_below HTT.out hb6); have HQ6 := Aside0.mk hq; clear hb6 hq HTT HR5)
        | (go_at_call 16; (with_reducible refine (rdr_new w6 _ ⟨Below.refl _ _⟩).mono ?_); rintro e w7 ⟨r, rfl, hr7, hb7, hg7⟩; have HBR := Aside0.mk (br_new hr7); clear hr7 hb7 hg7))
    generalize w7.heap.size = gh at *
    have HU : Aside0 (∀ i : Nat, ∀ W', Below w6.heap.size w6 W' → (i < lb.length → ∃ ad, AB = some ad ∧ W'.cell? (ad.add i) = some (.int .u8 (lb.getD i 0)) ∧ 0 ≤ lb.getD i 0 ∧ lb.getD i 0 ≤ 255) ∧ (i < lr.length → ∃ ad, AR = some ad ∧ W'.cell? (ad.add i) = some (.int .u8 (lr.getD i 0)) ∧ 0 ≤ lr.getD i 0 ∧ lr.getD i 0 ≤ 255)) := ⟨fun i W' hbw => by
      refine ⟨fun hi => ?_, fun hi => ?_⟩
      · obtain ⟨ad, e, hcell⟩ := Kd.at_int (Kd.C_below HLB.out (below_step HB6.out hbw)) (i : Int) (by omega) (by omega)
        have e2 : lb.getD i 0 = lb[i] := by simp [List.getD, hi]
        rw [rd_at hi, Int.toNat_natCast, ← e2] at hcell
        exact ⟨ad, e, hcell, by rw [e2]; exact HWB.out _ (List.getElem_mem hi)⟩
      · obtain ⟨ad, e, hcell⟩ := Kd.at_int (Kd.C_below HLR.out (below_step HB6.out hbw)) (i : Int) (by omega) (by omega)
        have e2 : lr.getD i 0 = lr[i] := by simp [List.getD, hi]
        rw [rd_at hi, Int.toNat_natCast, ← e2] at hcell
        exact ⟨ad, e, hcell, by rw [e2]; exact HWR.out _ (List.getElem_mem hi)⟩⟩
    have HUU : Aside0 (InU AB lb AR lr w6) := ⟨HU.out⟩
    clear HU
    go_loopg [13] 301 (fun kq v13 w' => ∃ (i : Nat) (bs : List Bool), v13 = .int .i64 (i : Int) ∧ i + kq = 301 ∧ i ≤ 300 ∧ Aside0 (BR w6 w' r gh bs bs))
    case atStart => exact ⟨0, [], rfl, by omega, by omega, HBR⟩
    case round =>
      clear HBR
      obtain ⟨i, bs, rfl, hiq, hi300, HBR⟩ := hrel
      cases gk with
      | zero => exact absurd hiq (by omega)
      | succ k1 =>
      by_cases h12 : i ≤ lb.length ∧ i < 300
      · have h1 : decide ((i : Int) ≤ (lb.length : Int)) = true := decide_eq_true (by omega)
        have h1n : decide (i ≤ lb.length) = true := decide_eq_true h12.1
        have h2 : decide ((i : Int) < 300) = true := decide_eq_true (by omega)
        have h2n : decide (i < 300) = true := decide_eq_true h12.2
        have H12 := Aside0.mk h12
        clear h12
        go_upto_if 65 with (fail)
        go_cut [14] (fun v14 wc => ∃ n : Nat, v14 = .int .i64 (n : Int) ∧ n ≤ 11 ∧ Aside0 (BR w6 wc r gh bs bs))
        case first =>
          by_cases h3 : i < lr.length
          · have h3b : decide ((i : Int) < (lr.length : Int)) = true := decide_eq_true (by omega)
            obtain ⟨ad, rfl, hcell, x0, x1⟩ := (HUU.out i _ (br_below HBR)).2 h3
            have hi0 : (0 : Int) ≤ (i : Int) := by omega
            have hi1 : (i : Int) < (lr.length : Int) := by omega
            generalize lr.getD i 0 = x at *
            obtain ⟨n, hn⟩ : ∃ n : Nat, n = (x % 12).toNat := ⟨_, rfl⟩
            have HN : Aside0 (x % 12 = (n : Int) ∧ n ≤ 11) := ⟨by omega⟩
            have ht : Int.tmod x 12 = x % 12 := Int.tmod_eq_emod_of_nonneg x0
            clear hn
            go_wp2
            go_meet
            case rel => exact ⟨n, by rw [← HN.out.1], HN.out.2, HBR⟩
          · have h3b : decide ((i : Int) < (lr.length : Int)) = false := decide_eq_false (by omega)
            go_wp2
            go_meet
            case rel => exact ⟨1, rfl, by omega, HBR⟩
        case rest =>
          clear HBR
          obtain ⟨n, rfl, hn11, HBR⟩ := hcut
          go_wp2
          go_loopg [15] (n + 1) (fun kq v15 w' => ∃ (k : Nat) (bs' : List Bool), v15 = .int .i64 (k : Int) ∧ k + kq = n + 1 ∧ k ≤ n ∧ Aside0 (BR w6 w' r gh bs' bs'))
          case atStart => exact ⟨0, bs, rfl, by omega, by omega, HBR⟩
          case round =>
            clear HBR
            obtain ⟨k, bs', rfl, hkq, hkn, HBR⟩ := hrel
            cases gk with
            | zero => exact absurd hkq (by omega)
            | succ k2 =>
            by_cases hk : k < n
            · have hkb : decide ((k : Int) < (n : Int)) = true := decide_eq_true (by omega)
              have hkb2 : decide (k < n) = true := decide_eq_true hk
              obtain ⟨s, how, m, hL⟩ := look_ex l bs'
              have HLK := Aside0.mk hL
              clear hL
              have s1 : ((s : Int) != (s : Int)) = false := bne_self_eq_false _
              have s2 : ((how : Int) != (how : Int)) = false := bne_self_eq_false _
              have HTA := Aside0.mk (ht_below HT6.out (br_below HBR))
              have h64 : bs'.length ≤ 64 := HBR.out.1.2.2.2
              have H64 := Aside0.mk h64
              have n1 : (((bs'.drop m).length : Int) != ((bs'.drop m).length : Int)) = false := bne_self_eq_false _
              clear h64
              go_wp2_with (first
                | (go_at_call 17; (with_reducible refine (br_one HBR (fun h' => (read_calls s how m HTA h' HO.out.1 HO.out.2.2 HO.out.2.1 HLK.out).mono (fun e W' hh => ⟨hh.1, hh.2.1, hh.2.2.2⟩))).mono ?_); rintro e w8 ⟨rfl, hbr, hk8⟩; have HBS := Aside0.mk hbr; have HQA := Aside0.mk (qt_below HQ6.out (br_below HBS)); clear hbr hk8 HBR HTA)
                | (go_at_call 18; (with_reducible refine (br_two HBS (fun h' => qread_calls s how m HQA h' HO.out.1 HO.out.2.2 HO.out.2.1 (by have := H64.out; omega) HLK.out)).mono ?_); rintro e w9 ⟨rfl, hbr⟩; have HBT := Aside0.mk hbr; clear hbr HBS HQA; obtain ⟨A9, c9, hg9⟩ := br_g2 HBT; have HG9 := Aside0.mk hg9; clear hg9))
              go_region_held3 (fun W' => W'.cell? ⟨gh, 0, none⟩ = some (.slice A9 (bs'.drop m).length c9)) (first | exact HG9.out)
                (first
                  | (go_at_call 19; (with_reducible refine (br_held (br_drew HBT)).mono ?_); rintro e w10 ⟨rfl, ht, hkk⟩; have HG3 := Aside0.mk (keep_cell (W := w10) hkk (show World.cell? _ ⟨gh, 0, none⟩ = some (.slice A9 (bs'.drop m).length c9) from HG9.out) (fun e => ht.2.2 e.symm)); have HT' := Aside0.mk ht; clear HBT ht hkk HG9; have HBT := HT'; have HG9 := HG3; clear HT' HG3))
              go_wp2
              go_roundg k2
              case measure => omega
              case rel => exact ⟨k + 1, bs'.drop m, by go_num, by omega, by omega, HBT⟩
            · have hkb : decide ((k : Int) < (n : Int)) = false := decide_eq_false (by omega)
              obtain rfl : k = n := by omega
              have h64 : bs'.length ≤ 64 := HBR.out.1.2.2.2
              clear hkq hkn hk
              by_cases hi : i < lb.length
              · have hib : decide ((i : Int) < (lb.length : Int)) = true := decide_eq_true (by omega)
                have hib2 : decide (i < lb.length) = true := decide_eq_true hi
                obtain ⟨ad, rfl, hcell, x0, x1⟩ := (HUU.out i _ (br_below HBR)).1 hi
                have HUV : Aside0 (∀ W', Below w6.heap.size w6 W' → W'.cell? (ad.add i) = some (.int .u8 (lb.getD i 0))) := ⟨fun W' hb' => by
                  obtain ⟨ad2, e2, hc2, _⟩ := (HUU.out i W' hb').1 hi
                  cases e2
                  exact hc2⟩
                have hi0 : (0 : Int) ≤ (i : Int) := by omega
                have hi1 : (i : Int) < (lb.length : Int) := by omega
                generalize lb.getD i 0 = x at *
                clear hcell
                by_cases hfull : bs'.length ≤ 56
                · have HN := Aside0.mk (show bs'.length ≤ 56 ∧ 0 ≤ x ∧ x ≤ 255 from ⟨hfull, x0, x1⟩)
                  clear hfull x0 x1 h64
                  go_wp2
                  go_region_held3 (fun W' => W'.cell? (ad.add i) = some (.int .u8 x)) (first | exact HUV.out _ (br_below HBR) | exact HUV.out _ (br_below (br_drew HBR)))
                    (first
                      | (go_at_call 20; (with_reducible refine (br_one (br_drew HBR) (fun h' => rdr_putL x h' HN.out)).mono ?_); rintro e w2 ⟨rfl, ht, hkk⟩; have HB' := Aside0.mk ht; clear HBR ht hkk; have HBR := HB'; clear HB')
                      | (go_at_call 21; (with_reducible refine (br_two HBR (fun h' => rb_put x h' HN.out.1 HN.out.2.1 HN.out.2.2)).mono ?_); rintro e w2 ⟨rfl, ht⟩; have HB' := Aside0.mk ht; clear HBR ht; have HBR := HB'; clear HB'))
                  go_wp2
                  go_roundg k1
                  case measure => omega
                  case rel => exact ⟨i + 1, _, by go_num, by omega, by have := H12.out; omega, HBR⟩
                · have HN := Aside0.mk (show 56 < bs'.length from by omega)
                  clear hfull x0 x1 h64
                  go_wp2
                  go_region_held3 (fun W' => W'.cell? (ad.add i) = some (.int .u8 x)) (first | exact HUV.out _ (br_below HBR) | exact HUV.out _ (br_below (br_drew HBR)))
                    (first
                      | (go_at_call 20; (with_reducible refine (br_one (br_drew HBR) (fun h' => rdr_put_no x h' HN)).mono ?_); rintro e w2 ⟨rfl, ht, hkk⟩; have HB' := Aside0.mk ht; clear HBR ht hkk; have HBR := HB'; clear HB')
                      | (go_at_call 21; (with_reducible refine (br_two HBR (fun h' => rb_put_no x h' HN.out)).mono ?_); rintro e w2 ⟨rfl, ht⟩; have HB' := Aside0.mk ht; clear HBR ht; have HBR := HB'; clear HB'))
                  go_wp2
                  go_roundg k1
                  case measure => omega
                  case rel => exact ⟨i + 1, bs', by go_num, by omega, by have := H12.out; omega, HBR⟩
              · have hib : decide ((i : Int) < (lb.length : Int)) = false := decide_eq_false (by omega)
                have hib2 : decide (i < lb.length) = false := decide_eq_false hi
                go_wp2
                refine start_ (n := 19) (S := fun w' => True) (ds := []) #[false, false, false, false, false, false, false, false, false, false, false, false, false, false, false, false, false, false, false] (by kernel_rfl) rfl rfl trivial (fun hHeld => ?_)
                refine pure_ (i := 0) (N := some 107) (v := ?_) (a' := ?_) #[true, false, false, false, false, false, false, false, false, false, false, false, false, false, false, false, false, false, false] rfl rfl (by kernel_rfl) (fun _ _ _ h => h) (Or.inl ⟨by rfl, ?_⟩) ?_ ?_
                rotate_left
                · intro w'
                  go_simp
                  with_reducible rfl
                rotate_left
                · simp only [Act.put, List.setIfInBounds_toArray, List.set_cons_zero, List.set_cons_succ, i64_w, i32_w]
                  rfl
                refine pure_ (i := 1) (N := some 108) (v := ?_) (a' := ?_) #[true, true, false, false, false, false, false, false, false, false, false, false, false, false, false, false, false, false, false] rfl rfl (by kernel_rfl) (fun _ _ _ h => h) (Or.inl ⟨by rfl, ?_⟩) ?_ ?_
                rotate_left
                · intro w'
                  go_simp
                  with_reducible rfl
                rotate_left
                · simp only [Act.put, List.setIfInBounds_toArray, List.set_cons_zero, List.set_cons_succ, i64_w, i32_w]
                  rfl
                refine pure_ (i := 2) (N := some 109) (v := ?_) (a' := ?_) #[true, true, true, false, false, false, false, false, false, false, false, false, false, false, false, false, false, false, false] rfl rfl (by kernel_rfl) (fun _ _ _ h => h) (Or.inl ⟨by rfl, ?_⟩) ?_ ?_
                rotate_left
                · intro w'
                  go_simp
                  with_reducible rfl
                rotate_left
                · simp only [Act.put, List.setIfInBounds_toArray, List.set_cons_zero, List.set_cons_succ, i64_w, i32_w]
                  rfl
                refine pure_ (i := 3) (N := some 110) (v := ?_) (a' := ?_) #[true, true, true, true, false, false, false, false, false, false, false, false, false, false, false, false, false, false, false] rfl rfl (by kernel_rfl) (fun _ _ _ h => h) (Or.inl ⟨by rfl, ?_⟩) ?_ ?_
                rotate_left
                · intro w'
                  go_simp
                  with_reducible rfl
                rotate_left
                · simp only [Act.put, List.setIfInBounds_toArray, List.set_cons_zero, List.set_cons_succ, i64_w, i32_w]
                  rfl
                refine pure_ (i := 4) (N := some 111) (v := ?_) (a' := ?_) #[true, true, true, true, true, false, false, false, false, false, false, false, false, false, false, false, false, false, false] rfl rfl (by kernel_rfl) (fun _ _ _ h => h) (Or.inl ⟨by rfl, ?_⟩) ?_ ?_
                rotate_left
                · intro w'
                  go_simp
                  with_reducible rfl
                rotate_left
                · simp only [Act.put, List.setIfInBounds_toArray, List.set_cons_zero, List.set_cons_succ, i64_w, i32_w]
                  rfl
                refine pure_ (i := 5) (N := some 112) (v := undef) (a' := ?_) #[true, true, true, true, true, true, false, false, false, false, false, false, false, false, false, false, false, false, false] rfl rfl (by kernel_rfl) (fun _ _ _ h => h) (Or.inr ⟨by rfl, rfl⟩) ?_ ?_
                rotate_left
                · simp only [Act.put, List.setIfInBounds_toArray, List.set_cons_zero, List.set_cons_succ, i64_w, i32_w]
                  rfl
                refine pure_ (i := 6) (N := some 113) (v := undef) (a' := ?_) #[true, true, true, true, true, true, true, false, false, false, false, false, false, false, false, false, false, false, false] rfl rfl (by kernel_rfl) (fun _ _ _ h => h) (Or.inr ⟨by rfl, rfl⟩) ?_ ?_
                rotate_left
                · simp only [Act.put, List.setIfInBounds_toArray, List.set_cons_zero, List.set_cons_succ, i64_w, i32_w]
                  rfl
                refine pure_ (i := 7) (N := some 114) (v := undef) (a' := ?_) #[true, true, true, true, true, true, true, true, false, false, false, false, false, false, false, false, false, false, false] rfl rfl (by kernel_rfl) (fun _ _ _ h => h) (Or.inr ⟨by rfl, rfl⟩) ?_ ?_
                rotate_left
                · simp only [Act.put, List.setIfInBounds_toArray, List.set_cons_zero, List.set_cons_succ, i64_w, i32_w]
                  rfl
                refine pure_ (i := 8) (N := some 115) (v := undef) (a' := ?_) #[true, true, true, true, true, true, true, true, true, false, false, false, false, false, false, false, false, false, false] rfl rfl (by kernel_rfl) (fun _ _ _ h => h) (Or.inr ⟨by rfl, rfl⟩) ?_ ?_
                rotate_left
                · simp only [Act.put, List.setIfInBounds_toArray, List.set_cons_zero, List.set_cons_succ, i64_w, i32_w]
                  rfl
                refine pure_ (i := 9) (N := some 116) (v := undef) (a' := ?_) #[true, true, true, true, true, true, true, true, true, true, false, false, false, false, false, false, false, false, false] rfl rfl (by kernel_rfl) (fun _ _ _ h => h) (Or.inr ⟨by rfl, rfl⟩) ?_ ?_
                rotate_left
                · simp only [Act.put, List.setIfInBounds_toArray, List.set_cons_zero, List.set_cons_succ, i64_w, i32_w]
                  rfl
                refine pure_ (i := 10) (N := some 117) (v := undef) (a' := ?_) #[true, true, true, true, true, true, true, true, true, true, true, false, false, false, false, false, false, false, false] rfl rfl (by kernel_rfl) (fun _ _ _ h => h) (Or.inr ⟨by rfl, rfl⟩) ?_ ?_
                rotate_left
                · simp only [Act.put, List.setIfInBounds_toArray, List.set_cons_zero, List.set_cons_succ, i64_w, i32_w]
                  rfl
                refine pure_ (i := 11) (N := some 118) (v := undef) (a' := ?_) #[true, true, true, true, true, true, true, true, true, true, true, true, false, false, false, false, false, false, false] rfl rfl (by kernel_rfl) (fun _ _ _ h => h) (Or.inr ⟨by rfl, rfl⟩) ?_ ?_
                rotate_left
                · simp only [Act.put, List.setIfInBounds_toArray, List.set_cons_zero, List.set_cons_succ, i64_w, i32_w]
                  rfl
                refine pure_ (i := 12) (N := some 119) (v := undef) (a' := ?_) #[true, true, true, true, true, true, true, true, true, true, true, true, true, false, false, false, false, false, false] rfl rfl (by kernel_rfl) (fun _ _ _ h => h) (Or.inr ⟨by rfl, rfl⟩) ?_ ?_
                rotate_left
                · simp only [Act.put, List.setIfInBounds_toArray, List.set_cons_zero, List.set_cons_succ, i64_w, i32_w]
                  rfl
                refine pure_ (i := 13) (N := some 120) (v := undef) (a' := ?_) #[true, true, true, true, true, true, true, true, true, true, true, true, true, true, false, false, false, false, false] rfl rfl (by kernel_rfl) (fun _ _ _ h => h) (Or.inr ⟨by rfl, rfl⟩) ?_ ?_
                rotate_left
                · simp only [Act.put, List.setIfInBounds_toArray, List.set_cons_zero, List.set_cons_succ, i64_w, i32_w]
                  rfl
                refine pure_ (i := 14) (N := some 121) (v := undef) (a' := ?_) #[true, true, true, true, true, true, true, true, true, true, true, true, true, true, true, false, false, false, false] rfl rfl (by kernel_rfl) (fun _ _ _ h => h) (Or.inr ⟨by rfl, rfl⟩) ?_ ?_
                rotate_left
                · simp only [Act.put, List.setIfInBounds_toArray, List.set_cons_zero, List.set_cons_succ, i64_w, i32_w]
                  rfl
                refine pure_ (i := 15) (N := some 122) (v := undef) (a' := ?_) #[true, true, true, true, true, true, true, true, true, true, true, true, true, true, true, true, false, false, false] rfl rfl (by kernel_rfl) (fun _ _ _ h => h) (Or.inr ⟨by rfl, rfl⟩) ?_ ?_
                rotate_left
                · simp only [Act.put, List.setIfInBounds_toArray, List.set_cons_zero, List.set_cons_succ, i64_w, i32_w]
                  rfl
                refine pure_ (i := 16) (N := some 123) (v := undef) (a' := ?_) #[true, true, true, true, true, true, true, true, true, true, true, true, true, true, true, true, true, false, false] rfl rfl (by kernel_rfl) (fun _ _ _ h => h) (Or.inr ⟨by rfl, rfl⟩) ?_ ?_
                rotate_left
                · simp only [Act.put, List.setIfInBounds_toArray, List.set_cons_zero, List.set_cons_succ, i64_w, i32_w]
                  rfl
                refine pure_ (i := 17) (N := some 124) (v := undef) (a' := ?_) #[true, true, true, true, true, true, true, true, true, true, true, true, true, true, true, true, true, true, false] rfl rfl (by kernel_rfl) (fun _ _ _ h => h) (Or.inr ⟨by rfl, rfl⟩) ?_ ?_
                rotate_left
                · simp only [Act.put, List.setIfInBounds_toArray, List.set_cons_zero, List.set_cons_succ, i64_w, i32_w]
                  rfl
                refine pure_ (i := 18) (N := some 125) (v := ?_) (a' := ?_) #[true, true, true, true, true, true, true, true, true, true, true, true, true, true, true, true, true, true, true] rfl rfl (by kernel_rfl) (fun _ _ _ h => h) (Or.inl ⟨by rfl, ?_⟩) ?_ ?_
                rotate_left
                · intro w'
                  go_simp
                  with_reducible rfl
                rotate_left
                · simp only [Act.put, List.setIfInBounds_toArray, List.set_cons_zero, List.set_cons_succ, i64_w, i32_w]
                  rfl
                refine done_ (by kernel_rfl) ?_
                go_wp2
                go_roundg k1
                case measure => omega
                case rel => exact ⟨i + 1, bs', by go_num, by omega, by have := H12.out; omega, br_drew HBR⟩
      · by_cases h1 : i ≤ lb.length
        · have h1b : decide ((i : Int) ≤ (lb.length : Int)) = true := decide_eq_true (by omega)
          have h2 : decide ((i : Int) < 300) = false := decide_eq_false (by omega)
          have h2n : decide (i < 300) = false := decide_eq_false (by omega)
          have HBX := Aside0.mk (below_step HB6.out (br_below HBR))
          go_wp2_with (go_at_call 13; (with_reducible refine (awake_calls _).mono ?_); rintro e w8 ⟨rfl, hd⟩; have HB8 := Aside0.mk (below_step HBX.out hd); clear hd)
          go_ret
          exact ⟨rfl, HB8.out⟩
        · have h1b : decide ((i : Int) ≤ (lb.length : Int)) = false := decide_eq_false (by omega)
          have HBX := Aside0.mk (below_step HB6.out (br_below HBR))
          go_wp2_with (go_at_call 13; (with_reducible refine (awake_calls _).mono ?_); rintro e w8 ⟨rfl, hd⟩; have HB8 := Aside0.mk (below_step HBX.out hd); clear hd)
          go_ret
          exact ⟨rfl, HB8.out⟩
theorem reads_row (a0 : Option Addr) (len0 cap0 : Nat) (z0 : List Int) (a1 : Option Addr) (len1 cap1 : Nat) (z1 : List Int) (a2 : Option Addr) (len2 cap2 : Nat) (z2 : List Int) (w : World) (w0 : (a0 = none ∧ len0 = 0 ∧ cap0 = 0 ∧ z0 = []) ∨ ∃ x, a0 = some x ∧ len0 ≤ cap0 ∧ cap0 ≤ maxLen ∧ z0.length = cap0 ∧ (∀ i, i < z0.length → w.cell? (x.add i) = some (.int .i64 (z0.getD i 0))) ∧ ∀ n ∈ z0, (Lit.int .i64 n).wf = true) (y0 : len0 * 8 ≤ 140737488351232) (w1 : (a1 = none ∧ len1 = 0 ∧ cap1 = 0 ∧ z1 = []) ∨ ∃ x, a1 = some x ∧ len1 ≤ cap1 ∧ cap1 ≤ maxLen ∧ z1.length = cap1 ∧ (∀ i, i < z1.length → w.cell? (x.add i) = some (.int .u8 (z1.getD i 0))) ∧ ∀ n ∈ z1, (Lit.int .u8 n).wf = true) (y1 : len1 * 1 ≤ 140737488351232) (w2 : (a2 = none ∧ len2 = 0 ∧ cap2 = 0 ∧ z2 = []) ∨ ∃ x, a2 = some x ∧ len2 ≤ cap2 ∧ cap2 ≤ maxLen ∧ z2.length = cap2 ∧ (∀ i, i < z2.length → w.cell? (x.add i) = some (.int .u8 (z2.getD i 0))) ∧ ∀ n ∈ z2, (Lit.int .u8 n).wf = true) (y2 : len2 * 1 ≤ 140737488351232) :
    Calls Try.prog 5 #[.slice a0 len0 cap0, .slice a1 len1 cap1, .slice a2 len2 cap2] w fun e w' => e = .returned (.bool true) ∧ Below w.heap.size w w' := by
  obtain ⟨l0, rfl, hr0, hm0, hw0, hc0⟩ := ReadsInt.ofRowC w0
  obtain ⟨l1, rfl, hr1, hm1, hw1, hc1⟩ := ReadsInt.ofRowC w1
  obtain ⟨l2, rfl, hr2, hm2, hw2, hc2⟩ := ReadsInt.ofRowC w2
  have e1 : ∀ x ∈ l1, 0 ≤ x ∧ x ≤ 255 := fun x hx => by simpa [Lit.wf, IntKind.min, IntKind.max, IntKind.signed, IntKind.bits] using hw1 x hx
  have e2 : ∀ x ∈ l2, 0 ≤ x ∧ x ≤ 255 := fun x hx => by simpa [Lit.wf, IntKind.min, IntKind.max, IntKind.signed, IntKind.bits] using hw2 x hx
  exact reads_walk a0 cap0 l0 a1 cap1 l1 a2 cap2 l2 w (Kd.C_of_reads (enc := Value.int .i64) (d := (0 : Int)) (h1 := fun _ => rfl) hr0) hc0 (by omega) (Kd.C_of_reads (enc := Value.int .u8) (d := (0 : Int)) (h1 := fun _ => rfl) hr1) e1 (Kd.C_of_reads (enc := Value.int .u8) (d := (0 : Int)) (h1 := fun _ => rfl) hr2) e2 (by omega) (by omega)
end Go.Proofs.Yteamaaiicjjidaa.PAll
