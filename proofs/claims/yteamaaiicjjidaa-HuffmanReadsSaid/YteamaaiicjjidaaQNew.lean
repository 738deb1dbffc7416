/- The document's New: which table it makes of lengths, or which error it tells. -/
import Derived.Test.YteamaaiicjjidaaQTab
namespace Go.Proofs.Yteamaaiicjjidaa.PAll
open Go.RowKit Go.Proofs.Yteamaaiicjjidaa.Huf Go.Proofs.YteamaaiicjjidaaW.PrintWords Go.Proofs.YteamaaiicjjidaaW.PrintLast Go.Proofs.YteamaaiicjjidaaW.PrintMore
attribute [local go_sem] max2_int min2_int max_two min_two max_three min_three max_four min_four   -- for this text's walks alone
set_option linter.unusedVariables false
set_option linter.unusedSimpArgs false
def QPost (l : List Int) (W : World) (e : Ending) (W' : World) : Prop :=
  (er l ≠ 0 ∧ e = .returned (.tuple #[.pointer none, .int .i64 (er l)]) ∧ Below W.heap.size W W') ∨ (er l = 0 ∧ ∃ g cb, e = .returned (.tuple #[.pointer (some ⟨g, 0, none⟩), .int .i64 0]) ∧ QT W' g cb l ∧ Below W.heap.size W W')
theorem info45 : (Try.prog.info? 45).map (fun i => (i.zero, i.size, i.bytes)) = some (some (.slice none 0 0), 1, 24) := by kernel_rfl
theorem ct_one_take {l : List Int} {k : Nat} (h : k < l.length) : ct (l.take (k + 1)) 1 = ct (l.take k) 1 + if l[k] = 1 then 1 else 0 := by
  rw [ct_take_succ l k 1 h]
  by_cases e : l[k] = 1
  · rw [if_pos (by omega), if_pos e]
  · rw [if_neg (by omega), if_neg e]
/-- the document's new table. -/
structure QW (W w : World) (cb : Nat) (l : List Int) (P : Nat → List Bool) : Prop where
  tb : w.heap[cb + 1]? = some (.cells #[.slice (some ⟨cb, 0, none⟩) l.length l.length] 67 (0, 0))
  rows : QS w cb l.length P
  below : Below W.heap.size W w
  ge : W.heap.size ≤ cb
theorem qw_below {W w w' : World} {cb : Nat} {l : List Int} {P : Nat → List Bool} (h : QW W w cb l P) (hb : Below w.heap.size w w') : QW W w' cb l P := ⟨blk_below h.tb hb, qs_below h.rows hb, below_step h.below hb, h.ge⟩
theorem qw_congr {W w : World} {cb : Nat} {l : List Int} {P Q : Nat → List Bool} (h : QW W w cb l P) (he : ∀ s, s < l.length → P s = Q s) : QW W w cb l Q := ⟨h.tb, qs_congr h.rows he, h.below, h.ge⟩
theorem qw_set {W w : World} {cb : Nat} {l : List Int} {P : Nat → List Bool} (h : QW W w cb l P) {i b : Nat} (hi : i < l.length) {L : List Bool} (hB : BB w b L) : QW W (w.setCell ⟨cb, i, none⟩ (.slice (some ⟨b, 0, none⟩) L.length L.length)) cb l (fun s => if s = i then L else P s) :=
  ⟨blk_far h.tb (by show cb + 1 ≠ cb; omega) _, qs_set h.rows hi hB, h.below.setCell h.ge _, h.ge⟩
theorem made_nil (n : Nat) : madeCells #[Value.slice none 0 0] n = (List.replicate n (Value.slice none 0 0)).toArray := by
  apply Array.toList_inj.1
  simp [madeCells]
  exact List.ext_getElem (by simp) fun i h1 h2 => by simp [Nat.mod_one]
theorem made_false (n : Nat) : madeCells #[Value.bool false] n = (encs Value.bool (List.replicate n false)).toArray := by
  apply Array.toList_inj.1
  simp [madeCells, encs]
  exact List.ext_getElem (by simp) fun i h1 h2 => by simp [Nat.mod_one]
theorem qs_new {w : World} {cb n : Nat} (h : w.heap[cb]? = some (.cells (madeCells #[Value.slice none 0 0] n) 45 (0, 0))) : QS w cb n (fun _ => []) := by
  rw [made_nil] at h
  exact ⟨_, h, by simp, fun s hs => .inl ⟨rfl, by simp [hs]⟩⟩
theorem nx_bound {l : List Int} (h : Ok l) (hk : kr l ≤ 32768) (n j : Nat) (hn : n ≤ 15) : fs l n + ct (l.take j) n ≤ 32768 := by
  have := fs_bound h hk n hn
  have := ct_take_le l j n
  omega
def QEr (l : List Int) (b : Bool) : Prop := (b = true → er l = 81) ∧ (b = false → er l = 0)
set_option maxHeartbeats 8000000 in
set_option maxRecDepth 100000 in
theorem qnew_calls (A : Option Addr) (c : Nat) (l : List Int) (W : World) (hr : Kd.C (Kd.int .i64) W A l.length l) (hc : l.length ≤ c) : Calls Try.prog 11 #[.slice A l.length c] W (QPost l W) := by
  obtain ⟨_, kk, hkf⟩ := krs_f l
  have HKR := Aside0.mk (winkleref08_Kraft.calls kk A c l _ _ W hr hc hkf)
  have HR := Aside0.mk hr
  clear hkf hr hc
  by_cases hok : Ok l ∧ l.length ≤ 320
  · have e1 : krs l = (((kr l : Nat) : Int), true) := by unfold krs; rw [if_pos hok]
    rw [e1] at HKR
    clear e1
    have HOK := Aside0.mk hok
    have hl320 := hok.2
    clear hok
    by_cases h80 : 32768 < kr l
    · have h1a : decide ((32768 : Int) < (kr l : Int)) = true := decide_eq_true (by omega)
      have E := Aside0.mk (er_80 HOK.out h80)
      clear h80
      go_enter Try.func11, Try.ntmps11
      go_wp2_with (go_at_call 9; (with_reducible refine (HKR.out).mono ?_); rintro e w1 ⟨rfl, hd⟩; have HD := Aside0.mk hd; clear hd)
      go_ret2
      exact .inl ⟨by rw [E.out]; decide, by rw [E.out]; rfl, HD.out.below⟩
    · have h1a : decide ((32768 : Int) < (kr l : Int)) = false := decide_eq_false (by omega)
      go_enter Try.func11, Try.ntmps11
      go_wp2_with (go_at_call 9; (with_reducible refine (HKR.out).mono ?_); rintro e w1 ⟨rfl, hd⟩; have HD := Aside0.mk hd; clear hd)
      go_loopg [6, 7, 8] (l.length + 1) (fun kq v6 v7 v8 w' => ∃ k : Nat, v6 = .int .i64 (us (l.take k) : Int) ∧ v7 = .int .i64 (ct (l.take k) 1 : Int) ∧ v8 = .int .i64 (k : Int) ∧ k + kq = l.length + 1 ∧ k ≤ l.length ∧ Aside0 (Below W.heap.size W w'))
      case atStart => exact ⟨0, by simp [us], by simp [ct], rfl, by omega, by omega, ⟨HD.out.below⟩⟩
      case round =>
        clear HD
        obtain ⟨k, rfl, rfl, rfl, hkq, hkl, HB⟩ := hrel
        cases gk with
        | zero => exact absurd hkq (by omega)
        | succ k1 =>
        by_cases hlt : k < l.length
        · have hb : decide ((k : Int) < (l.length : Int)) = true := decide_eq_true (by omega)
          obtain ⟨ad, rfl, hcell⟩ := Kd.at_int (Kd.C_below HR.out HB.out) (k : Int) (by omega) (by omega)
          rw [rd_at hlt, Int.toNat_natCast] at hcell
          have hk0 : (0 : Int) ≤ (k : Int) := by omega
          have hk1 : (k : Int) < (l.length : Int) := by omega
          obtain ⟨o0, o1⟩ := ok_at HOK.out.1 hlt
          have hus := us_take hlt
          have husl := us_take_le l k
          have hct := ct_one_take hlt
          have hctl := ct_take_len l k 1
          by_cases hp : 0 < l[k]
          · have hpb : decide (0 < l[k]) = true := decide_eq_true hp
            rw [if_pos hp] at hus
            by_cases hp1 : l[k] = 1
            · have hpc : (l[k] == 1) = true := beq_iff_eq.2 hp1
              rw [if_pos hp1] at hct
              have HU := Aside0.mk hus
              have HC := Aside0.mk hct
              clear hus hct hp hp1 o0 o1
              generalize l[k] = x at *
              go_wp2
              go_roundg k1
              case measure => omega
              case rel => exact ⟨k + 1, by rw [HU.out]; rfl, by rw [HC.out]; rfl, by go_num, by omega, by omega, HB⟩
            · have hpc : (l[k] == 1) = false := beq_eq_false_iff_ne.2 hp1
              rw [if_neg hp1] at hct
              have HU := Aside0.mk hus
              have HC := Aside0.mk hct
              clear hus hct hp hp1 o0 o1
              generalize l[k] = x at *
              go_wp2
              go_roundg k1
              case measure => omega
              case rel => exact ⟨k + 1, by rw [HU.out]; rfl, by rw [HC.out]; rfl, by go_num, by omega, by omega, HB⟩
          · have hpb : decide (0 < l[k]) = false := decide_eq_false hp
            have hpc : (l[k] == 1) = false := beq_eq_false_iff_ne.2 (by omega)
            rw [if_neg hp] at hus
            rw [if_neg (by omega)] at hct
            have HU := Aside0.mk hus
            have HC := Aside0.mk hct
            clear hus hct hp o0 o1
            generalize l[k] = x at *
            go_wp2
            go_roundg k1
            case measure => omega
            case rel => exact ⟨k + 1, by rw [HU.out]; rfl, by rw [HC.out]; rfl, by go_num, by omega, by omega, HB⟩
        · have hb : decide ((k : Int) < (l.length : Int)) = false := decide_eq_false (by omega)
          obtain rfl : k = l.length := by omega
          simp only [List.take_length] at *
          clear hkq hkl hlt
          go_upto_region 14 with (fail)
          go_cut [58] (fun v58 wc => ∃ b : Bool, v58 = .bool b ∧ Aside0 (QEr l b) ∧ Aside0 (Below W.heap.size W wc))
          case first =>
            by_cases h2 : kr l < 32768
            · have h2a : decide ((kr l : Int) < 32768) = true := decide_eq_true (by omega)
              by_cases h3 : 0 < us l
              · have h3a : decide (0 < us l) = true := decide_eq_true h3
                by_cases h4 : 1 < us l
                · have h4a : decide ((1 : Int) < (us l : Int)) = true := decide_eq_true (by omega)
                  have h4b : decide (1 < us l) = true := decide_eq_true (by omega)
                  have E : Aside0 (QEr l true) := ⟨⟨fun _ => er_81 HOK.out h2 h3 (fun h => by omega), (fun h => by cases h)⟩⟩
                  clear h80 h2 h3 h4
                  go_wp2
                  go_meet
                  case rel => exact ⟨true, by first | rfl | simp [*], E, HB⟩
                · have h4a : decide ((1 : Int) < (us l : Int)) = false := decide_eq_false (by omega)
                  have h4b : decide (1 < us l) = false := decide_eq_false (by omega)
                  by_cases h5 : ct l 1 = 1
                  · have h5a : ((ct l 1 : Int) == 1) = true := beq_iff_eq.2 (by omega)
                    have h5b : ((ct l 1 : Int) != 1) = false := by simp; omega
                    have E : Aside0 (QEr l false) := ⟨⟨(fun h => by cases h), fun _ => er_0 HOK.out (by omega) (.inr (.inr ⟨by omega, h5⟩))⟩⟩
                    clear h80 h2 h3 h4 h5
                    go_wp2
                    go_meet
                    case rel => exact ⟨false, by first | rfl | simp [*], E, HB⟩
                  · have h5a : ((ct l 1 : Int) == 1) = false := beq_eq_false_iff_ne.2 (by omega)
                    have h5b : ((ct l 1 : Int) != 1) = true := by simp; omega
                    have E : Aside0 (QEr l true) := ⟨⟨fun _ => er_81 HOK.out h2 h3 (fun h => h5 h.2), (fun h => by cases h)⟩⟩
                    clear h80 h2 h3 h4 h5
                    go_wp2
                    go_meet
                    case rel => exact ⟨true, by first | rfl | simp [*], E, HB⟩
              · have h3a : decide (0 < us l) = false := decide_eq_false h3
                have E : Aside0 (QEr l false) := ⟨⟨(fun h => by cases h), fun _ => er_0 HOK.out (by omega) (.inr (.inl (by omega)))⟩⟩
                clear h80 h2 h3
                go_wp2
                go_meet
                case rel => exact ⟨false, by first | rfl | simp [*], E, HB⟩
            · have h2a : decide ((kr l : Int) < 32768) = false := decide_eq_false (by omega)
              have E : Aside0 (QEr l false) := ⟨⟨(fun h => by cases h), fun _ => er_0 HOK.out (by omega) (.inl (by omega))⟩⟩
              clear h80 h2
              go_wp2
              go_meet
              case rel => exact ⟨false, by first | rfl | simp [*], E, HB⟩
          case rest =>
            clear HB
            obtain ⟨b, rfl, E, HB⟩ := hcut
            cases b with
            | true =>
              have e81 := E.out.1 rfl
              go_wp2
              go_ret2
              exact .inl ⟨by rw [e81]; decide, by rw [e81]; rfl, HB.out⟩
            | false =>
              have e0 := E.out.2 rfl
              have E0 := Aside0.mk e0
              clear e0 E
              have hmk := print_make_of (P := Try.prog) 65 45 (.slice none 0 0) 24 Try.underlying65 info45 rfl (by decide) l.length (by omega)
              go_wp2
              have HW0 : Aside0 (QW W ((wc.alloc (.cells (madeCells #[Value.slice none 0 0] l.length) 45)).alloc (.cells #[.slice (some ⟨wc.heap.size, 0, none⟩) l.length l.length] 67)) wc.heap.size l (pc l 1 0)) := by
                have e1 : (wc.alloc (.cells (madeCells #[Value.slice none 0 0] l.length) 45)).heap.size = wc.heap.size + 1 := by simp
                have h1 := blk_new (wc.alloc (.cells (madeCells #[Value.slice none 0 0] l.length) 45)) (.cells #[.slice (some ⟨wc.heap.size, 0, none⟩) l.length l.length] 67)
                rw [e1] at h1
                exact ⟨⟨h1, qs_congr (qs_new (blk_alloc (blk_new wc _) _)) (fun s _ => (pc_start l s).symm), below_alloc (below_alloc HB.out _) _, HB.out.size⟩⟩
              clear hmk HB
              generalize wc.heap.size = cb at *
              go_loopg [10, 11] 17 (fun kq v10 v11 w' => ∃ n m : Nat, v11 = .int .i64 (n : Int) ∧ v10 = .int .i64 ((fs l m + ct l m : Nat) : Int) ∧ n = m + 1 ∧ m + kq = 17 ∧ m ≤ 15 ∧ Aside0 (QW W w' cb l (pc l n 0)))
              case atStart => exact ⟨1, 0, rfl, by rw [ct_zero]; rfl, rfl, by omega, by omega, HW0⟩
              case round =>
                clear HW0
                obtain ⟨n, m, rfl, rfl, hnm, hmq, hm15, HW⟩ := hrel
                cases gk with
                | zero => exact absurd hmq (by omega)
                | succ k1 =>
                have hEO := Aside0.mk (er_ok E0.out)
                by_cases hlt : m < 15
                · have hb : decide ((n : Int) ≤ 15) = true := decide_eq_true (by omega)
                  have hb2 : decide (n ≤ 15) = true := decide_eq_true (by omega)
                  have hfs : fs l n = 2 * (fs l m + ct l m) := by rw [hnm]; rfl
                  have hfb := fs_bound hEO.out.1 hEO.out.2.2 n (by omega)
                  have hf2 : wrap64 (2 * ((fs l m + ct l m : Nat) : Int)) = ((fs l n : Nat) : Int) := by rw [hfs]; unfold wrap64; omega
                  generalize fs l m + ct l m = q at *
                  have HNM := Aside0.mk hnm
                  have hn15 : n ≤ 15 := by omega
                  have hn1 : 1 ≤ n := by omega
                  have HF2 := Aside0.mk hf2
                  clear hfs hfb hnm hf2
                  go_wp2
                  go_loopg [10, 12] (l.length + 1) (fun kq v10 v12 w' => ∃ j : Nat, v12 = .int .i64 (j : Int) ∧ v10 = .int .i64 ((fs l n + ct (l.take j) n : Nat) : Int) ∧ j + kq = l.length + 1 ∧ j ≤ l.length ∧ Aside0 (QW W w' cb l (pc l n j)))
                  case atStart => exact ⟨0, rfl, by rw [HF2.out, List.take_zero, ct_nil]; rfl, by omega, by omega, HW⟩
                  case round =>
                    clear HW HF2
                    obtain ⟨j, rfl, rfl, hjq, hjl, HW⟩ := hrel
                    cases gk with
                    | zero => exact absurd hjq (by omega)
                    | succ k2 =>
                    by_cases hj : j < l.length
                    · have hjb : decide ((j : Int) < (l.length : Int)) = true := decide_eq_true (by omega)
                      obtain ⟨ad, rfl, hcell⟩ := Kd.at_int (Kd.C_below HR.out HW.out.below) (j : Int) (by omega) (by omega)
                      rw [rd_at hj, Int.toNat_natCast] at hcell
                      have hj0 : (0 : Int) ≤ (j : Int) := by omega
                      have hj1 : (j : Int) < (l.length : Int) := by omega
                      obtain ⟨o0, o1⟩ := ok_at HOK.out.1 hj
                      have hctj := ct_take_succ l j n hj
                      by_cases hp : l[j] = (n : Int)
                      · have hpb : (l[j] == (n : Int)) = true := beq_iff_eq.2 hp
                        have hpc : (l[j] != (n : Int)) = false := by simpa using hp
                        rw [if_pos (by omega)] at hctj
                        have hln : ln l j = n := by rw [ln_of hj, hp]; simp
                        have hXb := nx_bound hEO.out.1 hEO.out.2.2 n j (by omega)
                        have HCD : Aside0 (code l j = bts n (fs l n + ct (l.take j) n) ∧ ln l j = n ∧ 0 < n) := ⟨by rw [code_pos hj (by omega), hln]; unfold cd; rw [hln], hln, by omega⟩
                        have HC : Aside0 (fs l n + ct (l.take (j + 1)) n = fs l n + ct (l.take j) n + 1) := ⟨by rw [hctj]; omega⟩
                        generalize fs l n + ct (l.take j) n = X at *
                        have HXB := Aside0.mk hXb
                        have hmk := print_make_of (P := Try.prog) 45 4 (.bool false) 1 Try.underlying45 info4 rfl (by decide) n (by omega)
                        rw [hp] at hcell
                        have hbe : ((n : Int) != (n : Int)) = false := bne_self_eq_false _
                        have hw1 : wrap64 ((n : Int) - 1) = (n : Int) - 1 := by unfold wrap64; omega
                        have HB0 : Aside0 (BB (wr.alloc (.cells (madeCells #[Value.bool false] n) 4)) wr.heap.size (List.replicate n false)) := ⟨by unfold BB; rw [← made_false]; exact blk_new wr _⟩
                        have HBW : Aside0 (Below wr.heap.size wr (wr.alloc (.cells (madeCells #[Value.bool false] n) 4))) := ⟨below_alloc (Below.refl _ _) _⟩
                        clear hctj hln hXb hp hpb hpc o0 o1
                        generalize wr = w0 at *
                        go_wp2
                        go_loopg [14, 15] (n + 1) (fun kq v14 v15 w' => ∃ (k : Nat) (L : List Bool), v15 = .int .i64 ((k : Int) - 1) ∧ v14 = .int .i64 ((X / 2 ^ (n - k) : Nat) : Int) ∧ k + 1 = kq ∧ k ≤ n ∧ Aside0 (Dn L n X k) ∧ Aside0 (BB w' w0.heap.size L) ∧ Aside0 (Below w0.heap.size w0 w'))
                        case atStart => exact ⟨n, _, rfl, by simp, by omega, by omega, ⟨dn_start n X⟩, HB0, HBW⟩
                        case round =>
                          clear HB0 HBW
                          obtain ⟨k, L, rfl, rfl, hkq, hkn, HDN, HBB, HBW⟩ := hrel
                          cases gk with
                          | zero => exact absurd hkq (by omega)
                          | succ k3 =>
                          by_cases hk : 0 < k
                          · obtain ⟨i, hi⟩ : ∃ i, k = i + 1 := ⟨k - 1, by omega⟩
                            have hki : (k : Int) - 1 = (i : Int) := by omega
                            have hib : decide ((0 : Int) ≤ (i : Int)) = true := decide_eq_true (by omega)
                            have hi0 : (0 : Int) ≤ (i : Int) := by omega
                            have hin : (i : Int) < (n : Int) := by omega
                            obtain ⟨z, hci⟩ : ∃ z : Bool, wr.cell? ⟨w0.heap.size, i, none⟩ = some (.bool z) := ⟨_, bb_c HBB.out (i := i) (by have := HDN.out.1; omega)⟩
                            have hfi := bb_f HBB.out i
                            have hd := dn_set (k := i) (by rw [← hi]; exact HDN.out) (by omega)
                            have hnk : n - 1 - i = n - k := by omega
                            rw [hnk] at hd
                            have hX2 : X / 2 ^ (n - i) = X / 2 ^ (n - k) / 2 := by rw [Nat.div_div_eq_div_mul, ← Nat.pow_succ]; congr 2; omega
                            have HX2 := Aside0.mk hX2
                            have hle : X / 2 ^ (n - k) ≤ X := Nat.div_le_self _ _
                            have HDI := Aside0.mk hd
                            clear hX2 hnk hd
                            generalize X / 2 ^ (n - k) = y at *
                            obtain ⟨B, hB⟩ : ∃ B : Bool, B = (y % 2 == 1) := ⟨_, rfl⟩
                            rw [← hB] at HDI
                            have hB1 : (Int.tmod (y : Int) 2 == 1) = B := by
                              rw [hB, Int.tmod_eq_emod_of_nonneg (by omega)]
                              rcases Nat.mod_two_eq_zero_or_one y with h | h
                              · rw [show ((y : Int) % 2) = 0 by omega, h]; rfl
                              · rw [show ((y : Int) % 2) = 1 by omega, h]; rfl
                            have hB2 : ((y : Int) % 2 == 1) = B := by rw [← Int.tmod_eq_emod_of_nonneg (by omega)]; exact hB1
                            have hq1 : Int.tdiv (y : Int) 2 = ((y / 2 : Nat) : Int) := by rw [Int.tdiv_eq_ediv_of_nonneg (by omega)]; omega
                            have HQ2 : Aside0 (wrap64 ((y : Int) / 2) = ((y / 2 : Nat) : Int)) := ⟨by have := HXB.out; unfold wrap64; omega⟩
                            have HBS := Aside0.mk (bb_set HBB.out i B)
                            have HBX := Aside0.mk (HBW.out.setCell (p := ⟨w0.heap.size, i, none⟩) (Nat.le_refl _) (.bool B))
                            have HLI := Aside0.mk hi
                            clear hB hi hle HDN HBB HBW
                            go_wp2
                            go_roundg k3
                            case measure => omega
                            case rel => exact ⟨i, _, rfl, by rw [HX2.out]; first | rfl | (rw [HQ2.out]), by have := HLI.out; omega, by have := HLI.out; omega, HDI, HBS, HBX⟩
                          · obtain rfl : k = 0 := by omega
                            have hLb := dn_end HDN.out
                            have hLn := HDN.out.1
                            have HW3 := Aside0.mk (qw_below HW.out HBW.out)
                            obtain ⟨v0, hv0⟩ := qs_cell HW3.out.rows hj
                            have hfv := qs_f HW3.out.rows j
                            have hc3 : wr.cell? ⟨cb + 1, 0, none⟩ = some (.slice (some ⟨cb, 0, none⟩) l.length l.length) := (blk_cell HW3.out.tb 0).trans rfl
                            have hw4 := qw_set HW3.out hj HBB.out
                            rw [hLn] at hw4
                            have HW4 : Aside0 (QW W (wr.setCell ⟨cb, j, none⟩ (.slice (some ⟨w0.heap.size, 0, none⟩) n n)) cb l (pc l n (j + 1))) :=
                              ⟨qw_congr hw4 (fun s _ => by have e := pc_put HCD.out.2.1 HCD.out.2.2 s; rw [HCD.out.1, ← hLb] at e; exact e)⟩
                            have hXX : X ≤ 32768 := HXB.out
                            have hkb : decide ((0 : Int) ≤ -1) = false := by decide
                            clear hLb hLn hw4 HDN HBB HBW HW HW3
                            go_wp2
                            go_roundg k2
                            case measure => omega
                            case rel => exact ⟨j + 1, by go_num, by rw [HC.out]; rfl, by omega, by omega, HW4⟩
                      · have hpb : (l[j] == (n : Int)) = false := beq_eq_false_iff_ne.2 hp
                        have hpc : (l[j] != (n : Int)) = true := by simpa using hp
                        rw [if_neg (by omega)] at hctj
                        have HC : Aside0 (ct (l.take (j + 1)) n = ct (l.take j) n) := ⟨hctj⟩
                        have HW2 : Aside0 (QW W wr cb l (pc l n (j + 1))) := ⟨qw_congr HW.out (fun s _ => pc_skip (by have := ln_of hj; omega) s)⟩
                        clear hctj hp o0 o1 HW
                        generalize l[j] = x at *
                        generalize ct (l.take j) n = y at *
                        go_wp2
                        go_roundg k2
                        case measure => omega
                        case rel => exact ⟨j + 1, by go_num, by rw [HC.out], by omega, by omega, HW2⟩
                    · have hjb : decide ((j : Int) < (l.length : Int)) = false := decide_eq_false (by omega)
                      obtain rfl : j = l.length := by omega
                      rw [List.take_length] at *
                      have HW2 : Aside0 (QW W wr cb l (pc l (n + 1) 0)) := ⟨qw_congr HW.out (fun s hs => pc_next l n s hs)⟩
                      clear hjq hjl hj HW
                      have hnm := HNM.out
                      clear hnm
                      go_wp2
                      go_roundg k1
                      case measure => omega
                      case rel => exact ⟨n + 1, n, by go_num, by rfl, rfl, by have := HNM.out; omega, by omega, HW2⟩
                · have hb : decide ((n : Int) ≤ 15) = false := decide_eq_false (by omega)
                  have hb2 : decide (n ≤ 15) = false := decide_eq_false (by omega)
                  obtain rfl : n = 16 := by omega
                  clear hnm
                  go_wp2
                  go_ret2
                  exact .inr ⟨E0.out, _, cb, rfl, ⟨HW.out.tb, qs_congr HW.out.rows (fun s hs => pc_end HOK.out.1 s hs)⟩, HW.out.below⟩
  · have e1 : krs l = (0, false) := by unfold krs; rw [if_neg hok]
    rw [e1] at HKR
    have e2 := er_2 hok
    clear e1 hok
    go_enter Try.func11, Try.ntmps11
    go_wp2_with (go_at_call 9; (with_reducible refine (HKR.out).mono ?_); rintro e w1 ⟨rfl, hd⟩; have HD := Aside0.mk hd; clear hd)
    go_ret2
    exact .inl ⟨by rw [e2]; decide, by rw [e2]; rfl, HD.out.below⟩
end Go.Proofs.Yteamaaiicjjidaa.PAll
