/- HuffmanMakes' walk: the sum and the codes of any lengths are the document's. -/
import Derived.Test.YteamaaiicjjidaaQCode
import Derived.Test.YteamaaiicjjidaaCopy
namespace Go.Proofs.Yteamaaiicjjidaa.PAll
open Go.RowKit Go.Proofs.Yteamaaiicjjidaa.Huf Go.Proofs.YteamaaiicjjidaaW.PrintWords Go.Proofs.YteamaaiicjjidaaW.PrintLast Go.Proofs.YteamaaiicjjidaaW.PrintMore
attribute [local go_sem] max2_int min2_int max_two min_two max_three min_three max_four min_four   -- for this text's walks alone
set_option linter.unusedVariables false
set_option linter.unusedSimpArgs false
/-- what Code answers of any symbol: the same of both. -/
def cda (l : List Int) (s : Int) : Nat × Int × Bool := if 0 ≤ s ∧ s < (l.length : Int) ∧ 0 < l.getD s.toNat 0 then (cd l s.toNat, l.getD s.toNat 0, true) else (0, 0, false)
theorem code_all {W : World} {g cb mb : Nat} {l : List Int} (s : Int) (h : Aside0 (HT W g cb mb l)) (hO : Ok l) : Calls Try.prog 14 #[.pointer (some ⟨g, 0, none⟩), .int .i64 s] W fun e W' => e = .returned (.tuple #[.int .u32 ((cda l s).1 : Int), .int .i64 (cda l s).2.1, .bool (cda l s).2.2]) ∧ Drawn0 W W' := by
  by_cases h1 : 0 ≤ s ∧ s < (l.length : Int)
  · obtain ⟨k, rfl⟩ : ∃ k : Nat, s = (k : Int) := ⟨s.toNat, by omega⟩
    have hk : k < l.length := by omega
    have e : l.getD k 0 = l[k] := by simp [List.getD, hk]
    by_cases h0 : 0 < l[k]
    · have : cda l (k : Int) = (cd l k, l[k], true) := by unfold cda; rw [Int.toNat_natCast, e, if_pos ⟨h1.1, h1.2, h0⟩]
      rw [this]; exact code_at k h hk h0
    · have : cda l (k : Int) = (0, 0, false) := by unfold cda; rw [Int.toNat_natCast, e, if_neg (fun hh => h0 hh.2.2)]
      rw [this]; exact code_zero k h hk (by have := ok_at hO hk; omega)
  · have : cda l s = (0, 0, false) := by unfold cda; rw [if_neg (fun hh => h1 ⟨hh.1, hh.2.1⟩)]
    rw [this]; exact code_no s h (by omega)
theorem qcode_all {W : World} {g cb : Nat} {l : List Int} (s : Int) (h : Aside0 (QT W g cb l)) (hO : Ok l) (hK : kr l ≤ 32768) : Calls Try.prog 15 #[.pointer (some ⟨g, 0, none⟩), .int .i64 s] W fun e W' => e = .returned (.tuple #[.int .u32 ((cda l s).1 : Int), .int .i64 (cda l s).2.1, .bool (cda l s).2.2]) ∧ Drawn0 W W' := by
  by_cases h1 : 0 ≤ s ∧ s < (l.length : Int)
  · obtain ⟨k, rfl⟩ : ∃ k : Nat, s = (k : Int) := ⟨s.toNat, by omega⟩
    have hk : k < l.length := by omega
    have e : l.getD k 0 = l[k] := by simp [List.getD, hk]
    by_cases h0 : 0 < l[k]
    · have : cda l (k : Int) = (cd l k, l[k], true) := by unfold cda; rw [Int.toNat_natCast, e, if_pos ⟨h1.1, h1.2, h0⟩]
      rw [this]; exact qcode_at k h hO hK hk h0
    · have : cda l (k : Int) = (0, 0, false) := by unfold cda; rw [Int.toNat_natCast, e, if_neg (fun hh => h0 hh.2.2)]
      rw [this]; exact qcode_zero k h hO hk (by have := ok_at hO hk; omega)
  · have : cda l s = (0, 0, false) := by unfold cda; rw [if_neg (fun hh => h1 ⟨hh.1, hh.2.1⟩)]
    rw [this]; exact qcode_out s h (by omega)
/-- a block of at least n numbers. -/
def OB (W : World) (b n : Nat) : Prop := ∃ cur, W.heap[b]? = some (.cells cur 3 (0, 0)) ∧ n ≤ cur.size
theorem ob_c {W : World} {b n i : Nat} (h : OB W b n) (hi : i < n) : ∃ v, W.cell? ⟨b, i, none⟩ = some v := by
  obtain ⟨cur, h1, h2⟩ := h
  exact ⟨cur[i], by rw [blk_cell h1]; exact Array.getElem?_eq_getElem (by omega)⟩
theorem ob_f {W : World} {b n : Nat} (h : OB W b n) (i : Nat) : W.frozen? ⟨b, i, none⟩ = false := by obtain ⟨cur, h1, h2⟩ := h; exact blk_frozen h1 i
theorem ob_set {W : World} {b n : Nat} (h : OB W b n) (i : Nat) (v : Value) : OB (W.setCell ⟨b, i, none⟩ v) b n := by
  obtain ⟨cur, h1, h2⟩ := h
  exact ⟨_, blk_set h1 i v, by simpa using h2⟩
theorem ob_below {W W' : World} {b n : Nat} (h : OB W b n) (hb : Below W.heap.size W W') : OB W' b n := by
  obtain ⟨cur, h1, h2⟩ := h; exact ⟨cur, blk_below h1 hb, h2⟩
theorem ob_of {W : World} {base n c : Nat} {A : Option Addr} {xs : List Value} (h : W.ownsRow base 3 1 (.slice A n c) n xs) (hn : 0 < n) : ∃ b, A = some ⟨b, 0, none⟩ ∧ OB W b n ∧ base ≤ b := by
  rcases h.2 with ⟨h1, h2⟩ | ⟨b, cap, cur, h1, h2, h3, h4, h5, h6⟩
  · omega
  · injection h1 with e1 e2 e3
    have hb := own_base h
    subst e1
    exact ⟨b, rfl, ⟨cur, by simpa using h3, by simp at h5 h6; omega⟩, hb b rfl⟩
/-- the asker's own copy (if it has a place). -/
def OX (W : World) (B : Nat) (A : Option Addr) (n : Nat) : Prop := 0 < n → ∃ b, A = some ⟨b, 0, none⟩ ∧ OB W b n ∧ B ≤ b
theorem ht_set {W : World} {g cb mb b n : Nat} {l : List Int} (h : HT W g cb mb l) (ho : OB W b n) (i : Nat) (v : Value) : HT (W.setCell ⟨b, i, none⟩ v) g cb mb l := by
  obtain ⟨cur, h1, _⟩ := ho
  obtain ⟨k, D, hm, hd⟩ := h.mp
  have h3 : mb ≠ b := fun e => by
    obtain ⟨es, clock, hb, _⟩ := hm
    rw [e, h1] at hb; cases hb
  exact ⟨tb_far h.tb (blk_ne h.tb h1 (by decide)) v, cb_far h.cb (blk_ne h.cb h1 (by decide)) v, k, D, map_set hm h3 v, hd⟩
theorem qt_set {W : World} {g cb b n : Nat} {l : List Int} (h : QT W g cb l) (ho : OB W b n) (i : Nat) (v : Value) : QT (W.setCell ⟨b, i, none⟩ v) g cb l := by
  obtain ⟨cur, h1, _⟩ := ho
  obtain ⟨sl, q1, q2, q3⟩ := h.rows
  exact ⟨blk_far h.tb (blk_ne h.tb h1 (by decide)) v, sl, blk_far q1 (blk_ne q1 h1 (by decide)) v, q2, fun s hs => rowAt_step (q3 s hs) (fun b' o hb' => blk_far hb' (blk_ne hb' h1 (by decide)) v)⟩
set_option maxHeartbeats 8000000 in
set_option maxRecDepth 100000 in
theorem makes_walk (A : Option Addr) (c : Nat) (l : List Int) (more : Int) (W : World) (hr : Kd.C (Kd.int .i64) W A l.length l) (hc : l.length ≤ c) (hl : l.length * 8 ≤ 140737488355328) :
    Calls Try.prog 3 #[.slice A l.length c, .int .i64 more] W fun e W' => e = .returned (.bool true) ∧ Below W.heap.size W W' := by
  have HR := Aside0.mk hr
  have HL := Aside0.mk hl
  have HCP := Aside0.mk hc
  obtain ⟨⟨k1, hk1⟩, k2, hk2⟩ := krs_f l
  have HK1 := Aside0.mk hk1
  have HK2 := Aside0.mk hk2
  clear hr hl hk1 hk2 hc
  generalize (krs l).1 = ks at *
  generalize (krs l).2 = kb at *
  have hs1 : (ks == ks) = true := beq_self_eq_true _
  have hs2 : (ks != ks) = false := bne_self_eq_false _
  have hs3 : (kb != kb) = false := bne_self_eq_false _
  have hs4 : (kb == kb) = true := beq_self_eq_true _
  go_enter Try.func3, Try.ntmps3
  go_wp2_with (first
    | ((refine app_copy ?_ (.tmp 28) (.tmp 29) ?_ A c l ?_ ?_ HR.out HL.out ?_); (· rfl); (· rfl); (· rfl); (· rfl); intro A2 c2 w2 hown hC hlc hB; have HOW := Aside0.mk hown; have HC2 := Aside0.mk hC; have HLC := Aside0.mk hlc; have HB2 := Aside0.mk hB; clear hown hC hlc hB)
    | (go_at_call 8; (with_reducible refine (huffman_Kraft.calls k1 A2 c2 l _ _ _ HC2.out HLC.out HK1.out).mono ?_); rintro e w3 ⟨rfl, hd⟩; have HB3 := Aside0.mk hd.below; have HR3 := Aside0.mk (Kd.C_below HR.out (below_step HB2.out hd.below)); clear hd)
    | (go_at_call 9; (with_reducible refine (winkleref08_Kraft.calls k2 A c l _ _ _ HR3.out HCP.out HK2.out).mono ?_); rintro e w4 ⟨rfl, hd⟩; have HB4 := Aside0.mk (below_step HB3.out hd.below); have HC4 := Aside0.mk (Kd.C_below HC2.out HB4.out); clear hd HB3 HR3))
  refine (new_calls A2 c2 l w4 HC4.out HLC.out).mono ?_
  rintro e w5 (⟨hne, rfl, hb⟩ | ⟨he0, g, cb, mb, rfl, ht, hb, hg1, hg2, hg3⟩)
  · have HB5 := Aside0.mk (below_step (below_step HB2.out HB4.out) hb)
    have HR5 := Aside0.mk (Kd.C_below HR.out HB5.out)
    have HNE := Aside0.mk hne
    clear HC4 HC2 HB2 HB4 hb hne HOW
    have hE1 : (er l == er l) = true := beq_self_eq_true _
    have hE2 : (er l != er l) = false := bne_self_eq_false _
    generalize hEE : er l = E at *
    have HEE := Aside0.mk hEE
    clear hEE
    go_wp2_with (first
        | (go_at_call 11; (refine (qnew_calls A c l w5 HR5.out HCP.out).mono ?_); rintro e w6 (⟨hne6, rfl, hb6⟩ | ⟨he6, _⟩); rotate_left 1; (· exact absurd (HEE.out.symm.trans he6) HNE.out); rw [HEE.out]; have HB6 := Aside0.mk (below_step HB5.out hb6); clear hne6 hb6)
        | (go_at_call 12; (with_reducible refine (symbols_nil _).mono ?_); rintro e w7 ⟨rfl, hd⟩; have HB7 := Aside0.mk (below_step HB6.out hd.below); clear hd)
        | (go_at_call 13; (with_reducible refine (awake_calls _).mono ?_); rintro e w8 ⟨rfl, hd⟩; have HB8 := Aside0.mk (below_step HB7.out hd); clear hd))
    go_ret
    exact ⟨rfl, HB8.out⟩
  · have HB5 := Aside0.mk (below_step (below_step HB2.out HB4.out) hb)
    have HR5 := Aside0.mk (Kd.C_below HR.out HB5.out)
    have HE := Aside0.mk he0
    have HO := Aside0.mk (er_ok he0)
    have HTT := Aside0.mk ht
    have HOW5 := Aside0.mk (Own.own_below HOW.out (below_step HB4.out hb))
    clear HC4 HC2 HB2 HB4 hb he0 HOW hg1 hg2 hg3 ht
    have hl320 := HO.out.2.1
    go_wp2_with (go_at_call 11; (refine (qnew_calls A c l w5 HR5.out HCP.out).mono ?_); rintro e w6 (⟨hne6, _⟩ | ⟨_, q, qb, rfl, hq, hb6⟩); (· exact absurd HE.out hne6); have HB6 := Aside0.mk (below_step HB5.out hb6); have HT6 := Aside0.mk (ht_below HTT.out hb6); have HQ6 := Aside0.mk hq; have HOW6 := Aside0.mk (Own.own_below HOW5.out hb6); clear hb6 hq HTT HOW5 HR5)
    have HX6 : Aside0 (OX w6 W.heap.size A2 l.length) := ⟨fun hn => ob_of HOW6.out hn⟩
    clear HOW6
    go_loopg [14] (l.length + 1) (fun kq v14 w' => ∃ i : Nat, v14 = .int .i64 (i : Int) ∧ i + kq = l.length + 1 ∧ i ≤ l.length ∧ Aside0 (OX w' W.heap.size A2 l.length) ∧ Aside0 (HT w' g cb mb l) ∧ Aside0 (QT w' q qb l) ∧ Aside0 (Below W.heap.size W w'))
    case atStart => exact ⟨0, rfl, by omega, by omega, HX6, HT6, HQ6, HB6⟩
    case round =>
      clear HX6 HT6 HQ6 HB6
      obtain ⟨i, rfl, hiq, hil, HX, HTT, HQ, HB⟩ := hrel
      cases gk with
      | zero => exact absurd hiq (by omega)
      | succ k3 =>
      by_cases hi : i < l.length
      · have hib : decide ((i : Int) < (l.length : Int)) = true := decide_eq_true (by omega)
        obtain ⟨b, rfl, hob, hge⟩ := HX.out (by omega)
        obtain ⟨v, hv⟩ := ob_c hob hi
        have hf := ob_f hob i
        have hi0 : (0 : Int) ≤ (i : Int) := by omega
        have hi1 : (i : Int) < (l.length : Int) := by omega
        have HX1 : Aside0 (OX (wr.setCell ⟨b, i, none⟩ (.int .i64 1)) W.heap.size (some ⟨b, 0, none⟩) l.length) := ⟨fun _ => ⟨b, rfl, ob_set hob i _, hge⟩⟩
        have HT1 := Aside0.mk (ht_set HTT.out hob i (.int .i64 1))
        have HQ1 := Aside0.mk (qt_set HQ.out hob i (.int .i64 1))
        have HB1 := Aside0.mk (HB.out.setCell (p := ⟨b, i, none⟩) hge (.int .i64 1))
        clear HX HTT HQ HB hob hge
        go_wp2
        go_roundg k3
        case measure => omega
        case rel => exact ⟨i + 1, by go_num, by omega, by omega, HX1, HT1, HQ1, HB1⟩
      · have hib : decide ((i : Int) < (l.length : Int)) = false := decide_eq_false (by omega)
        have hll : ((l.length : Int) == (l.length : Int)) = true := beq_self_eq_true _
        have hln : ((l.length : Int) != (l.length : Int)) = false := bne_self_eq_false _
        obtain rfl : i = l.length := by omega
        clear hiq hil hi HX
        go_wp2_with (go_at_call 12; (with_reducible refine (symbols_calls HTT).mono ?_); rintro e w7 ⟨rfl, hd⟩; have HT7 := Aside0.mk (ht_below HTT.out hd.below); have HQ7 := Aside0.mk (qt_below HQ.out hd.below); have HB7 := Aside0.mk (below_step HB.out hd.below); clear hd HTT HQ HB)
        go_loopg [15] (l.length + 3) (fun kq v15 w' => ∃ i : Nat, v15 = .int .i64 ((i : Int) - 1) ∧ i + kq = l.length + 3 ∧ i ≤ l.length + 2 ∧ Aside0 (HT w' g cb mb l) ∧ Aside0 (QT w' q qb l) ∧ Aside0 (Below W.heap.size W w'))
        case atStart => exact ⟨0, rfl, by omega, by omega, HT7, HQ7, HB7⟩
        case round =>
          clear HT7 HQ7 HB7
          obtain ⟨i, rfl, hiq, hil, HTT, HQ, HB⟩ := hrel
          cases gk with
          | zero => exact absurd hiq (by omega)
          | succ k4 =>
          by_cases hi : i < l.length + 2
          · have hib : decide ((i : Int) - 1 ≤ (l.length : Int)) = true := decide_eq_true (by omega)
            have HCA := Aside0.mk (code_all ((i : Int) - 1) HTT HO.out.1)
            have HIW : Aside0 (wrap64 ((i : Int) - 1 + 1) = ((i + 1 : Nat) : Int) - 1) := ⟨by unfold wrap64; omega⟩
            have HCT := HCA
            clear HCA
            have t1 : (((cda l ((i : Int) - 1)).1 : Int) != ((cda l ((i : Int) - 1)).1 : Int)) = false := bne_self_eq_false _
            have t2 : ((cda l ((i : Int) - 1)).2.1 != (cda l ((i : Int) - 1)).2.1) = false := bne_self_eq_false _
            have t3 : ((cda l ((i : Int) - 1)).2.2 != (cda l ((i : Int) - 1)).2.2) = false := bne_self_eq_false _
            go_wp2_with (first
              | (go_at_call 14; (with_reducible refine (HCT.out).mono ?_); rintro e w8 ⟨rfl, hd⟩; have HT8 := Aside0.mk (ht_below HTT.out hd.below); have HQ8 := Aside0.mk (qt_below HQ.out hd.below); have HB8 := Aside0.mk (below_step HB.out hd.below); clear hd HTT HQ HB HCT)
              | (go_at_call 15; (with_reducible refine (qcode_all ((i : Int) - 1) HQ8 HO.out.1 HO.out.2.2).mono ?_); rintro e w9 ⟨rfl, hd⟩; have HT9 := Aside0.mk (ht_below HT8.out hd.below); have HQ9 := Aside0.mk (qt_below HQ8.out hd.below); have HB9 := Aside0.mk (below_step HB8.out hd.below); clear hd HT8 HQ8 HB8))
            go_roundg k4
            case measure => omega
            case rel => exact ⟨i + 1, by first | rfl | (rw [HIW.out]) | go_num, by omega, by omega, HT9, HQ9, HB9⟩
          · have hib : decide ((i : Int) - 1 ≤ (l.length : Int)) = false := decide_eq_false (by omega)
            have HCA := Aside0.mk (code_all more HTT HO.out.1)
            have t1 : (((cda l more).1 : Int) == ((cda l more).1 : Int)) = true := beq_self_eq_true _
            have t2 : ((cda l more).2.1 == (cda l more).2.1) = true := beq_self_eq_true _
            have t3 : ((cda l more).2.2 == (cda l more).2.2) = true := beq_self_eq_true _
            go_wp2_with (first
              | (go_at_call 14; (with_reducible refine (HCA.out).mono ?_); rintro e w8 ⟨rfl, hd⟩; have HT8 := Aside0.mk (ht_below HTT.out hd.below); have HQ8 := Aside0.mk (qt_below HQ.out hd.below); have HB8 := Aside0.mk (below_step HB.out hd.below); clear hd HTT HQ HB HCA)
              | (go_at_call 15; (with_reducible refine (qcode_all more HQ8 HO.out.1 HO.out.2.2).mono ?_); rintro e w9 ⟨rfl, hd⟩; have HB9 := Aside0.mk (below_step HB8.out hd.below); clear hd HT8 HQ8 HB8)
              | (go_at_call 13; (with_reducible refine (awake_calls _).mono ?_); rintro e w10 ⟨rfl, hd⟩; have HBA := Aside0.mk (below_step HB9.out hd); clear hd))
            go_ret
            exact ⟨rfl, HBA.out⟩
theorem makes_row (a0 : Option Addr) (len0 cap0 : Nat) (z0 : List Int) (v : Int) (w : World) (w0 : (a0 = none ∧ len0 = 0 ∧ cap0 = 0 ∧ z0 = []) ∨ ∃ x, a0 = some x ∧ len0 ≤ cap0 ∧ cap0 ≤ maxLen ∧ z0.length = cap0 ∧ (∀ i, i < z0.length → w.cell? (x.add i) = some (.int .i64 (z0.getD i 0))) ∧ ∀ n ∈ z0, (Lit.int .i64 n).wf = true) (y0 : len0 * 8 ≤ 140737488351232) (wv : (Lit.int .i64 v).wf = true) :
    Calls Try.prog 3 #[.slice a0 len0 cap0, .int .i64 v] w fun e w' => e = .returned (.bool true) ∧ Below w.heap.size w w' := by
  obtain ⟨l0, rfl, hr0, hm0, hw0, hc0⟩ := ReadsInt.ofRowC w0
  exact makes_walk a0 cap0 l0 v w (Kd.C_of_reads (enc := Value.int .i64) (d := (0 : Int)) (h1 := fun _ => rfl) hr0) hc0 (by omega)
end Go.Proofs.Yteamaaiicjjidaa.PAll
