/- CrcSees: bytes that are turned within 32 bits side by side, and in no others, have another sum. -/
import Derived.Test.YtlinaloemppniaaDoorSeeMath
import Derived.Test.YtlinaloemppniaaDoorOwn
namespace Go.Proofs.YtlinaloemppniaaDoor.PAll
open Go.RowKit Go.Proofs.YtlinaloemppniaaDoor.Crc Go.Proofs.YtlinaloemppniaaDoor.CrcMath Go.Proofs.YtlinaloemppniaaDoorW.PrintWords Go.Proofs.YtlinaloemppniaaDoorW.PrintLast Go.Proofs.YtlinaloemppniaaDoorW.PrintMore
attribute [local go_sem] max2_int min2_int max_two min_two max_three min_three max_four min_four   -- for this text's walks alone
set_option linter.unusedVariables false
set_option linter.unusedSimpArgs false
def SeeW (w W : World) (g n cap : Nat) (xs : List Int) : Prop := W.ownsRow w.heap.size 5 1 (.slice (some ⟨g, 0, none⟩) n cap) n (nums .u8 xs) ∧ Below w.heap.size w W
theorem seew_cell {w W : World} {g n cap : Nat} {xs : List Int} (h : Aside0 (SeeW w W g n cap xs)) {q : Nat} (hq : q < n) : W.cell? ⟨g, q, none⟩ = some (.int .u8 (xs.getD q 0)) ∧ W.frozen? ⟨g, q, none⟩ = false := by
  have := own_at h.out.1 (q : Int) (by omega) (by omega)
  rw [Int.toNat_natCast, rd_getD] at this
  exact this
theorem seew_store {w W : World} {g n cap : Nat} {xs : List Int} (h : Aside0 (SeeW w W g n cap xs)) (q : Nat) (v : Int) : SeeW w (W.setCell ⟨g, q, none⟩ (.int .u8 v)) g n cap (xs.set q v) := by
  have := own_store h.out.1 (q : Int) v
  rw [Int.toNat_natCast] at this
  exact ⟨this.1, h.out.2.setCell (own_base h.out.1 g rfl) _⟩
theorem seew_sum {w W : World} {g n cap : Nat} {xs : List Int} (h : Aside0 (SeeW w W g n cap xs)) (hl : xs.length = n) (hn : n ≤ 140737488351232) (hb : Bytes xs) (hT : Aside0 (Tab w)) : Calls Tryd.prog 8 #[.slice (some ⟨g, 0, none⟩) n cap] W fun e w' => e = .returned (.int .u32 (I (sumB 0#32 xs))) ∧ Below w.heap.size w w' := by
  obtain ⟨A, c, e, hr⟩ := own_reads_of (enc := Value.int .u8) (d := 0) h.out.1
  cases e
  have hcap := own_cap h.out.1
  have := sum_reads (some ⟨g, 0, none⟩) cap xs W ⟨by unfold Rd; rw [hl]; exact hr⟩ (by omega) (by omega) ⟨hb⟩ ⟨tab_below hT.out h.out.2 rfl⟩
  rw [hl] at this
  exact this.mono fun e w' ⟨he, hd⟩ => ⟨he, by obtain ⟨m, rfl⟩ := hd; exact pw_below_drewN h.out.2 m⟩
theorem rd_below {W W' : World} {A : Option Addr} {l : List Int} (h : Rd W A l) (hb : Below W.heap.size W W') : Rd W' A l := h.below hb
theorem bit1I (x : B) (n : Nat) : Go.bits .and .u32 (I (x >>> n)) 1 = 1 ↔ x.getLsbD n = true := by
  have h := lowI (x >>> n)
  have hb : (x >>> n).getLsbD 0 = x.getLsbD n := by rw [BitVec.getLsbD_ushiftRight]; simp
  rw [hb] at h
  have h2 : Go.bits .and .u32 (I (x >>> n)) 1 = I ((x >>> n) &&& 1#32) := by rw [oneI, andI]
  constructor
  · intro e
    cases hx : x.getLsbD n with
    | true => rfl
    | false => rw [h.2 hx] at e; exact absurd e (by decide)
  · intro hx
    rw [h2, oneI]
    congr 1
    apply BitVec.eq_of_getLsbD_eq
    intro i hi
    rw [BitVec.getLsbD_and, BitVec.getLsbD_one, BitVec.getLsbD_ushiftRight]
    by_cases h0 : i = 0
    · subst h0; simpa using hx
    · simp [h0]
theorem sum_one : I (sumB 0#32 [1]) = 2768625435 := by decide
theorem lit1 (W : World) (hT : Aside0 (Tab W)) : Calls Tryd.prog 8 #[.slice (some ⟨W.heap.size, 0, none⟩) 1 1] (W.alloc (.cells #[.int .u8 1] 5)) fun e w' => e = .returned (.int .u32 2768625435) ∧ Below W.heap.size W w' := by
  have := lit_sum [1] (by decide) ⟨by intro x hx; simp at hx; omega⟩ W hT
  rw [sum_one] at this
  exact this
/-- nothing to turn. -/
theorem sees_none (A : Option Addr) (c : Nat) (l : List Int) (at_ : Int) (y : B) (w : World) (hy : l.length = 0 ∨ (0 < l.length ∧ I y = 0)) (hT : Aside0 (Tab w)) : Calls Tryd.prog 5 #[.slice A l.length c, .int .u16 at_, .int .u32 (I y)] w fun e w' => e = .returned (.bool true) ∧ Below w.heap.size w w' := by
  rcases hy with h0 | ⟨h0, h1⟩
  · have hb0 : ((l.length : Int) == 0) = true := beq_iff_eq.2 (by omega)
    clear h0
    go_enter Tryd.func5, Tryd.ntmps5
    go_wp2_with (first
      | (go_at_call 8; (with_reducible refine (lit0 _ hT).mono ?_); rintro e w1 ⟨rfl, hb1⟩; have HB1 := Aside0.mk hb1; have HT1 := Aside0.mk (tab_below hT.out hb1 rfl); clear hb1)
      | (go_at_call 8; (with_reducible refine (lit1 _ HT1).mono ?_); rintro e w2 ⟨rfl, hb2⟩; have HB2 := Aside0.mk (below_step HB1.out hb2); clear hb2 HB1))
    go_ret
    exact ⟨rfl, HB2.out⟩
  · have hb0 : ((l.length : Int) == 0) = false := beq_eq_false_iff_ne.2 (by omega)
    have hb1 : (I y == 0) = true := beq_iff_eq.2 h1
    clear h0 h1
    go_enter Tryd.func5, Tryd.ntmps5
    go_wp2_with (first
      | (go_at_call 8; (with_reducible refine (lit0 _ hT).mono ?_); rintro e w1 ⟨rfl, hb1⟩; have HB1 := Aside0.mk hb1; have HT1 := Aside0.mk (tab_below hT.out hb1 rfl); clear hb1)
      | (go_at_call 8; (with_reducible refine (lit1 _ HT1).mono ?_); rintro e w2 ⟨rfl, hb2⟩; have HB2 := Aside0.mk (below_step HB1.out hb2); clear hb2 HB1))
    go_ret
    exact ⟨rfl, HB2.out⟩
set_option maxHeartbeats 8000000 in
set_option maxRecDepth 100000 in
theorem sees_some (A : Option Addr) (c : Nat) (l : List Int) (at_ : Int) (y : B) (w : World) (hR : Aside0 (Rd w A l)) (hc : l.length ≤ c) (hm : l.length ≤ 140737488351232) (hb : Aside0 (Bytes l)) (ha : 0 ≤ at_ ∧ at_ ≤ 65535) (hl0 : 0 < l.length) (hy : I y ≠ 0) (hT : Aside0 (Tab w)) : Calls Tryd.prog 5 #[.slice A l.length c, .int .u16 at_, .int .u32 (I y)] w fun e w' => e = .returned (.bool true) ∧ Below w.heap.size w w' := by
  have hb0 : ((l.length : Int) == 0) = false := beq_eq_false_iff_ne.2 (by omega)
  have hb1 : (I y == 0) = false := beq_eq_false_iff_ne.2 hy
  have HL1 := Aside0.mk (show (([] : List Int).length + l.length) * 1 ≤ 140737488355328 by simp; omega)
  obtain ⟨p, htm, hp⟩ : ∃ p : Nat, Int.tmod at_ (8 * (l.length : Int)) = (p : Int) ∧ p < 8 * l.length ∧ p ≤ 65535 := by
    rw [Int.tmod_eq_emod_of_nonneg ha.1]
    have h1 := Int.emod_nonneg at_ (show 8 * (l.length : Int) ≠ 0 by omega)
    have h2 := Int.emod_lt_of_pos at_ (show (0 : Int) < 8 * (l.length : Int) by omega)
    have h3 : at_ % (8 * (l.length : Int)) ≤ at_ := by
      by_cases h : at_ < 8 * (l.length : Int)
      · rw [Int.emod_eq_of_lt ha.1 h]; omega
      · omega
    exact ⟨(at_ % (8 * (l.length : Int))).toNat, by omega, by omega, by omega⟩
  have hne0 : (8 * (l.length : Int) == 0) = false := beq_eq_false_iff_ne.2 (by omega)
  have hwa : IntKind.i64.wrap at_ = at_ := by simp [IntKind.wrap, IntKind.bits, IntKind.signed]; omega
  have HLB := Aside0.mk hl0
  have HS0 := Aside0.mk (See.start l hb.out p y)
  have H2 := Aside0.mk (fun W hr ht => sum_reads A c l W hr hc (by omega) hb ht)
  clear ha hy hl0
  go_enter Tryd.func5, Tryd.ntmps5
  go_wp2_with (first
    | (at_builtin; refine Own.app_rows (W := w.alloc (.cells #[] 5)) (enc := Value.int .u8) (fun _ => rfl) 0 w.heap.size rfl (.tmp 23) (.tmp 24) 22 5 (.int .u8 0) 1 rfl Tryd.underlying22 info5 rfl (by decide) (.slice (some ⟨w.heap.size, 0, none⟩) 0 0) [] l A l.length c rfl rfl rfl (own_lit_of w w.heap.size 5 ([] : List Int) (Nat.le_refl _) (by simp)) ((hR.out).below (below_alloc (Below.refl _ _) _)) (by simp) HL1.out ?_; intro v1 w1 hown hgrow hat; have HA := Aside0.mk (own_lit_of (enc := Value.int .u8) w w.heap.size 5 ([] : List Int) (Nat.le_refl _) (by simp)); rw [List.nil_append] at hown; have hB1 := ((((Below.refl w.heap.size w).alloc (Nat.le_refl _) (.cells #[] 5))).grown hgrow (by simp) (own_base HA.out)); obtain ⟨g, cap, hv, _, _⟩ := hown.form HLB.out; subst hv; have HW1 := Aside0.mk (show SeeW w w1 g l.length cap l from ⟨hown, hB1⟩); clear hown hgrow hat HA hB1))
  go_loopg [9, 10] 33 (fun kq v9 v10 w' => ∃ (i : Nat) (xs : List Int) (tb : Bool), v9 = .bool tb ∧ v10 = .int .i64 (i : Int) ∧ i + kq = 33 ∧ i ≤ 32 ∧ p + i ≤ 8 * l.length ∧ Aside0 (See l xs p y i tb) ∧ Aside0 (SeeW w w' g l.length cap xs))
  case atStart => exact ⟨0, l, false, rfl, rfl, by omega, by omega, by omega, HS0, HW1⟩
  case round =>
    clear HS0 HW1 htm hwa hne0 hb0 hb1
    obtain ⟨i, xs, tb, rfl, rfl, hk, hi32, hpi, HS, HW⟩ := hrel
    cases gk with
    | zero => exact absurd hk (by omega)
    | succ k1 =>
    have fin : ∀ m, See l xs p y m tb → m ≤ 32 → p + m ≤ 8 * l.length → (I (sumB 0#32 xs) != I (sumB 0#32 l)) = tb := fun m h h1 h2 => h.seen hb.out h1 h2
    have HTR : Aside0 (Tab wr) := ⟨tab_below hT.out HW.out.2 rfl⟩
    have HXS := Aside0.mk (seew_sum HW HS.out.len hm HS.out.byt hT)
    have HRW := Aside0.mk (fun W (hbw : Below w.heap.size w W) => H2.out W ⟨rd_below hR.out hbw⟩ ⟨tab_below hT.out hbw rfl⟩)
    by_cases hp32 : i < 32
    · have hd1 : decide ((i : Int) < 32) = true := decide_eq_true (by omega)
      by_cases hpl : p + i < 8 * l.length
      · have hd2 : decide ((p : Int) + (i : Int) < 8 * (l.length : Int)) = true := decide_eq_true (by omega)
        have hs := shrI y i
        have hi0 : (0 : Int) ≤ (i : Int) := by omega
        clear fin HXS HRW
        by_cases hy : y.getLsbD i = true
        · have h1 : (Go.bits .and .u32 (I (y >>> i)) 1 == 1) = true := beq_iff_eq.2 ((bit1I y i).2 hy)
          obtain ⟨q, hq⟩ : ∃ q, q = (p + i) / 8 := ⟨_, rfl⟩
          obtain ⟨t, ht⟩ : ∃ t, t = (p + i) % 8 := ⟨_, rfl⟩
          have hdiv : Int.tdiv ((p : Int) + (i : Int)) 8 = (q : Int) := by rw [Int.tdiv_eq_ediv_of_nonneg (by omega)]; omega
          have hmod : Int.tmod ((p : Int) + (i : Int)) 8 = (t : Int) := by rw [Int.tmod_eq_emod_of_nonneg (by omega)]; omega
          have hq0 : (0 : Int) ≤ (q : Int) := by omega
          have hq1 : (q : Int) < (l.length : Int) := by omega
          have ht0 : (0 : Int) ≤ (t : Int) := by omega
          have ht8 : (t : Int) < 8 := by omega
          obtain ⟨hc, hf⟩ := seew_cell HW (q := q) (by omega)
          have HY := Aside0.mk (fun v hv => HS.out.yes hy (by omega) (v := v) hv)
          rw [← hq, ← ht] at HY
          generalize xs.getD q 0 = X at *
          clear hq ht hy
          go_wp2
          go_roundg k1
          case measure => omega
          case rel => exact ⟨i + 1, _, true, rfl, by first | rfl | (congr 1; omega), by omega, by omega, by omega, ⟨HY.out _ rfl⟩, ⟨seew_store HW q _⟩⟩
        · have h1 : (Go.bits .and .u32 (I (y >>> i)) 1 == 1) = false := beq_eq_false_iff_ne.2 (fun e => hy ((bit1I y i).1 e))
          have HY := Aside0.mk (HS.out.no (by simpa using hy))
          clear hy
          go_wp2
          go_roundg k1
          case measure => omega
          case rel => exact ⟨i + 1, xs, tb, rfl, by first | rfl | (congr 1; omega), by omega, by omega, by omega, HY, HW⟩
      · have hd2 : decide ((p : Int) + (i : Int) < 8 * (l.length : Int)) = false := decide_eq_false (by omega)
        have hne := fin i HS.out (by omega) (by omega)
        have htt : (tb == tb) = true := by cases tb <;> rfl
        clear fin
        go_wp2_with (first
          | (go_at_call 8; (with_reducible refine (HXS.out).mono ?_); rintro e w2 ⟨rfl, hb2⟩; have HB2 := Aside0.mk hb2; clear hb2 HXS)
          | (go_at_call 8; (with_reducible refine (HRW.out _ HB2.out).mono ?_); rintro e w3 ⟨rfl, hd⟩; have HB3 := Aside0.mk (below_step HB2.out hd.below); clear hd HB2 HRW))
        go_ret
        exact ⟨rfl, HB3.out⟩
    · obtain rfl : i = 32 := by omega
      have hd1 : decide (((32 : Nat) : Int) < 32) = false := by decide
      have hne := fin 32 HS.out (by omega) (by omega)
      have htt : (tb == tb) = true := by cases tb <;> rfl
      clear fin
      go_wp2_with (first
        | (go_at_call 8; (with_reducible refine (HXS.out).mono ?_); rintro e w2 ⟨rfl, hb2⟩; have HB2 := Aside0.mk hb2; clear hb2 HXS)
        | (go_at_call 8; (with_reducible refine (HRW.out _ HB2.out).mono ?_); rintro e w3 ⟨rfl, hd⟩; have HB3 := Aside0.mk (below_step HB2.out hd.below); clear hd HB2 HRW))
      go_ret
      exact ⟨rfl, HB3.out⟩
theorem sees_walk (a0 : Option Addr) (len0 cap0 : Nat) (z0 : List Int) (x : Int) (y : Int) (w : World) (w0 : RowIn w a0 len0 cap0 z0) (y0 : len0 * 1 ≤ 140737488351232) (wx : (Lit.int .u16 x).wf = true) (wy : (Lit.int .u32 y).wf = true) (hT : Tab w) :
    Calls Tryd.prog 5 #[.slice a0 len0 cap0, .int .u16 x, .int .u32 y] w fun e w' => e = .returned (.bool true) ∧ Below w.heap.size w w' := by
  obtain ⟨y, rfl⟩ := u32_I wy
  obtain ⟨l, rfl, hr, hc, hb, hm⟩ := rowIn w0
  have hx : 0 ≤ x ∧ x ≤ 65535 := by simpa [Lit.wf, IntKind.min, IntKind.max, IntKind.signed, IntKind.bits] using wx
  by_cases h0 : l.length = 0
  · exact sees_none a0 cap0 l x y w (.inl h0) ⟨hT⟩
  · by_cases h1 : I y = 0
    · exact sees_none a0 cap0 l x y w (.inr ⟨by omega, h1⟩) ⟨hT⟩
    · exact sees_some a0 cap0 l x y w ⟨hr⟩ hc (by omega) ⟨hb⟩ hx (by omega) h1 ⟨hT⟩
end Go.Proofs.YtlinaloemppniaaDoor.PAll
