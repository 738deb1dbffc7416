/- TallyPlays: a ledger and the document's ledger side by side: the walk by hand (two states at once). -/
import Derived.Test.YtgkgafahkbibbaaPAllx1
import Derived.Test.YtgkgafahkbibbaaActs
import Derived.Outline
namespace Go.Proofs.Ytgkgafahkbibbaa.PAll
open Go.RowKit Go.Proofs.YtgkgafahkbibbaaW.PrintWords Go.Proofs.YtgkgafahkbibbaaW.PrintLast Go.Proofs.YtgkgafahkbibbaaW.PrintMore Go.Proofs.Ytgkgafahkbibbaa.Sat
set_option linter.unusedVariables false
def Two (w W : World) (g1 g2 : Nat) (lim u v : Int) : Prop := IsS44 w W g1 lim u ∧ IsS28 w W g2 lim v ∧ Below w.heap.size w W ∧ g1 ≠ g2
def stepU (g : Bool) (lim u x : Int) : Int := if g then (if x ≤ u then u - x else u) else (if x ≤ lim - u then u + x else u)
theorem stepU_range (g : Bool) (lim u x : Int) (hu : 0 ≤ u) (hl : u ≤ lim) (hx : 0 ≤ x) : 0 ≤ stepU g lim u x ∧ stepU g lim u x ≤ lim := by
  unfold stepU; cases g <;> simp only [if_true, if_false, Bool.false_eq_true] <;> split <;> omega
theorem two_drew {w W : World} {g1 g2 : Nat} {lim u v : Int} (h : Aside0 (Two w W g1 g2 lim u v)) : Aside0 (Two w W.drew g1 g2 lim u v) := ⟨h.out.1.drew, h.out.2.1.drew, below_drew h.out.2.2.1, h.out.2.2.2⟩
theorem two_k1 {w W W' : World} {g1 g2 : Nat} {lim u v u' : Int} (h : Two w W g1 g2 lim u v) (hI : IsS44 w W' g1 lim u') (hB : Below w.heap.size w W') (hk : KeepBut W W' g1 none) : Two w W' g1 g2 lim u' v :=
  ⟨hI, ⟨hk.blk h.2.1.1 (fun e => h.2.2.2 e.symm) (by simp), h.2.1.2⟩, hB, h.2.2.2⟩
theorem two_k2 {w W W' : World} {g1 g2 : Nat} {lim u v v' : Int} (h : Two w W g1 g2 lim u v) (hI : IsS28 w W' g2 lim v') (hB : Below w.heap.size w W') (hk : KeepBut W W' g2 none) : Two w W' g1 g2 lim u v' :=
  ⟨⟨hk.blk h.1.1 h.2.2.2 (by simp), h.1.2⟩, hI, hB, h.2.2.2⟩
theorem two_give1 {w W : World} {g1 g2 : Nat} {lim u v : Int} (x : Int) (h : Aside0 (Two w W g1 g2 lim u v)) (hu : Aside0 (0 ≤ u ∧ u ≤ lim ∧ lim ≤ 18446744073709551615 ∧ 0 ≤ x)) (b : Bool) (hb : Aside0 (decide (x ≤ u) = b)) :
    Calls Try.prog 12 #[.pointer (some ⟨g1, 0, none⟩), .int .u64 x] W fun e W' => e = .returned (.bool b) ∧ Two w W' g1 g2 lim (stepU true lim u x) v := by
  obtain ⟨hb⟩ := hb
  subst hb
  obtain ⟨h0, h1, h2, h3⟩ := hu.out
  refine (tally_Ledger_Give.calls g1 lim u x (decide (x ≤ u)) lim (stepU true lim u x) w W h.out.1 h.out.2.2.1 ?_).mono fun e W' ⟨he, hI, hB, hk⟩ => ⟨he, two_k1 h.out hI hB hk⟩
  unfold tally_Ledger_Give.f stepU
  by_cases hc : x ≤ u
  · rw [if_neg (by omega), wu64]; simp only [if_true, hc, decide_true]; congr 3; omega
  · rw [if_pos (by omega)]; simp [hc]
theorem two_give2 {w W : World} {g1 g2 : Nat} {lim u v : Int} (x : Int) (h : Aside0 (Two w W g1 g2 lim u v)) (hu : Aside0 (0 ≤ v ∧ v ≤ lim ∧ lim ≤ 18446744073709551615 ∧ 0 ≤ x)) (b : Bool) (hb : Aside0 (decide (x ≤ v) = b)) :
    Calls Try.prog 13 #[.pointer (some ⟨g2, 0, none⟩), .int .u64 x] W fun e W' => e = .returned (.bool b) ∧ Two w W' g1 g2 lim u (stepU true lim v x) := by
  obtain ⟨hb⟩ := hb
  subst hb
  obtain ⟨h0, h1, h2, h3⟩ := hu.out
  refine (winkleref01_Ledger_Give.calls g2 lim v x (decide (x ≤ v)) lim (stepU true lim v x) w W h.out.2.1 h.out.2.2.1 ?_).mono fun e W' ⟨he, hI, hB, hk⟩ => ⟨he, two_k2 h.out hI hB hk⟩
  unfold winkleref01_Ledger_Give.f stepU
  by_cases hc : x ≤ v
  · rw [if_neg (by omega), wu64]; simp only [if_true, hc, decide_true]; congr 3; omega
  · rw [if_pos (by omega)]; simp [hc]
theorem two_claim1 {w W : World} {g1 g2 : Nat} {lim u v : Int} (x : Int) (h : Aside0 (Two w W g1 g2 lim u v)) (hu : Aside0 (0 ≤ u ∧ u ≤ lim ∧ lim ≤ 18446744073709551615 ∧ 0 ≤ x)) (b : Bool) (hb : Aside0 (decide (x ≤ lim - u) = b)) :
    Calls Try.prog 14 #[.pointer (some ⟨g1, 0, none⟩), .int .u64 x] W fun e W' => e = .returned (.bool b) ∧ Two w W' g1 g2 lim (stepU false lim u x) v := by
  obtain ⟨hb⟩ := hb
  subst hb
  obtain ⟨h0, h1, h2, h3⟩ := hu.out
  refine (tally_Ledger_Claim.calls g1 lim u x (decide (x ≤ lim - u)) lim (stepU false lim u x) w W h.out.1 h.out.2.2.1 ?_).mono fun e W' ⟨he, hI, hB, hk⟩ => ⟨he, two_k1 h.out hI hB hk⟩
  unfold tally_Ledger_Claim.f stepU
  simp only [wu64]
  have e1 : (lim - u) % 18446744073709551616 = lim - u := by omega
  rw [e1]
  by_cases hc : x ≤ lim - u
  · rw [if_neg (by omega)]; simp only [if_false, Bool.false_eq_true, hc, decide_true, if_true]; congr 3; omega
  · rw [if_pos (by omega)]; simp [hc]
theorem two_claim2 {w W : World} {g1 g2 : Nat} {lim u v : Int} (x : Int) (h : Aside0 (Two w W g1 g2 lim u v)) (hu : Aside0 (0 ≤ v ∧ v ≤ lim ∧ lim ≤ 18446744073709551615 ∧ 0 ≤ x)) (b : Bool) (hb : Aside0 (decide (x ≤ lim - v) = b)) :
    Calls Try.prog 15 #[.pointer (some ⟨g2, 0, none⟩), .int .u64 x] W fun e W' => e = .returned (.bool b) ∧ Two w W' g1 g2 lim u (stepU false lim v x) := by
  obtain ⟨hb⟩ := hb
  subst hb
  obtain ⟨h0, h1, h2, h3⟩ := hu.out
  refine (winkleref01_Ledger_Claim.calls g2 lim v x (decide (x ≤ lim - v)) lim (stepU false lim v x) w W h.out.2.1 h.out.2.2.1 ?_).mono fun e W' ⟨he, hI, hB, hk⟩ => ⟨he, two_k2 h.out hI hB hk⟩
  unfold winkleref01_Ledger_Claim.f stepU
  simp only [wu64]
  have e1 : (lim - v) % 18446744073709551616 = lim - v := by omega
  rw [e1]
  by_cases hc : x ≤ lim - v
  · rw [if_neg (by omega)]; simp only [if_false, Bool.false_eq_true, hc, decide_true, if_true]; congr 3; omega
  · rw [if_pos (by omega)]; simp [hc]
theorem two_used {w W : World} {g1 g2 : Nat} {lim u v : Int} (h : Aside0 (Two w W g1 g2 lim u v)) :
    Calls Try.prog 10 #[.pointer (some ⟨g1, 0, none⟩)] W fun e W' => e = .returned (.int .u64 u) ∧ Two w W' g1 g2 lim u v :=
  (tally_Ledger_Used.calls g1 lim u u lim u w W h.out.1 h.out.2.2.1 rfl).mono fun e W' ⟨he, hI, hB, hk⟩ => ⟨he, two_k1 h.out hI hB hk⟩
theorem two_left {w W : World} {g1 g2 : Nat} {lim u v : Int} (h : Aside0 (Two w W g1 g2 lim u v)) (hu : Aside0 (0 ≤ u ∧ u ≤ lim ∧ lim ≤ 18446744073709551615)) :
    Calls Try.prog 11 #[.pointer (some ⟨g1, 0, none⟩)] W fun e W' => e = .returned (.int .u64 (lim - u)) ∧ Two w W' g1 g2 lim u v := by
  obtain ⟨h0, h1, h2⟩ := hu.out
  refine (tally_Ledger_Left.calls g1 lim u (lim - u) lim u w W h.out.1 h.out.2.2.1 ?_).mono fun e W' ⟨he, hI, hB, hk⟩ => ⟨he, two_k1 h.out hI hB hk⟩
  unfold tally_Ledger_Left.f
  rw [wu64]; congr 2; omega
theorem two_S {w W : World} {g1 g2 : Nat} {lim u v : Int} {a : Addr} {x : Value} (h : Aside0 (Two w W g1 g2 lim u v)) (ha : Aside0 (w.cell? a = some x)) : W.cell? a = some x := pw_cell_below h.out.2.2.1 ha.out
theorem two_c0 {w W : World} {g1 g2 : Nat} {lim u v : Int} (h : Aside0 (Two w W g1 g2 lim u v)) : W.cell? ⟨g2, 0, none⟩ = some (.int .u64 lim) := by rw [blk_cell h.out.2.1.1]; rfl
theorem two_c1 {w W : World} {g1 g2 : Nat} {lim u v : Int} (h : Aside0 (Two w W g1 g2 lim u v)) : W.cell? ⟨g2, 1, none⟩ = some (.int .u64 v) := by rw [blk_cell h.out.2.1.1]; rfl
theorem two_start {w W : World} {g1 : Nat} {lim : Int} (hI : IsS44 w W g1 lim 0) (hB : Below w.heap.size w W) : Two w (W.alloc (.cells #[.int .u64 lim, .int .u64 0] 28)) g1 W.heap.size lim 0 0 :=
  ⟨hI.alloc _, IsS28.new w W lim 0 hB, below_alloc hB _, Nat.ne_of_lt hI.lt⟩
theorem two_of {w W : World} {g1 g2 : Nat} {lim u v : Int} {p : Prop} (h : p → Two w W g1 g2 lim u v) (hp : p) : Aside0 (Two w W g1 g2 lim u v) := ⟨h hp⟩
set_option maxHeartbeats 8000000 in
set_option maxRecDepth 100000 in
theorem plays_walk (a0 : Int) (A1 : Option Addr) (c1 : Nat) (l : List S31) (w : World) (wf : (Lit.int .u64 a0).wf = true) (hC : Kd.C k31 w A1 l.length l) (hc : l.length ≤ c1) (hm : l.length ≤ maxLen) (hr : ∀ x ∈ l, Rg x.f1) :
    Calls Try.prog 3 #[.int .u64 a0, .slice A1 l.length c1] w fun e w' => e = .returned (.bool true) ∧ Below w.heap.size w w' := by
  have h60 : maxLen ≤ 9223372036854775807 := by decide
  have hlen : l.length ≤ 9223372036854775807 := by omega
  have HR1 := Aside0.mk hC
  have HRG := Aside0.mk hr
  obtain ⟨ha0, ha1⟩ := u64_of wf
  have HU := Aside0.mk (show 0 ≤ (0 : Int) ∧ 0 ≤ a0 ∧ a0 ≤ 18446744073709551615 from ⟨Int.le_refl _, ha0, ha1⟩)
  clear hC hc hm hr h60 wf ha0 ha1
  have HB := Aside0.mk (Below.refl w.heap.size w)
  have hN := Aside0.mk (show tally_New.f a0 = some (a0, 0) from rfl)
  have hz : (a0 - 0 != a0) = false := by simp
  have hz1 : a0 - 0 = a0 := by omega
  go_enter Try.func3, Try.ntmps3
  go_wp2_with (first
    | (go_at_call 9; (with_reducible refine (tally_New.calls a0 a0 0 w _ HB.out hN.out).mono ?_); rintro e w1 ⟨g1, rfl, hs, hb, _⟩; clear HB; have HT := Aside0.mk (two_start hs hb); clear hb hs)
    | (go_at_call 10; (with_reducible refine (two_used HT).mono ?_); rintro e w2 ⟨rfl, ht⟩; have ht_ := Aside0.mk ht; clear HT ht; have HT := ht_; clear ht_)
    | (go_at_call 11; (with_reducible refine (two_left HT HU).mono ?_); rintro e w2 ⟨rfl, ht⟩; have ht_ := Aside0.mk ht; clear HT ht; have HT := ht_; clear ht_))
  go_loopg [7] (l.length + 1) (fun kq v7 w' => ∃ (i : Nat) (u : Int), v7 = .int .i64 (i : Int) ∧ i ≤ l.length ∧ i + kq = l.length + 1 ∧ Aside0 (Two w w' g1 w1.heap.size a0 u u) ∧ Aside0 (0 ≤ u ∧ u ≤ a0 ∧ a0 ≤ 18446744073709551615))
  case atStart => exact ⟨0, 0, rfl, by omega, by omega, HT, HU⟩
  case round =>
    clear HT HU hN hz hz1
    obtain ⟨i, u, rfl, hil, hk, HT, HU⟩ := hrel
    cases gk with
    | zero => exact absurd hk (by omega)
    | succ k1 =>
    by_cases hlt : i < l.length
    · obtain ⟨ad, e1, hx0, hx1⟩ := at_T31 HR1.out (i : Int) (by omega) (by omega)
      cases e1
      simp only [Int.toNat_natCast] at hx0 hx1
      have hmem : rd_T31 l (i : Int) ∈ l := by
        have : rd_T31 l (i : Int) = l[i] := by simp [rd_T31, hlt]
        rw [this]; exact List.getElem_mem hlt
      obtain ⟨hg0, hg1⟩ := HRG.out _ hmem
      clear hmem
      generalize hX : rd_T31 l (i : Int) = X at *
      obtain ⟨gv, x⟩ := X
      simp only at hx0 hx1 hg0 hg1
      have hp0 : (0 : Int) ≤ (i : Int) := by omega
      have hp1 : (i : Int) < (l.length : Int) := by omega
      have hb : decide ((i : Int) < (l.length : Int)) = true := decide_eq_true hp1
      have HX0 := Aside0.mk hx0
      have HX1 := Aside0.mk hx1
      have HUX := Aside0.mk (show 0 ≤ u ∧ u ≤ a0 ∧ a0 ≤ 18446744073709551615 ∧ 0 ≤ x from ⟨HU.out.1, HU.out.2.1, HU.out.2.2, hg0⟩)
      have HU2 := Aside0.mk (show 0 ≤ stepU gv a0 u x ∧ stepU gv a0 u x ≤ a0 ∧ a0 ≤ 18446744073709551615 from ⟨(stepU_range gv a0 u x HU.out.1 HU.out.2.1 hg0).1, (stepU_range gv a0 u x HU.out.1 HU.out.2.1 hg0).2, HU.out.2.2⟩)
      have hc0 := two_S HT HX0
      clear hX hx0 hx1 hg0 hg1 hlt
      cases gv
      · by_cases hcx : x ≤ a0 - u
        · have HD := Aside0.mk (decide_eq_true hcx)
          clear hcx
          go_wp2
          go_region_held3 (fun W' => W'.cell? ⟨(ad.add (i * 2)).block, (ad.add (i * 2)).off + 1, none⟩ = some (.int .u64 x)) (first | exact two_S HT HX1 | exact two_S (two_drew HT) HX1)
            (first
              | (go_at_call 14; (with_reducible refine (two_claim1 x (two_drew HT) HUX _ HD).mono ?_); rintro e w2 ⟨rfl, ht⟩; have ht_ := Aside0.mk ht; clear HT ht; have HT := ht_; clear ht_)
              | (go_at_call 15; (with_reducible refine (two_claim2 x HT HUX _ HD).mono ?_); rintro e w2 ⟨rfl, ht⟩; have ht_ := Aside0.mk ht; clear HT ht; have HT := ht_; clear ht_))
          have hd0 := two_c0 HT
          have hd1 := two_c1 HT
          go_wp2
          have hsu : IntKind.u64.wrap (a0 - stepU false a0 u x) = a0 - stepU false a0 u x := by rw [wu64]; have := HU2.out; omega
          go_region_held3 (fun W' => W'.cell? ⟨w1.heap.size, 0, none⟩ = some (.int .u64 a0) ∧ W'.cell? ⟨w1.heap.size, 1, none⟩ = some (.int .u64 (stepU false a0 u x))) (first | exact ⟨two_c0 HT, two_c1 HT⟩ | exact ⟨two_c0 (two_drew HT), two_c1 (two_drew HT)⟩)
            (first
              | (go_at_call 10; (with_reducible refine (two_used (two_drew HT)).mono ?_); rintro e w3 ⟨rfl, ht⟩; have ht_ := Aside0.mk ht; clear HT ht; have HT := ht_; clear ht_)
              | (go_at_call 11; (with_reducible refine (two_left HT HU2).mono ?_); rintro e w3 ⟨rfl, ht⟩; have ht_ := Aside0.mk ht; clear HT ht; have HT := ht_; clear ht_))
          go_wp2
          go_roundg k1
          case measure => omega
          case rel => exact ⟨i + 1, _, by go_num, by omega, by omega, HT, HU2⟩
        · have HD := Aside0.mk (decide_eq_false hcx)
          clear hcx
          go_wp2
          go_region_held3 (fun W' => W'.cell? ⟨(ad.add (i * 2)).block, (ad.add (i * 2)).off + 1, none⟩ = some (.int .u64 x)) (first | exact two_S HT HX1 | exact two_S (two_drew HT) HX1)
            (first
              | (go_at_call 14; (with_reducible refine (two_claim1 x (two_drew HT) HUX _ HD).mono ?_); rintro e w2 ⟨rfl, ht⟩; have ht_ := Aside0.mk ht; clear HT ht; have HT := ht_; clear ht_)
              | (go_at_call 15; (with_reducible refine (two_claim2 x HT HUX _ HD).mono ?_); rintro e w2 ⟨rfl, ht⟩; have ht_ := Aside0.mk ht; clear HT ht; have HT := ht_; clear ht_))
          have hd0 := two_c0 HT
          have hd1 := two_c1 HT
          go_wp2
          have hsu : IntKind.u64.wrap (a0 - stepU false a0 u x) = a0 - stepU false a0 u x := by rw [wu64]; have := HU2.out; omega
          go_region_held3 (fun W' => W'.cell? ⟨w1.heap.size, 0, none⟩ = some (.int .u64 a0) ∧ W'.cell? ⟨w1.heap.size, 1, none⟩ = some (.int .u64 (stepU false a0 u x))) (first | exact ⟨two_c0 HT, two_c1 HT⟩ | exact ⟨two_c0 (two_drew HT), two_c1 (two_drew HT)⟩)
            (first
              | (go_at_call 10; (with_reducible refine (two_used (two_drew HT)).mono ?_); rintro e w3 ⟨rfl, ht⟩; have ht_ := Aside0.mk ht; clear HT ht; have HT := ht_; clear ht_)
              | (go_at_call 11; (with_reducible refine (two_left HT HU2).mono ?_); rintro e w3 ⟨rfl, ht⟩; have ht_ := Aside0.mk ht; clear HT ht; have HT := ht_; clear ht_))
          go_wp2
          go_roundg k1
          case measure => omega
          case rel => exact ⟨i + 1, _, by go_num, by omega, by omega, HT, HU2⟩
      · by_cases hcx : x ≤ u
        · have HD := Aside0.mk (decide_eq_true hcx)
          clear hcx
          go_wp2
          go_region_held3 (fun W' => W'.cell? ⟨(ad.add (i * 2)).block, (ad.add (i * 2)).off + 1, none⟩ = some (.int .u64 x)) (first | exact two_S HT HX1 | exact two_S (two_drew HT) HX1)
            (first
              | (go_at_call 12; (with_reducible refine (two_give1 x (two_drew HT) HUX _ HD).mono ?_); rintro e w2 ⟨rfl, ht⟩; have ht_ := Aside0.mk ht; clear HT ht; have HT := ht_; clear ht_)
              | (go_at_call 13; (with_reducible refine (two_give2 x HT HUX _ HD).mono ?_); rintro e w2 ⟨rfl, ht⟩; have ht_ := Aside0.mk ht; clear HT ht; have HT := ht_; clear ht_))
          have hd0 := two_c0 HT
          have hd1 := two_c1 HT
          go_wp2
          have hsu : IntKind.u64.wrap (a0 - stepU true a0 u x) = a0 - stepU true a0 u x := by rw [wu64]; have := HU2.out; omega
          go_region_held3 (fun W' => W'.cell? ⟨w1.heap.size, 0, none⟩ = some (.int .u64 a0) ∧ W'.cell? ⟨w1.heap.size, 1, none⟩ = some (.int .u64 (stepU true a0 u x))) (first | exact ⟨two_c0 HT, two_c1 HT⟩ | exact ⟨two_c0 (two_drew HT), two_c1 (two_drew HT)⟩)
            (first
              | (go_at_call 10; (with_reducible refine (two_used (two_drew HT)).mono ?_); rintro e w3 ⟨rfl, ht⟩; have ht_ := Aside0.mk ht; clear HT ht; have HT := ht_; clear ht_)
              | (go_at_call 11; (with_reducible refine (two_left HT HU2).mono ?_); rintro e w3 ⟨rfl, ht⟩; have ht_ := Aside0.mk ht; clear HT ht; have HT := ht_; clear ht_))
          go_wp2
          go_roundg k1
          case measure => omega
          case rel => exact ⟨i + 1, _, by go_num, by omega, by omega, HT, HU2⟩
        · have HD := Aside0.mk (decide_eq_false hcx)
          clear hcx
          go_wp2
          go_region_held3 (fun W' => W'.cell? ⟨(ad.add (i * 2)).block, (ad.add (i * 2)).off + 1, none⟩ = some (.int .u64 x)) (first | exact two_S HT HX1 | exact two_S (two_drew HT) HX1)
            (first
              | (go_at_call 12; (with_reducible refine (two_give1 x (two_drew HT) HUX _ HD).mono ?_); rintro e w2 ⟨rfl, ht⟩; have ht_ := Aside0.mk ht; clear HT ht; have HT := ht_; clear ht_)
              | (go_at_call 13; (with_reducible refine (two_give2 x HT HUX _ HD).mono ?_); rintro e w2 ⟨rfl, ht⟩; have ht_ := Aside0.mk ht; clear HT ht; have HT := ht_; clear ht_))
          have hd0 := two_c0 HT
          have hd1 := two_c1 HT
          go_wp2
          have hsu : IntKind.u64.wrap (a0 - stepU true a0 u x) = a0 - stepU true a0 u x := by rw [wu64]; have := HU2.out; omega
          go_region_held3 (fun W' => W'.cell? ⟨w1.heap.size, 0, none⟩ = some (.int .u64 a0) ∧ W'.cell? ⟨w1.heap.size, 1, none⟩ = some (.int .u64 (stepU true a0 u x))) (first | exact ⟨two_c0 HT, two_c1 HT⟩ | exact ⟨two_c0 (two_drew HT), two_c1 (two_drew HT)⟩)
            (first
              | (go_at_call 10; (with_reducible refine (two_used (two_drew HT)).mono ?_); rintro e w3 ⟨rfl, ht⟩; have ht_ := Aside0.mk ht; clear HT ht; have HT := ht_; clear ht_)
              | (go_at_call 11; (with_reducible refine (two_left HT HU2).mono ?_); rintro e w3 ⟨rfl, ht⟩; have ht_ := Aside0.mk ht; clear HT ht; have HT := ht_; clear ht_))
          go_wp2
          go_roundg k1
          case measure => omega
          case rel => exact ⟨i + 1, _, by go_num, by omega, by omega, HT, HU2⟩
    · have hb : decide ((i : Int) < (l.length : Int)) = false := decide_eq_false (by omega)
      have hN1 := Aside0.mk (show tally_New.f 1 = some (1, 0) from rfl)
      have hC1 := Aside0.mk (show tally_Ledger_Claim.f 1 0 1 = some (true, 1, 1) by decide +kernel)
      have hc1 := two_c1 HT
      go_wp2
      go_region_held3 (fun W' => W'.cell? ⟨w1.heap.size, 1, none⟩ = some (.int .u64 u)) (first | exact two_c1 HT | exact two_c1 (two_drew HT) | exact pw_cell_below HB2.out (two_c1 HT) | exact pw_cell_below HB3.out (two_c1 HT))
        (first
          | (go_at_call 10; (with_reducible refine (two_used (two_drew HT)).mono ?_); rintro e w2 ⟨rfl, ht⟩; have ht_ := Aside0.mk ht; clear HT ht; have HT := ht_; clear ht_)
          | (go_at_call 9; (with_reducible refine (tally_New.calls 1 1 0 _ _ (Below.refl _ _) hN1.out).mono ?_); rintro e w3 ⟨g3, rfl, hs, hb, hbb⟩; have HS := Aside0.mk hs; have HB2 := Aside0.mk hb; clear hs hb hbb)
          | (go_at_call 14; (with_reducible refine (tally_Ledger_Claim.calls g3 1 0 1 true 1 1 _ _ HS.out HB2.out hC1.out).mono ?_); rintro e w4 ⟨rfl, hs, hb, hbb⟩; have HB3 := Aside0.mk hb; clear hs hb hbb HB2))
      go_wp2
      go_ret
      exact ⟨rfl, below_then HT.out.2.2.1 HT.out.2.2.1.size HB3.out⟩
end Go.Proofs.Ytgkgafahkbibbaa.PAll
