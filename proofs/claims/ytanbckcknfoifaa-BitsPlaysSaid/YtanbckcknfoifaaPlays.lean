/- BitsPlays: a reader and the document's reader side by side: the walk by hand. -/
import Derived.Test.YtanbckcknfoifaaRef
import Derived.Test.YtanbckcknfoifaaActs
import Derived.Test.YtanbckcknfoifaaPieces
namespace Go.Proofs.Ytanbckcknfoifaa.PAll
open Go.RowKit Go.Proofs.YtanbckcknfoifaaW.PrintWords Go.Proofs.YtanbckcknfoifaaW.PrintLast Go.Proofs.YtanbckcknfoifaaW.PrintMore
set_option linter.unusedVariables false
set_option linter.unusedSimpArgs false
/-- both readers. -/
def BQ (w W : World) (g1 g2 H n : Nat) (bs : List Bool) : Prop := Rdr w W g1 H n ∧ RB w W g2 bs ∧ g1 ≠ g2
/-- and the act's own box. -/
def BA (w W : World) (g1 g2 H n : Nat) (bs : List Bool) (gA : Nat) (x0 x1 x2 : Int) : Prop := BQ w W g1 g2 H n bs ∧ W.heap[gA]? = some (.cells #[.int .u8 x0, .int .u8 x1, .int .i64 x2] 45 (0, 0)) ∧ gA ≠ g1 ∧ gA ≠ g2
theorem rb_keep {w W W' : World} {g1 g2 H n : Nat} {bs : List Bool} (h1 : Rdr w W g1 H n) (h : RB w W g2 bs) (hne : g1 ≠ g2) (hk : KeepBut W W' g1 none) (hB : Below w.heap.size w W') : RB w W' g2 bs := by
  obtain ⟨v, h2, h3, h4, h5⟩ := h
  refine ⟨v, hk.blk h2 (fun e => hne e.symm) (by simp), h3, own_move h4 (fun k hk' => ?_), hB⟩
  have hlt := own_lt h4 k hk'
  exact hk.2 k hlt (fun e => own_ne h4 h1.1.1 (by decide) (by rw [hk', e])) (by simp)
theorem rdr_foot {w W W' : World} {g1 g2 H n : Nat} (h : Rdr w W g1 H n) (hne : g1 ≠ g2) (hf : Own.Foot W W' g2 4) (hB : Below w.heap.size w W') : Rdr w W' g1 H n :=
  ⟨⟨hf.2 _ _ _ h.1.1 hne (by decide), h.1.2⟩, hB, h.2.2⟩
theorem ba_one {w W : World} {g1 g2 H1 n1 : Nat} {bs : List Bool} {gA : Nat} {x0 x1 x2 : Int} (h : Aside0 (BA w W g1 g2 H1 n1 bs gA x0 x1 x2)) {f : FuncId} {args : Array Value} {v : Value} {H n : Nat}
    (hc : Aside0 (Rdr w W g1 H1 n1) → Calls Try.prog f args W fun e W' => e = .returned v ∧ Rdr w W' g1 H n ∧ KeepBut W W' g1 none) :
    Calls Try.prog f args W fun e W' => e = .returned v ∧ BA w W' g1 g2 H n bs gA x0 x1 x2 :=
  (hc ⟨h.out.1.1⟩).mono fun e W' ⟨he, hr, hk⟩ => ⟨he, ⟨hr, rb_keep h.out.1.1 h.out.1.2.1 h.out.1.2.2 hk hr.2.1, h.out.1.2.2⟩, hk.blk h.out.2.1 h.out.2.2.1 (by simp), h.out.2.2⟩
theorem ba_two {w W : World} {g1 g2 H1 n1 : Nat} {bs bs' : List Bool} {gA : Nat} {x0 x1 x2 : Int} (h : Aside0 (BA w W g1 g2 H1 n1 bs gA x0 x1 x2)) {f : FuncId} {args : Array Value} {v : Value}
    (hc : Aside0 (RB w W g2 bs) → Calls Try.prog f args W fun e W' => e = .returned v ∧ RB w W' g2 bs' ∧ Own.Foot W W' g2 4) :
    Calls Try.prog f args W fun e W' => e = .returned v ∧ BA w W' g1 g2 H1 n1 bs' gA x0 x1 x2 :=
  (hc ⟨h.out.1.2.1⟩).mono fun e W' ⟨he, hr, hf⟩ => by
    obtain ⟨v', h1, h2, h3, h4⟩ := hr
    exact ⟨he, ⟨rdr_foot h.out.1.1 h.out.1.2.2 hf h4, ⟨v', h1, h2, h3, h4⟩, h.out.1.2.2⟩, hf.2 _ _ _ h.out.2.1 h.out.2.2.2 (by decide), h.out.2.2⟩
theorem ba_drew {w W : World} {g1 g2 H1 n1 : Nat} {bs : List Bool} {gA : Nat} {x0 x1 x2 : Int} (h : Aside0 (BA w W g1 g2 H1 n1 bs gA x0 x1 x2)) : Aside0 (BA w W.drew g1 g2 H1 n1 bs gA x0 x1 x2) := by
  obtain ⟨⟨⟨h1, ⟨v, h2, h3, h4, h5⟩, h6⟩, h7⟩⟩ := h
  exact ⟨⟨(rdr_drew ⟨h1⟩).out, ⟨v, h2, h3, h4, below_drew h5⟩, h6⟩, h7⟩
theorem ba_c0 {w W : World} {g1 g2 H1 n1 : Nat} {bs : List Bool} {gA : Nat} {x0 x1 x2 : Int} (h : Aside0 (BA w W g1 g2 H1 n1 bs gA x0 x1 x2)) : W.cell? ⟨gA, 0, none⟩ = some (.int .u8 x0) := (blk_cell h.out.2.1 0).trans rfl
theorem ba_c1 {w W : World} {g1 g2 H1 n1 : Nat} {bs : List Bool} {gA : Nat} {x0 x1 x2 : Int} (h : Aside0 (BA w W g1 g2 H1 n1 bs gA x0 x1 x2)) : W.cell? ⟨gA, 1, none⟩ = some (.int .u8 x1) := (blk_cell h.out.2.1 1).trans rfl
theorem ba_c2 {w W : World} {g1 g2 H1 n1 : Nat} {bs : List Bool} {gA : Nat} {x0 x1 x2 : Int} (h : Aside0 (BA w W g1 g2 H1 n1 bs gA x0 x1 x2)) : W.cell? ⟨gA, 2, none⟩ = some (.int .i64 x2) := (blk_cell h.out.2.1 2).trans rfl
theorem bq_new {w W W' : World} {g1 : Nat} (h : Rdr w W g1 0 0) : BQ w (W.alloc (.cells #[.slice none 0 0] 43)) g1 W.heap.size 0 0 [] :=
  ⟨rdr_below h (below_alloc (Below.refl _ _) _) (below_alloc h.2.1 _), ⟨_, by simpa using heap_alloc_new W _, h.2.1.size, own_nil _ _ _ _, below_alloc h.2.1 _⟩, Nat.ne_of_lt h.1.lt⟩
theorem ba_start {w W : World} {g1 g2 H n : Nat} {bs : List Bool} (h : Aside0 (BQ w W g1 g2 H n bs)) (x0 x1 x2 : Int) : Aside0 (BA w (W.alloc (.cells #[.int .u8 x0, .int .u8 x1, .int .i64 x2] 45)) g1 g2 H n bs W.heap.size x0 x1 x2) := by
  obtain ⟨⟨h1, ⟨v, h2, h3, h4, h5⟩, h6⟩⟩ := h
  have hb := below_alloc (Below.refl W.heap.size W) (.cells #[.int .u8 x0, .int .u8 x1, .int .i64 x2] 45)
  refine ⟨⟨rdr_below h1 hb (below_step h5 hb), ⟨v, Own.below_blk h2 hb, h3, Own.own_below h4 hb, below_step h5 hb⟩, h6⟩, by simpa using heap_alloc_new W _, ?_, ?_⟩
  · exact fun e => by have := h1.1.lt; omega
  · exact fun e => by have := blk_lt h2; omega
theorem kinds_of (y : Int) (h : y = 0 ∨ y = 1 ∨ y = 2 ∨ y = 3 ∨ y = 4) : (y == 0) = true ∨ ((y == 0) = false ∧ (y == 1) = true) ∨ ((y == 0) = false ∧ (y == 1) = false ∧ (y == 2) = true) ∨ ((y == 0) = false ∧ (y == 1) = false ∧ (y == 2) = false ∧ (y == 3) = true) ∨ ((y == 0) = false ∧ (y == 1) = false ∧ (y == 2) = false ∧ (y == 3) = false) := by
  rcases h with rfl | rfl | rfl | rfl | rfl <;> decide
theorem ba_bq {w W : World} {g1 g2 H n gA : Nat} {bs : List Bool} {x0 x1 x2 : Int} (h : Aside0 (BA w W g1 g2 H n bs gA x0 x1 x2)) (e1 : H = val bs) (e2 : n = bs.length) : bs.length ≤ 64 ∧ Aside0 (BQ w W g1 g2 (val bs) bs.length bs) := by
  subst e1; subst e2; exact ⟨h.out.1.1.2.2.2, ⟨h.out.1⟩⟩
theorem put_val (b : Int) (bs : List Bool) (h0 : 0 ≤ b) (h1 : b ≤ 255) : val bs + b.toNat * 2 ^ bs.length = val (bs ++ bitsL b.toNat) := by rw [val_append, (bits_f b h0 h1).2]
theorem put_len (b : Int) (bs : List Bool) : bs.length + 8 = (bs ++ bitsL b.toNat).length := by rw [List.length_append, bitsL_len]
theorem rb_take' {w W : World} {g : Nat} {bs : List Bool} (k : Nat) (h : Aside0 (RB w W g bs)) (hk : k ≤ bs.length) (h32 : k ≤ 32) (h64 : bs.length ≤ 64) :
    Calls Try.prog 18 #[.pointer (some ⟨g, 0, none⟩), .int .i64 (k : Int)] W fun e W' => e = .returned (.tuple #[.int .u32 ((val bs % 2 ^ k : Nat) : Int), .bool true]) ∧ RB w W' g (bs.drop k) ∧ Own.Foot W W' g 4 := by
  rw [← val_take bs k hk]; exact rb_take k h hk h32 h64
theorem rb_peek' {w W : World} {g : Nat} {bs : List Bool} (k : Nat) (h : Aside0 (RB w W g bs)) (hk : k ≤ bs.length) (h32 : k ≤ 32) :
    Calls Try.prog 20 #[.pointer (some ⟨g, 0, none⟩), .int .i64 (k : Int)] W fun e W' => e = .returned (.tuple #[.int .u32 ((val bs % 2 ^ k : Nat) : Int), .bool true]) ∧ RB w W' g bs ∧ Own.Foot W W' g 4 := by
  rw [← val_take bs k hk]; exact rb_peek k h hk h32
theorem bq_nil {w W : World} {g1 g2 H gA : Nat} {n : Nat} {bs : List Bool} {x0 x1 x2 : Int} (h : Aside0 (BA w W g1 g2 H n bs gA x0 x1 x2)) (e1 : H = 0) (e2 : n = 0) : ([] : List Bool).length ≤ 64 ∧ Aside0 (BQ w (W.setCell ⟨g2, 0, none⟩ (.slice none 0 0)) g1 g2 (val []) ([] : List Bool).length []) := by
  subst e1; subst e2
  obtain ⟨⟨⟨h1, ⟨v, h2, h3, h4, h5⟩, h6⟩, h7⟩⟩ := h
  exact ⟨by simp, ⟨⟨⟨h1.1.far h6 _, h5.setCell h3 _, h1.2.2⟩, rb_set h2 h3 (own_nil _ _ _ _) h5, h6⟩⟩⟩
theorem ba_g2 {w W : World} {g1 g2 H n gA : Nat} {bs : List Bool} {x0 x1 x2 : Int} (h : Aside0 (BA w W g1 g2 H n bs gA x0 x1 x2)) : ∃ A c, W.cell? ⟨g2, 0, none⟩ = some (.slice A bs.length c) ∧ W.frozen? ⟨g2, 0, none⟩ = false := by
  obtain ⟨⟨⟨h1, ⟨v, h2, h3, h4, h5⟩, h6⟩, h7⟩⟩ := h
  obtain ⟨A, c, rfl⟩ := own_slice h4
  exact ⟨A, c, cellRB h2, blk_frozen h2 0⟩
theorem bq_g2 {w W : World} {g1 g2 H n : Nat} {bs : List Bool} (h : Aside0 (BQ w W g1 g2 H n bs)) : ∃ A c, W.cell? ⟨g2, 0, none⟩ = some (.slice A bs.length c) := by
  obtain ⟨⟨h1, ⟨v, h2, h3, h4, h5⟩, h6⟩⟩ := h
  obtain ⟨A, c, rfl⟩ := own_slice h4
  exact ⟨A, c, cellRB h2⟩
theorem bq_drew {w W : World} {g1 g2 H1 n1 : Nat} {bs : List Bool} (h : Aside0 (BQ w W g1 g2 H1 n1 bs)) : Aside0 (BQ w W.drew g1 g2 H1 n1 bs) := by
  obtain ⟨⟨h1, ⟨v, h2, h3, h4, h5⟩, h6⟩⟩ := h
  exact ⟨⟨(rdr_drew ⟨h1⟩).out, ⟨v, h2, h3, h4, below_drew h5⟩, h6⟩⟩
theorem bq_held {w W : World} {g1 g2 H n : Nat} {bs : List Bool} (h : Aside0 (BQ w W g1 g2 H n bs)) : Calls Try.prog 12 #[.pointer (some ⟨g1, 0, none⟩)] W fun e W' => e = .returned (.int .i64 (n : Int)) ∧ BQ w W' g1 g2 H n bs ∧ KeepBut W W' g1 none :=
  (rdr_held ⟨h.out.1⟩).mono fun e W' ⟨he, hs, hk⟩ => ⟨he, ⟨hs, rb_keep h.out.1 h.out.2.1 h.out.2.2 hk hs.2.1, h.out.2.2⟩, hk⟩
set_option maxHeartbeats 8000000 in
set_option maxRecDepth 100000 in
theorem plays_walk (A : Option Addr) (c : Nat) (l : List (List Int)) (w : World) (hR : Acts.Reads w [.u8, .u8, .i64] A l) (hc : l.length ≤ c) (hl : l.length ≤ 9223372036854775807) :
    Calls Try.prog 7 #[.slice A l.length c] w fun e w' => e = .returned (.bool true) ∧ Below w.heap.size w w' := by
  have HR := Aside0.mk hR
  have HB := Aside0.mk (Below.refl w.heap.size w)
  clear hR hc
  go_enter Try.func7, Try.ntmps7
  go_wp2_with (first
    | (go_at_call 11; (with_reducible refine (rdr_new _ _ HB).mono ?_); rintro e w1 ⟨g1, rfl, hs, hb, _⟩; have HS := Aside0.mk (bq_new (W' := w1) hs); clear hb hs)
    | (go_at_call 12; (with_reducible refine (bq_held HS).mono ?_); rintro e w2 ⟨rfl, hs, hk⟩; have HT := Aside0.mk hs; clear hs hk HS))
  go_loopg [5] (l.length + 1) (fun kq v5 w' => ∃ (i : Nat) (bs : List Bool), v5 = .int .i64 (i : Int) ∧ i ≤ l.length ∧ i + kq = l.length + 1 ∧ Aside0 (BQ w w' g1 w1.heap.size (val bs) bs.length bs))
  case atStart => exact ⟨0, [], rfl, by omega, by omega, HT⟩
  case round =>
    clear HT HB
    obtain ⟨i, bs, rfl, hil, hik, HT⟩ := hrel
    cases gk with
    | zero => exact absurd hik (by omega)
    | succ k1 =>
    by_cases hlt : i < l.length
    · have hb : decide ((i : Int) < (l.length : Int)) = true := decide_eq_true (by omega)
      have hp0 : (0 : Int) ≤ (i : Int) := by omega
      have hp1 : (i : Int) < (l.length : Int) := by omega
      obtain ⟨x, hA, hx⟩ := HR.out i hlt
      subst hA
      obtain ⟨hx0, hw0⟩ := hx 0 .u8 rfl
      obtain ⟨hx1, hw1⟩ := hx 1 .u8 rfl
      obtain ⟨hx2, hw2⟩ := hx 2 .i64 rfl
      clear hx
      replace hx0 := pw_cell_below HT.out.1.2.1 hx0
      replace hx1 := pw_cell_below HT.out.1.2.1 hx1
      replace hx2 := pw_cell_below HT.out.1.2.1 hx2
      generalize (l.getD i []).getD 0 0 = x0 at *
      generalize (l.getD i []).getD 1 0 = x1 at *
      generalize (l.getD i []).getD 2 0 = x2 at *
      have e3 : [IntKind.u8, IntKind.u8, IntKind.i64].length = 3 := rfl
      rw [e3] at hx0 hx1 hx2
      rw [add_field _ _ _ (by omega)] at hx1 hx2
      rw [Nat.add_zero] at hx0
      clear e3
      have HA := ba_start HT x0 x1 x2
      have hr0 : 0 ≤ x0 ∧ x0 ≤ 255 := by simpa [Lit.wf, IntKind.min, IntKind.max, IntKind.signed, IntKind.bits] using hw0
      have hr1 : 0 ≤ x1 ∧ x1 ≤ 255 := by simpa [Lit.wf, IntKind.min, IntKind.max, IntKind.signed, IntKind.bits] using hw1
      have h64 : bs.length ≤ 64 := HT.out.1.2.2.2
      clear hw0 hw1 hw2 HT
      go_upto_region 9 with (fail)
      clear hx0 hx1 hx2
      generalize wr.alloc (.cells #[.int .u8 x0, .int .u8 x1, .int .i64 x2] 45) = W1 at HA ⊢
      generalize wr.heap.size = gA at HA ⊢
      have hc0 := ba_c0 HA
      have hm : x0 % 5 = 0 ∨ x0 % 5 = 1 ∨ x0 % 5 = 2 ∨ x0 % 5 = 3 ∨ x0 % 5 = 4 := by omega
      have HM := Aside0.mk hm
      clear hm
      go_upto_block 2 with (fail)
      clear hc0
      go_cut [] (fun wc => ∃ bs' : List Bool, bs'.length ≤ 64 ∧ Aside0 (BQ w wc g1 w1.heap.size (val bs') bs'.length bs'))
      case first =>
        rcases kinds_of (x0 % 5) HM.out with hb0 | ⟨hb0, hb1⟩ | ⟨hb0, hb1, hb2⟩ | ⟨hb0, hb1, hb2, hb3⟩ | ⟨hb0, hb1, hb2, hb3⟩
        all_goals clear HM
        · by_cases hfull : bs.length ≤ 56
          · have HN := Aside0.mk (show bs.length ≤ 56 ∧ 0 ≤ x1 ∧ x1 ≤ 255 from ⟨hfull, hr1.1, hr1.2⟩)
            go_wp2
            go_region_held3 (fun W' => W'.cell? ⟨gA, 1, none⟩ = some (.int .u8 x1)) (first | exact ba_c1 HA | exact ba_c1 (ba_drew HA))
              (first
                | (go_at_call 13; (with_reducible refine (ba_one (ba_drew HA) (fun h => rdr_put x1 h HN)).mono ?_); rintro e w2 ⟨rfl, ht⟩; have HA' := Aside0.mk ht; clear HA ht; have HA := HA'; clear HA')
                | (go_at_call 17; (with_reducible refine (ba_two HA (fun h => rb_put x1 h HN.out.1 HN.out.2.1 HN.out.2.2)).mono ?_); rintro e w2 ⟨rfl, ht⟩; have HA' := Aside0.mk ht; clear HA ht; have HA := HA'; clear HA'))
            go_wp2
            go_meet
            case rel => exact ⟨_, ba_bq HA (put_val x1 bs hr1.1 hr1.2) (put_len x1 bs)⟩

          · have HN := Aside0.mk (show 56 < bs.length from by omega)
            go_wp2
            go_region_held3 (fun W' => W'.cell? ⟨gA, 1, none⟩ = some (.int .u8 x1)) (first | exact ba_c1 HA | exact ba_c1 (ba_drew HA))
              (first
                | (go_at_call 13; (with_reducible refine (ba_one (ba_drew HA) (fun h => rdr_put_no x1 h HN)).mono ?_); rintro e w2 ⟨rfl, ht⟩; have HA' := Aside0.mk ht; clear HA ht; have HA := HA'; clear HA')
                | (go_at_call 17; (with_reducible refine (ba_two HA (fun h => rb_put_no x1 h HN.out)).mono ?_); rintro e w2 ⟨rfl, ht⟩; have HA' := Aside0.mk ht; clear HA ht; have HA := HA'; clear HA'))
            go_wp2
            go_meet
            case rel => exact ⟨_, ba_bq HA rfl rfl⟩

        · rcases Classical.em (0 ≤ x2 ∧ x2 ≤ 32 ∧ x2 ≤ (bs.length : Int)) with hkk | hkk
          · obtain ⟨k, rfl⟩ : ∃ k : Nat, x2 = (k : Int) := ⟨x2.toNat, by omega⟩
            have hk1 : k ≤ bs.length := by omega
            have hk2 : k ≤ 32 := by omega
            clear hkk
            have HK := Aside0.mk (show k ≤ bs.length ∧ k ≤ 32 ∧ bs.length ≤ 64 from ⟨hk1, hk2, h64⟩)
            have hc2 := ba_c2 HA

            go_wp2_with (first
              | (go_at_call 14; (with_reducible refine (ba_one HA (fun h => rdr_take k h ⟨⟨HK.out.1, HK.out.2.1⟩⟩)).mono ?_); rintro e w2 ⟨rfl, ht⟩; clear hc2; have HA' := Aside0.mk ht; clear HA ht; have HA := HA'; clear HA'; have hc2 := ba_c2 HA)
              | (go_at_call 18; (with_reducible refine (ba_two HA (fun h => rb_take' k h HK.out.1 HK.out.2.1 HK.out.2.2)).mono ?_); rintro e w2 ⟨rfl, ht⟩; have HA' := Aside0.mk ht; clear HA ht; have HA := HA'; clear HA'))
            go_meet
            case rel => exact ⟨_, ba_bq HA (val_drop bs k HK.out.1).symm List.length_drop.symm⟩

          · replace hkk : x2 < 0 ∨ x2 > 32 ∨ x2 > (bs.length : Int) := by omega
            have HK := Aside0.mk (show x2 < 0 ∨ x2 > 32 ∨ x2 > bs.length from hkk)
            have hc2 := ba_c2 HA
            go_wp2_with (first
              | (go_at_call 14; (with_reducible refine (ba_one HA (fun h => rdr_take_no x2 h HK)).mono ?_); rintro e w2 ⟨rfl, ht⟩; clear hc2; have HA' := Aside0.mk ht; clear HA ht; have HA := HA'; clear HA'; have hc2 := ba_c2 HA)
              | (go_at_call 18; (with_reducible refine (ba_two HA (fun h => rb_take_no x2 h HK.out)).mono ?_); rintro e w2 ⟨rfl, ht⟩; have HA' := Aside0.mk ht; clear HA ht; have HA := HA'; clear HA'))
            go_meet
            case rel => exact ⟨_, ba_bq HA rfl rfl⟩

        · rcases Classical.em (0 ≤ x2 ∧ x2 ≤ 32 ∧ x2 ≤ (bs.length : Int)) with hkk | hkk
          · obtain ⟨k, rfl⟩ : ∃ k : Nat, x2 = (k : Int) := ⟨x2.toNat, by omega⟩
            have hk1 : k ≤ bs.length := by omega
            have hk2 : k ≤ 32 := by omega
            clear hkk
            have HK := Aside0.mk (show k ≤ bs.length ∧ k ≤ 32 ∧ bs.length ≤ 64 from ⟨hk1, hk2, h64⟩)
            have hc2 := ba_c2 HA
            go_wp2_with (first
              | (go_at_call 19; (with_reducible refine (ba_one HA (fun h => rdr_peek k h ⟨⟨HK.out.1, HK.out.2.1⟩⟩)).mono ?_); rintro e w2 ⟨rfl, ht⟩; clear hc2; have HA' := Aside0.mk ht; clear HA ht; have HA := HA'; clear HA'; have hc2 := ba_c2 HA)
              | (go_at_call 20; (with_reducible refine (ba_two HA (fun h => rb_peek' k h HK.out.1 HK.out.2.1)).mono ?_); rintro e w2 ⟨rfl, ht⟩; have HA' := Aside0.mk ht; clear HA ht; have HA := HA'; clear HA'))
            go_meet
            case rel => exact ⟨_, ba_bq HA rfl rfl⟩

          · replace hkk : x2 < 0 ∨ x2 > 32 ∨ x2 > (bs.length : Int) := by omega
            have HK := Aside0.mk (show x2 < 0 ∨ x2 > 32 ∨ x2 > bs.length from hkk)
            have hc2 := ba_c2 HA
            go_wp2_with (first
              | (go_at_call 19; (with_reducible refine (ba_one HA (fun h => rdr_peek_no x2 h HK)).mono ?_); rintro e w2 ⟨rfl, ht⟩; clear hc2; have HA' := Aside0.mk ht; clear HA ht; have HA := HA'; clear HA'; have hc2 := ba_c2 HA)
              | (go_at_call 20; (with_reducible refine (ba_two HA (fun h => rb_peek_no x2 h HK.out)).mono ?_); rintro e w2 ⟨rfl, ht⟩; have HA' := Aside0.mk ht; clear HA ht; have HA := HA'; clear HA'))
            go_meet
            case rel => exact ⟨_, ba_bq HA rfl rfl⟩

        · have HK := Aside0.mk h64
          go_wp2_with (first
            | (go_at_call 16; (with_reducible refine (ba_one HA (fun h => rdr_align h)).mono ?_); rintro e w2 ⟨rfl, ht⟩; have HA' := Aside0.mk ht; clear HA ht; have HA := HA'; clear HA')
            | (go_at_call 21; (with_reducible refine (ba_two HA (fun h => rb_align h HK.out)).mono ?_); rintro e w2 ⟨rfl, ht⟩; have HA' := Aside0.mk ht; clear HA ht; have HA := HA'; clear HA'))
          go_meet
          case rel => exact ⟨_, ba_bq HA (val_drop bs _ (Nat.mod_le _ _)).symm List.length_drop.symm⟩

        · go_wp2_with (first
            | (go_at_call 22; (with_reducible refine (ba_one HA (fun h => rdr_clear h)).mono ?_); rintro e w2 ⟨rfl, ht⟩; have HA' := Aside0.mk ht; clear HA ht; have HA := HA'; clear HA'; obtain ⟨A2, c2, hg2, hf2⟩ := ba_g2 HA))
          go_meet
          case rel => exact ⟨_, bq_nil HA rfl rfl⟩

      case rest =>
        clear HM HA
        obtain ⟨bs', h64', HT⟩ := hcut
        obtain ⟨A2, c2, hg2⟩ := bq_g2 HT
        have HG2 := Aside0.mk hg2
        go_wp2
        go_region_held3 (fun W' => W'.cell? ⟨w1.heap.size, 0, none⟩ = some (.slice A2 bs'.length c2)) (first | exact HG2.out)
          (first
            | (go_at_call 12; (with_reducible refine (bq_held (bq_drew HT)).mono ?_); rintro e w2 ⟨rfl, ht, hkk⟩; have HG3 := Aside0.mk (keep_cell (W := w2) hkk (show World.cell? _ ⟨w1.heap.size, 0, none⟩ = some (.slice A2 bs'.length c2) from HG2.out) (fun e => ht.2.2 e.symm)); have HT' := Aside0.mk ht; clear HT ht hkk HG2; have HT := HT'; have HG2 := HG3; clear HT' HG3))
        go_wp2
        go_roundg k1
        case measure => omega
        case rel => exact ⟨i + 1, bs', by go_num, by omega, by omega, HT⟩
    · have hb : decide ((i : Int) < (l.length : Int)) = false := decide_eq_false (by omega)
      go_wp2
      go_ret
      exact ⟨rfl, HT.out.1.2.1⟩
end Go.Proofs.Ytanbckcknfoifaa.PAll
