/- What each call of QuotedSteps makes of the decoder beside the document's run. -/
import Derived.Test.YtemdlahghbbkoaaTells
import Derived.Test.YtemdlahghbbkoaaPAllx4
namespace Go.Proofs.Ytemdlahghbbkoaa.PAll
open Go.RowKit Go.Proofs.Ytemdlahghbbkoaa.Pure Go.Proofs.YtemdlahghbbkoaaW.PrintWords Go.Proofs.YtemdlahghbbkoaaW.PrintLast Go.Proofs.YtemdlahghbbkoaaW.PrintMore
set_option linter.unusedVariables false
set_option linter.unusedSimpArgs false
theorem ofR_len2 (l : List Int) (L : Nat) (hl : l.length = L) (k : Nat) : ∀ (i : Nat) (o t : List Int) (wy a : Int), i ≤ L → o.length ≤ i → (ofR l L k i o t wy a).1.length ≤ L := by
  induction k with
  | zero => intro i o t wy a h1 h2; simp only [ofR]; omega
  | succ k ih =>
    intro i o t wy a h1 h2
    by_cases h : i < L ∧ wy = 0
    · obtain ⟨hi, rfl⟩ := h
      obtain ⟨n, hn, hn1, hn2, _⟩ := ofS_len l L i hl hi o t a
      rw [ofR, if_pos ⟨hi, rfl⟩, hn, Int.toNat_natCast]
      exact ih _ _ _ _ _ hn1 (by omega)
    · rw [ofR_stop h]
      show o.length ≤ L
      omega
theorem ofA_len (l : List Int) : (ofA l).1.length ≤ l.length := ofR_len2 l l.length rfl _ 0 [] [] 0 _ (by omega) (by simp)
def StR (st hi : Int) : Prop := (st = 0 ∨ st = 1 ∨ st = 2 ∨ st = 3 ∨ st = 4) ∧ 0 ≤ hi ∧ hi ≤ 15
theorem str_step {st hi : Int} {q : List Int} {b : Int} (h : StR st hi) (hb : 0 ≤ b ∧ b ≤ 255) (hq : q.length ≤ 64) : StR (stepS st hi q b).1 (stepS st hi q b).2.1 :=
  ⟨(stepS_facts st hi q b h.1 h.2 hb hq).1, (stepS_facts st hi q b h.1 h.2 hb hq).2.1⟩
/-- the decoder ahead of the run. -/
def DA (w W : World) (g : Nat) : Prop := (∃ st hi wh q p k, DQ W g st hi false wh q p k ∧ StR st hi) ∧ Below w.heap.size w W ∧ w.heap.size ≤ g
def DZ (w W : World) (g : Nat) : Prop := DQ W g 0 0 false 0 [] [] 0 ∧ Below w.heap.size w W ∧ w.heap.size ≤ g
section
variable {w W W' : World} {g : Nat}
theorem str_0 : StR 0 0 := ⟨.inl rfl, by omega, by omega⟩
theorem da_new (hB : Aside0 (Below w.heap.size w W)) : Calls Try.prog 16 #[] W fun e W' => e = .returned (.pointer (some ⟨W.heap.size, 0, none⟩)) ∧ DA w W' W.heap.size :=
  (dq_new W).mono fun e W' ⟨he, hd, hb⟩ => ⟨he, ⟨_, _, _, _, _, _, hd, str_0⟩, below_step hB.out hb, hB.out.size⟩
theorem da_put (b : Int) (hb : 0 ≤ b ∧ b ≤ 255) (h : Aside0 (DA w W g)) : Calls Try.prog 17 #[.pointer (some ⟨g, 0, none⟩), .int .u8 b] W fun e W' => ∃ x, e = .returned (.bool x) ∧ DA w W' g := by
  obtain ⟨⟨st, hi, wh, q, p, k, hd, hs⟩, hB, hg⟩ := h.out
  by_cases hw : wh = 0
  · subst hw
    rcases Nat.eq_zero_or_pos p.length with hp | hp
    · obtain rfl := List.eq_nil_of_length_eq_zero hp
      refine (dq_put (s2 := (stepS st hi q b).1) (h2 := (stepS st hi q b).2.1) (w2 := (stepS st hi q b).2.2.1) (q2 := (stepS st hi q b).2.2.2.1) (e2 := (stepS st hi q b).2.2.2.2) b ⟨hd⟩ hs.1 hb hs.2 rfl).mono ?_
      rintro e W' ⟨he, hd', hk⟩
      exact ⟨true, he, ⟨_, _, _, _, _, _, hd', str_step hs hb (dq_room ⟨hd⟩).1⟩, hk.2.1 w hB hg, hg⟩
    · exact (dq_put_no_c b ⟨hd⟩ hp).mono fun e W' ⟨he, hd', hk⟩ => ⟨false, he, ⟨_, _, _, _, _, _, hd', hs⟩, hk.2.1 w hB hg, hg⟩
  · exact (dq_put_no_b b ⟨hd⟩ hw).mono fun e W' ⟨he, hd', hk⟩ => ⟨false, he, ⟨_, _, _, _, _, _, hd', hs⟩, hk.2.1 w hB hg, hg⟩
theorem da_reset (h : Aside0 (DA w W g)) : Calls Try.prog 18 #[.pointer (some ⟨g, 0, none⟩)] W fun e W' => e = .returned (.tuple #[]) ∧ DZ w W' g := by
  obtain ⟨⟨st, hi, wh, q, p, k, hd, hs⟩, hB, hg⟩ := h.out
  exact (dq_reset ⟨hd⟩).mono fun e W' ⟨he, hd', hk⟩ => ⟨he, hd', hk.2.1 w hB hg, hg⟩
end
/-- the run, as it is answered. -/
def TZ (w W : World) (g : Nat) (AO : Option Addr) (cO : Nat) (AT : Option Addr) (cT : Nat) (O T : List Int) : Prop :=
  TQ w W g 0 0 false 0 [] [] 0 (.slice AO O.length cO) (.slice AT T.length cT) O T
theorem tz_of {w W : World} {g : Nat} {A : Option Addr} {c : Nat} {l O T : List Int} {y a : Int} (h : Aside0 (DZ w W g)) (hR : Aside0 (Kd.C (Kd.int .u8) w A l.length l)) (hc : Aside0 (l.length ≤ c)) (hl : Aside0 (l.length ≤ 1048576)) (hO : Aside0 (ofA l = (O, T, y, a))) :
    Calls Try.prog 11 #[.slice A l.length c] W fun e W' => ∃ AO cO AT cT, e = .returned (.agg #[.slice AO O.length cO, .slice AT T.length cT, .int .i64 y, .int .i64 a]) ∧ TZ w W' g AO cO AT cT O T := by
  refine (winkleref11_Of.calls A c l O T y a W (Kd.C_below hR.out h.out.2.1) hc.out (by unfold winkleref11_Of.f; rw [if_pos (by have := hl.out; omega), hO.out])).mono ?_
  rintro e W' ⟨v0, v1, he, h0, h1, hb⟩
  have hg := dq_lt h.out.1
  obtain ⟨AO, cO, rfl, _, _⟩ := Kd.R_reads h0
  obtain ⟨AT, cT, rfl, _, _⟩ := Kd.R_reads h1
  refine ⟨AO, cO, AT, cT, he, dq_below h.out.1 hb, ?_, ?_, below_step h.out.2.1 hb, h.out.2.2⟩
  · exact Kd.R_lower (Kd.R_mono (Kd.R_bound h0) (fun k hk => by have := hk.2.1; omega)) h.out.2.1.size
  · exact Kd.R_lower (Kd.R_mono (Kd.R_bound h1) (fun k hk => by have := hk.2.1; omega)) h.out.2.1.size
section
variable {w W W' : World} {g gr k : Nat} {st hi wh y a : Int} {en : Bool} {q p O T l : List Int} {v0 v1 : Value} {AO AT : Option Addr} {cO cT : Nat} {i told : Nat}
theorem tz_box (h : Aside0 (TZ w W g AO cO AT cT O T)) (y a : Int) :
    TB w (W.alloc (.cells #[.slice AO O.length cO, .slice AT T.length cT, .int .i64 y, .int .i64 a] 28)) g W.heap.size 0 0 false 0 [] [] 0 (.slice AO O.length cO) (.slice AT T.length cT) y a O T := by
  have hg := dq_lt h.out.1
  have hb := below_alloc (Below.refl W.heap.size W) (.cells #[.slice AO O.length cO, .slice AT T.length cT, .int .i64 y, .int .i64 a] 28)
  exact ⟨tq_step h.out (dq_below h.out.1 hb) (DK.below hb), heap_alloc_new W _, by omega⟩
/-- between two bytes: what is told is told. -/
def SQ (l : List Int) (w W : World) (g gr : Nat) (v0 v1 : Value) (O T : List Int) (y a : Int) (i told : Nat) : Prop :=
  ∃ (st hi wh : Int) (q : List Int) (k : Nat) (o t : List Int), TB w W g gr st hi false wh q [] k v0 v1 y a O T ∧ StR st hi ∧ told = o.length ∧ o.length = t.length ∧
    ((wh = 0 ∧ QSt l i st hi q o t) ∨ (wh = 22 ∧ y = 22 ∧ a < (i : Int) ∧ O = o ∧ T = t))
/-- behind a byte that was put in at i: e is known. -/
def SM (l : List Int) (w W : World) (g gr : Nat) (v0 v1 : Value) (O T : List Int) (y a : Int) (i told : Nat) : Prop :=
  ∃ (st hi wh : Int) (q : List Int) (k : Nat) (o t e : List Int), TB w W g gr st hi false wh q e k v0 v1 y a O T ∧ StR st hi ∧ told = o.length ∧ o.length = t.length ∧
    ((wh = 0 ∧ QSt l (i + 1) st hi q (o ++ e) (t ++ List.replicate e.length (i : Int))) ∨ (wh = 22 ∧ y = 22 ∧ a ≤ (i : Int) ∧ e = [] ∧ O = o ∧ T = t))
theorem sq_start (h : Aside0 (TB w W g gr 0 0 false 0 [] [] 0 v0 v1 y a O T)) : SQ l w W g gr v0 v1 O T y a 0 0 :=
  ⟨0, 0, 0, [], 0, [], [], h.out, str_0, rfl, rfl, .inl ⟨rfl, qst_start l⟩⟩
theorem qst_at (hO : ofA l = (O, T, y, a)) {o t : List Int} (h : QSt l i st hi q o t) : (i : Int) ≤ a := by
  obtain ⟨o', t', h1, h2, h3, h4, h5⟩ := qst_told h
  rw [hO] at h5; exact h5
theorem sq_put (hO : Aside0 (ofA l = (O, T, y, a))) (hi' : Aside0 (i < l.length)) (b : Int) (hb : Aside0 ((0 ≤ b ∧ b ≤ 255) ∧ l.getD i 0 = b)) (s1 : Bool) (hs : Aside0 (s1 = decide (y = 22 ∧ a < (i : Int)))) (h : Aside0 (SQ l w W g gr v0 v1 O T y a i told)) :
    Calls Try.prog 17 #[.pointer (some ⟨g, 0, none⟩), .int .u8 b] W fun e W' => e = .returned (.bool (!s1)) ∧ SM l w W' g gr v0 v1 O T y a i told := by
  obtain ⟨st, hi, wh, q, k, o, t, hT, hr, ht, hot, hc⟩ := h.out
  obtain ⟨⟨hb0, hb1⟩, hbe⟩ := hb.out
  rcases hc with ⟨rfl, hq⟩ | ⟨rfl, hy, ha, h1, h2⟩
  · have hia := qst_at hO.out hq
    have hsf : s1 = false := by rw [hs.out]; exact decide_eq_false (by omega)
    subst hsf
    obtain ⟨s2, h2, w2, q2, e2, hse⟩ : ∃ s2 h2 w2 q2 e2, stepS st hi q b = (s2, h2, w2, q2, e2) := ⟨_, _, _, _, _, rfl⟩
    have hst2 := str_step (q := q) hr ⟨hb0, hb1⟩ (dq_room ⟨hT.1.1⟩).1
    have hwy := stepS_why st hi q b
    rw [hse] at hst2 hwy
    simp only at hst2 hwy
    refine (dq_put b ⟨hT.1.1⟩ hr.1 ⟨hb0, hb1⟩ hr.2 hse).mono ?_
    rintro e W' ⟨he, hd, hk⟩
    refine ⟨he, s2, h2, w2, q2, 0, o, t, e2, tb_step ⟨hT⟩ hd hk, hst2, ht, hot, ?_⟩
    rw [← hbe] at hse
    rcases hwy with rfl | ⟨rfl, rfl⟩
    · exact .inl ⟨rfl, qst_step hq hi'.out hse⟩
    · have hbad := qst_bad hq hi'.out hse (by decide)
      rw [hO.out] at hbad
      simp only [Prod.mk.injEq] at hbad
      obtain ⟨rfl, rfl, rfl, rfl⟩ := hbad
      exact .inr ⟨rfl, rfl, by omega, rfl, rfl, rfl⟩
  · have hst : s1 = true := by rw [hs.out]; exact decide_eq_true ⟨hy, ha⟩
    subst hst
    refine (dq_put_no_b b ⟨hT.1.1⟩ (by decide)).mono ?_
    rintro e W' ⟨he, hd, hk⟩
    exact ⟨he, st, hi, 22, q, k, o, t, [], tb_step ⟨hT⟩ hd hk, hr, ht, hot, .inr ⟨rfl, hy, by omega, rfl, h1, h2⟩⟩
theorem tb_tells {e : List Int} (n : Nat) (at_ : Int) (h : TB w W g gr st hi en wh q e k (.slice AO O.length cO) (.slice AT T.length cT) y a O T)
    (hO : ∀ j, j < e.length → O.getD (n + j) 0 = e.getD j 0 ∧ T.getD (n + j) 0 = at_ ∧ n + j < O.length) (hN : n + e.length < O.length → T.getD (n + e.length) 0 ≠ at_) (hle : n + e.length ≤ O.length) (hlen : O.length = T.length) (hmax : O.length < 140737488355328) :
    Calls Try.prog 19 #[.pointer (some ⟨g, 0, none⟩), .agg #[.slice AO O.length cO, .slice AT T.length cT, .int .i64 y, .int .i64 a], .int .i64 (n : Int), .int .i64 at_] W fun r W' => r = .returned (.tuple #[.int .i64 ((n + e.length : Nat) : Int), .bool true]) ∧ TB w W' g gr st hi en wh q [] (k + e.length) (.slice AO O.length cO) (.slice AT T.length cT) y a O T :=
  (tells_calls n at_ ⟨h.1⟩ hO hN hle hlen hmax).mono fun r W' ⟨hr, ht, hk⟩ => ⟨hr, ht, hk.2.2 _ _ h.2.1 h.2.2, h.2.2⟩
theorem qst_lens (hO : ofA l = (O, T, y, a)) {o t : List Int} (h : QSt l i st hi q o t) : O.length = T.length := by
  obtain ⟨o', t', h1, h2, h3, h4, h5⟩ := qst_told h
  rw [hO] at h1 h2
  simp only at h1 h2
  rw [h1, h2, List.length_append, List.length_append, h.2.1, h3]
theorem sq_tells (hO : Aside0 (ofA l = (O, T, y, a))) (hl : Aside0 (l.length ≤ 1048576)) (h : Aside0 (SM l w W g gr (.slice AO O.length cO) (.slice AT T.length cT) O T y a i told)) :
    Calls Try.prog 19 #[.pointer (some ⟨g, 0, none⟩), .agg #[.slice AO O.length cO, .slice AT T.length cT, .int .i64 y, .int .i64 a], .int .i64 (told : Int), .int .i64 (i : Int)] W fun r W' => ∃ n : Nat, r = .returned (.tuple #[.int .i64 (n : Int), .bool true]) ∧ SQ l w W' g gr (.slice AO O.length cO) (.slice AT T.length cT) O T y a (i + 1) n := by
  obtain ⟨st, hi, wh, q, k, o, t, e, hT, hr, rfl, hot, hc⟩ := h.out
  have hOL : O.length ≤ l.length := by have := ofA_len l; rw [hO.out] at this; exact this
  have hl' := hl.out
  rcases hc with ⟨rfl, hq⟩ | ⟨rfl, hy, ha, rfl, rfl, rfl⟩
  · have hn := qst_next hq (by omega) hot
    rw [hO.out] at hn
    refine (tb_tells o.length (i : Int) hT hn.1 hn.2.1 hn.2.2.1 hn.2.2.2 (by omega)).mono ?_
    rintro r W' ⟨hr', ht'⟩
    exact ⟨_, hr', st, hi, 0, q, _, _, _, ht', hr, by simp, by simp [hot], .inl ⟨rfl, hq⟩⟩
  · refine (tb_tells O.length (i : Int) hT (fun j hj => absurd hj (by simp)) (fun h => absurd h (by simp)) (by simp) hot (by omega)).mono ?_
    rintro r W' ⟨hr', ht'⟩
    exact ⟨_, hr', st, hi, 22, q, _, O, T, ht', hr, by simp, hot, .inr ⟨rfl, hy, by omega, rfl, rfl⟩⟩
theorem sq_reason (hO : Aside0 (ofA l = (O, T, y, a))) (s2 : Bool) (hs : Aside0 (s2 = decide (y = 22 ∧ a ≤ (i : Int)))) (h : Aside0 (SQ l w W g gr v0 v1 O T y a (i + 1) told)) :
    Calls Try.prog 20 #[.pointer (some ⟨g, 0, none⟩)] W fun e W' => ∃ x : Int, e = .returned (.int .i64 x) ∧ (x != 0) = s2 ∧ SQ l w W' g gr v0 v1 O T y a (i + 1) told := by
  obtain ⟨st, hi, wh, q, k, o, t, hT, hr, ht, hot, hc⟩ := h.out
  refine (dq_reason ⟨hT.1.1⟩).mono ?_
  rintro e W' ⟨he, hd, hk⟩
  refine ⟨wh, he, ?_, st, hi, wh, q, k, o, t, tb_step ⟨hT⟩ hd hk, hr, ht, hot, hc⟩
  rw [hs.out]
  rcases hc with ⟨rfl, hq⟩ | ⟨rfl, hy, ha, h1, h2⟩
  · have := qst_at hO.out hq
    rw [decide_eq_false (by omega)]; rfl
  · rw [decide_eq_true ⟨hy, by omega⟩]; rfl
/-- behind the end: e is known. -/
def SE (w W : World) (g gr : Nat) (v0 v1 : Value) (O T : List Int) (y a : Int) (L : Nat) (told : Nat) : Prop :=
  ∃ (st hi : Int) (en : Bool) (q : List Int) (k : Nat) (e : List Int), TB w W g gr st hi en y q e k v0 v1 y a O T ∧ (en = true ∨ y ≠ 0) ∧ told + e.length = O.length ∧ O.length = T.length ∧
    (∀ j, j < e.length → O.getD (told + j) 0 = e.getD j 0 ∧ T.getD (told + j) 0 = (L : Int) ∧ told + j < O.length)
/-- all is told. -/
def SF (w W : World) (g gr : Nat) (v0 v1 : Value) (O T : List Int) (y a : Int) : Prop :=
  ∃ (st hi : Int) (en : Bool) (q : List Int) (k : Nat), TB w W g gr st hi en y q [] k v0 v1 y a O T ∧ (en = true ∨ y ≠ 0)
theorem sq_end (hO : Aside0 (ofA l = (O, T, y, a))) (h : Aside0 (SQ l w W g gr v0 v1 O T y a l.length told)) :
    Calls Try.prog 21 #[.pointer (some ⟨g, 0, none⟩)] W fun e W' => e = .returned (.tuple #[]) ∧ SE w W' g gr v0 v1 O T y a l.length told := by
  obtain ⟨st, hi, wh, q, k, o, t, hT, hr, ht, hot, hc⟩ := h.out
  rcases hc with ⟨rfl, hq⟩ | ⟨rfl, rfl, ha, rfl, rfl⟩
  · obtain ⟨w2, e2, hse⟩ : ∃ w2 e2, endS st q = (w2, e2) := ⟨_, _, rfl⟩
    have hqe := qst_end hq
    rw [hO.out, hse] at hqe
    simp only [Prod.mk.injEq] at hqe
    obtain ⟨h1, h2, rfl, h4⟩ := hqe
    refine (dq_end ⟨hT.1.1⟩ hse).mono ?_
    rintro e W' ⟨he, hd, hk⟩
    refine ⟨he, st, hi, true, [], 0, e2, tb_step ⟨hT⟩ hd hk, .inl rfl, by rw [ht, h1, List.length_append], by rw [h1, h2, List.length_append, List.length_append, List.length_replicate, hot], fun j hj => ?_⟩
    rw [h1, h2, ht]
    refine ⟨?_, ?_, by rw [List.length_append]; omega⟩
    · rw [gd_r (by omega), Nat.add_sub_cancel_left]
    · rw [hot, gd_r (by omega), Nat.add_sub_cancel_left]; simp [List.getD_eq_getElem?_getD, hj]
  · refine (dq_end_no_b ⟨hT.1.1⟩ (by decide)).mono ?_
    rintro e W' ⟨he, hd, hk⟩
    exact ⟨he, st, hi, false, q, k, [], tb_step ⟨hT⟩ hd hk, .inr (by decide), by simp [ht], hot, fun j hj => absurd hj (by simp)⟩
theorem se_tells {L : Nat} (hOL : Aside0 (O.length ≤ 1048576)) (h : Aside0 (SE w W g gr (.slice AO O.length cO) (.slice AT T.length cT) O T y a L told)) :
    Calls Try.prog 19 #[.pointer (some ⟨g, 0, none⟩), .agg #[.slice AO O.length cO, .slice AT T.length cT, .int .i64 y, .int .i64 a], .int .i64 (told : Int), .int .i64 (L : Int)] W fun r W' => r = .returned (.tuple #[.int .i64 (O.length : Int), .bool true]) ∧ SF w W' g gr (.slice AO O.length cO) (.slice AT T.length cT) O T y a := by
  obtain ⟨st, hi, en, q, k, e, hT, hen, hte, hot, hx⟩ := h.out
  have := hOL.out
  refine (tb_tells told (L : Int) hT hx (fun h => absurd h (by omega)) (by omega) hot (by omega)).mono ?_
  rintro r W' ⟨hr', ht'⟩
  rw [hte] at hr'
  exact ⟨hr', st, hi, en, q, _, ht', hen⟩
theorem sf_reason (h : Aside0 (SF w W g gr v0 v1 O T y a)) : Calls Try.prog 20 #[.pointer (some ⟨g, 0, none⟩)] W fun e W' => e = .returned (.int .i64 y) ∧ SF w W' g gr v0 v1 O T y a := by
  obtain ⟨st, hi, en, q, k, hT, hen⟩ := h.out
  exact (dq_reason ⟨hT.1.1⟩).mono fun e W' ⟨he, hd, hk⟩ => ⟨he, st, hi, en, q, k, tb_step ⟨hT⟩ hd hk, hen⟩
theorem sf_put (b : Int) (h : Aside0 (SF w W g gr v0 v1 O T y a)) : Calls Try.prog 17 #[.pointer (some ⟨g, 0, none⟩), .int .u8 b] W fun e W' => e = .returned (.bool false) ∧ SF w W' g gr v0 v1 O T y a := by
  obtain ⟨st, hi, en, q, k, hT, hen⟩ := h.out
  cases en with
  | true => exact (dq_put_no_a b ⟨hT.1.1⟩).mono fun e W' ⟨he, hd, hk⟩ => ⟨he, st, hi, true, q, k, tb_step ⟨hT⟩ hd hk, hen⟩
  | false => exact (dq_put_no_b b ⟨hT.1.1⟩ (hen.elim (fun h => by cases h) id)).mono fun e W' ⟨he, hd, hk⟩ => ⟨he, st, hi, false, q, k, tb_step ⟨hT⟩ hd hk, hen⟩
/-- the run's box, read. -/
theorem tb_cell (h : TB w W g gr st hi en wh q p k v0 v1 y a O T) : W.heap[gr]? = some (.cells #[v0, v1, .int .i64 y, .int .i64 a] 28 (0, 0)) := h.2.1
theorem sq_box (h : Aside0 (SQ l w W g gr v0 v1 O T y a i told)) : W.heap[gr]? = some (.cells #[v0, v1, .int .i64 y, .int .i64 a] 28 (0, 0)) := by
  obtain ⟨st, hi, wh, q, k, o, t, hT, _⟩ := h.out; exact hT.2.1
theorem sm_box (h : Aside0 (SM l w W g gr v0 v1 O T y a i told)) : W.heap[gr]? = some (.cells #[v0, v1, .int .i64 y, .int .i64 a] 28 (0, 0)) := by
  obtain ⟨st, hi, wh, q, k, o, t, e, hT, _⟩ := h.out; exact hT.2.1
theorem se_box {L : Nat} (h : Aside0 (SE w W g gr v0 v1 O T y a L told)) : W.heap[gr]? = some (.cells #[v0, v1, .int .i64 y, .int .i64 a] 28 (0, 0)) := by
  obtain ⟨st, hi, en, q, k, e, hT, _⟩ := h.out; exact hT.2.1
theorem sf_box (h : Aside0 (SF w W g gr v0 v1 O T y a)) : W.heap[gr]? = some (.cells #[v0, v1, .int .i64 y, .int .i64 a] 28 (0, 0)) := by
  obtain ⟨st, hi, en, q, k, hT, _⟩ := h.out; exact hT.2.1
theorem sf_below (h : SF w W g gr v0 v1 O T y a) : Below w.heap.size w W := by
  obtain ⟨st, hi, en, q, k, hT, _⟩ := h; exact hT.1.2.2.2.1
theorem sq_below (h : SQ l w W g gr v0 v1 O T y a i told) : Below w.heap.size w W := by
  obtain ⟨st, hi, wh, q, k, o, t, hT, _⟩ := h; exact hT.1.2.2.2.1
theorem sq_pos (hO : Aside0 (ofA l = (O, T, y, a))) (h : SQ l w W g gr v0 v1 O T y a i told) (hy : y ≠ 22) : told ≤ O.length := by
  obtain ⟨st, hi, wh, q, k, o, t, hT, hr, ht, hot, hc⟩ := h
  rcases hc with ⟨rfl, hq⟩ | ⟨rfl, hy', ha, rfl, rfl⟩
  · obtain ⟨o', t', h1, h2, h3, h4, h5⟩ := qst_told hq
    rw [hO.out] at h1; simp only at h1; rw [h1, List.length_append]; omega
  · omega
end
end Go.Proofs.Ytemdlahghbbkoaa.PAll
