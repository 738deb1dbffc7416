/- What the law reads of the decoder behind a byte (function 19): all that is known, each at its time. -/
import Derived.Test.YtemdlahghbbkoaaQws
import Derived.Test.YtemdlahghbbkoaaEnd
import Derived.Test.YtemdlahghbbkoaaWKept
import Derived.Test.YtemdlahghbbkoaaWMore
namespace Go.Proofs.Ytemdlahghbbkoaa.PAll
open Go.RowKit Go.Proofs.YtemdlahghbbkoaaW.PrintWords Go.Proofs.YtemdlahghbbkoaaW.PrintLast Go.Proofs.YtemdlahghbbkoaaW.PrintMore
attribute [local go_sem] max2_int min2_int max_two min_two max_three min_three max_four min_four   -- for this text's walks alone
set_option linter.unusedVariables false
set_option linter.unusedSimpArgs false
/-- the decoder and the document's run. -/
def TQ (w W : World) (g : Nat) (st hi : Int) (en : Bool) (wh : Int) (q p : List Int) (k : Nat) (v0 v1 : Value) (O T : List Int) : Prop :=
  DQ W g st hi en wh q p k ∧ (Kd.int .u8).R 5 W w.heap.size (fun k => k ≠ g) v0 O ∧ (Kd.int .i64).R 3 W w.heap.size (fun k => k ≠ g) v1 T ∧ Below w.heap.size w W ∧ w.heap.size ≤ g
/-- and the run's box. -/
def TB (w W : World) (g gr : Nat) (st hi : Int) (en : Bool) (wh : Int) (q p : List Int) (k : Nat) (v0 v1 : Value) (y a : Int) (O T : List Int) : Prop :=
  TQ w W g st hi en wh q p k v0 v1 O T ∧ W.heap[gr]? = some (.cells #[v0, v1, .int .i64 y, .int .i64 a] 28 (0, 0)) ∧ gr ≠ g
/-- and what else lay there. -/
def TS (w W0 W : World) (g gr : Nat) (st hi : Int) (en : Bool) (wh : Int) (q p : List Int) (k : Nat) (v0 v1 : Value) (y a : Int) (O T : List Int) : Prop :=
  TB w W g gr st hi en wh q p k v0 v1 y a O T ∧ DK W0 W g
section
variable {w W0 W W' : World} {g gr k k' : Nat} {st hi wh y a st' hi' wh' : Int} {en en' : Bool} {q p q' p' O T : List Int} {v0 v1 : Value}
theorem dk_kept (h : DK W W' g) : Kept W W' (fun k => k = g) :=
  ⟨h.1, fun i hi hn => by
    obtain ⟨o, ho⟩ : ∃ o, W.heap[i]? = some o := ⟨_, Array.getElem?_eq_getElem hi⟩
    rw [ho]; exact h.2.2 i o ho hn⟩
theorem tq_step (h : TQ w W g st hi en wh q p k v0 v1 O T) (hd : DQ W' g st' hi' en' wh' q' p' k') (hk : DK W W' g) : TQ w W' g st' hi' en' wh' q' p' k' v0 v1 O T :=
  ⟨hd, Kd.R_kept h.2.1 (dk_kept hk) (fun _ h => h), Kd.R_kept h.2.2.1 (dk_kept hk) (fun _ h => h), hk.2.1 w h.2.2.2.1 h.2.2.2.2, h.2.2.2.2⟩
theorem tb_step (h : Aside0 (TB w W g gr st hi en wh q p k v0 v1 y a O T)) (hd : DQ W' g st' hi' en' wh' q' p' k') (hk : DK W W' g) : TB w W' g gr st' hi' en' wh' q' p' k' v0 v1 y a O T :=
  ⟨tq_step h.out.1 hd hk, hk.2.2 _ _ h.out.2.1 h.out.2.2, h.out.2.2⟩
theorem ts_step (h : Aside0 (TS w W0 W g gr st hi en wh q p k v0 v1 y a O T)) (hd : DQ W' g st' hi' en' wh' q' p' k') (hk : DK W W' g) : TS w W0 W' g gr st' hi' en' wh' q' p' k' v0 v1 y a O T :=
  ⟨tb_step ⟨h.out.1⟩ hd hk, h.out.2.trans hk⟩
theorem ts_dq (h : Aside0 (TS w W0 W g gr st hi en wh q p k v0 v1 y a O T)) : Aside0 (DQ W g st hi en wh q p k) := ⟨h.out.1.1.1⟩
/-- while bytes are known, a byte is refused. -/
theorem ts_put (x : Int) (h : Aside0 (TS w W0 W g gr st hi en wh q p k v0 v1 y a O T)) (hp : 0 < p.length) :
    Calls Try.prog 17 #[.pointer (some ⟨g, 0, none⟩), .int .u8 x] W fun e W' => e = .returned (.bool false) ∧ TS w W0 W' g gr st hi en wh q p k v0 v1 y a O T := by
  cases en with
  | true => exact (dq_put_no_a x (ts_dq h)).mono fun e W' ⟨he, hd, hk⟩ => ⟨he, ts_step h hd hk⟩
  | false =>
    by_cases hw : wh = 0
    · subst hw; exact (dq_put_no_c x (ts_dq h) hp).mono fun e W' ⟨he, hd, hk⟩ => ⟨he, ts_step h hd hk⟩
    · exact (dq_put_no_b x (ts_dq h) hw).mono fun e W' ⟨he, hd, hk⟩ => ⟨he, ts_step h hd hk⟩
theorem ts_reason (h : Aside0 (TS w W0 W g gr st hi en wh q p k v0 v1 y a O T)) (hp : 0 < p.length) :
    Calls Try.prog 20 #[.pointer (some ⟨g, 0, none⟩)] W fun e W' => e = .returned (.int .i64 0) ∧ TS w W0 W' g gr st hi en wh q p k v0 v1 y a O T :=
  (dq_reason_told (ts_dq h) hp).mono fun e W' ⟨he, hd, hk⟩ => ⟨he, ts_step h hd hk⟩
theorem ts_next {x : Int} {r : List Int} (h : Aside0 (TS w W0 W g gr st hi en wh q p k v0 v1 y a O T)) (hp : p = x :: r) :
    Calls Try.prog 22 #[.pointer (some ⟨g, 0, none⟩)] W fun e W' => e = .returned (.tuple #[.int .u8 x, .bool true]) ∧ TS w W0 W' g gr st hi en wh q r (k + 1) v0 v1 y a O T := by
  subst hp
  exact (dq_next (ts_dq h)).mono fun e W' ⟨he, hd, hk⟩ => ⟨he, ts_step h hd hk⟩
theorem ts_next_no (h : Aside0 (TS w W0 W g gr st hi en wh q p k v0 v1 y a O T)) (hp : p = []) :
    Calls Try.prog 22 #[.pointer (some ⟨g, 0, none⟩)] W fun e W' => e = .returned (.tuple #[.int .u8 0, .bool false]) ∧ TS w W0 W' g gr st hi en wh q [] k v0 v1 y a O T := by
  subst hp
  exact (dq_next_no (ts_dq h)).mono fun e W' ⟨he, hd, hk⟩ => ⟨he, ts_step h hd hk⟩
theorem ts_box (h : TQ w W g st hi en wh q p k v0 v1 O T) (y a : Int) (hg : g < W.heap.size) : TS w W (W.alloc (.cells #[v0, v1, .int .i64 y, .int .i64 a] 28)) g W.heap.size st hi en wh q p k v0 v1 y a O T :=
  ⟨⟨tq_step h (dq_below h.1 (below_alloc (Below.refl _ _) _)) (DK.below (below_alloc (Below.refl _ _) _)), heap_alloc_new W _, by omega⟩, DK.below (below_alloc (Below.refl _ _) _)⟩
theorem dq_lt (h : DQ W g st hi en wh q p k) : g < W.heap.size := by obtain ⟨bl, ou, ⟨hb, _⟩, _⟩ := h; exact blk_lt hb
theorem w64t {i : Nat} (h : i < 140737488355328) : wrap64 ((i : Int) + 1) = ((i + 1 : Nat) : Int) := by unfold wrap64; omega
theorem rd_get (l : List Int) (i : Nat) : rd l (i : Int) = l.getD i 0 := by simp [rd, rdOf]
section
variable {AO AT : Option Addr} {cO cT : Nat}
theorem ts_c0 (h : Aside0 (TS w W0 W g gr st hi en wh q p k (.slice AO O.length cO) (.slice AT T.length cT) y a O T)) : W.cell? ⟨gr, 0, none⟩ = some (.slice AO O.length cO) := (blk_cell h.out.1.2.1 0).trans rfl
theorem ts_c1 (h : Aside0 (TS w W0 W g gr st hi en wh q p k (.slice AO O.length cO) (.slice AT T.length cT) y a O T)) : W.cell? ⟨gr, 1, none⟩ = some (.slice AT T.length cT) := (blk_cell h.out.1.2.1 1).trans rfl
theorem ts_o {X : Int} {i : Nat} (h : Aside0 (TS w W0 W g gr st hi en wh q p k (.slice AO O.length cO) (.slice AT T.length cT) y a O T)) (hi' : i < O.length) (hX : O.getD i 0 = X) : ∃ ad, AO = some ad ∧ W.cell? (ad.add i) = some (.int .u8 X) := by
  obtain ⟨ad, hA, hx⟩ := Kd.at_int (Kd.R_reads' h.out.1.1.2.1).2.2 (i : Int) (by omega) (by omega)
  rw [Int.toNat_natCast, rd_get, hX] at hx
  exact ⟨ad, hA, hx⟩
theorem ts_t {X : Int} {i : Nat} (h : Aside0 (TS w W0 W g gr st hi en wh q p k (.slice AO O.length cO) (.slice AT T.length cT) y a O T)) (hi' : i < T.length) (hX : T.getD i 0 = X) : ∃ ad, AT = some ad ∧ W.cell? (ad.add i) = some (.int .i64 X) := by
  obtain ⟨ad, hA, hx⟩ := Kd.at_int (Kd.R_reads' h.out.1.1.2.2.1).2.2 (i : Int) (by omega) (by omega)
  rw [Int.toNat_natCast, rd_get, hX] at hx
  exact ⟨ad, hA, hx⟩
end
end
set_option maxHeartbeats 8000000 in
set_option maxRecDepth 100000 in
theorem tells_calls {w W : World} {g k : Nat} {st hi wh y a : Int} {en : Bool} {q e O T : List Int} {AO AT : Option Addr} {cO cT : Nat} (n : Nat) (at_ : Int) (h : Aside0 (TQ w W g st hi en wh q e k (.slice AO O.length cO) (.slice AT T.length cT) O T))
    (hO : ∀ j, j < e.length → O.getD (n + j) 0 = e.getD j 0 ∧ T.getD (n + j) 0 = at_ ∧ n + j < O.length) (hN : n + e.length < O.length → T.getD (n + e.length) 0 ≠ at_) (hle : n + e.length ≤ O.length) (hlen : O.length = T.length) (hmax : O.length < 140737488355328) :
    Calls Try.prog 19 #[.pointer (some ⟨g, 0, none⟩), .agg #[.slice AO O.length cO, .slice AT T.length cT, .int .i64 y, .int .i64 a], .int .i64 (n : Int), .int .i64 at_] W fun r W' => r = .returned (.tuple #[.int .i64 ((n + e.length : Nat) : Int), .bool true]) ∧ TQ w W' g st hi en wh q [] (k + e.length) (.slice AO O.length cO) (.slice AT T.length cT) O T ∧ DK W W' g := by
  have HS := Aside0.mk (ts_box h.out y a (dq_lt h.out.1))
  have HF := Aside0.mk (And.intro hO (And.intro hN (And.intro hle (And.intro hlen hmax))))
  clear hO hN hle hlen hmax h
  go_enter Try.func19, Try.ntmps19
  go_wp2
  generalize W.alloc (.cells #[.slice AO O.length cO, .slice AT T.length cT, .int .i64 y, .int .i64 a] 28) = W1 at *
  generalize W.heap.size = gr at *
  go_loopg [2] (e.length + 1) (fun kq v2 w' => ∃ (i j : Nat), v2 = .int .i64 (i : Int) ∧ i = n + j ∧ j ≤ e.length ∧ j + kq = e.length + 1 ∧ Aside0 (TS w W w' g gr st hi en wh q (e.drop j) (k + j) (.slice AO O.length cO) (.slice AT T.length cT) y a O T))
  case atStart => exact ⟨n, 0, rfl, rfl, by omega, by omega, HS⟩
  case round =>
    clear HS
    obtain ⟨i, j, rfl, hij, hjl, hjk, HS⟩ := hrel
    cases gk with
    | zero => exact absurd hjk (by omega)
    | succ k1 =>
    have hc0 := ts_c0 HS
    have hc1 := ts_c1 HS
    by_cases hp : j < e.length
    · obtain ⟨hX, hT, hlt⟩ := HF.out.1 j hp
      have hlt2 : i < T.length := by have := HF.out.2.2.2.1; omega
      rw [← hij] at hX hT hlt
      obtain ⟨X, HX⟩ : ∃ X, e.getD j 0 = X := ⟨_, rfl⟩
      rw [HX] at hX
      have hdr : e.drop j = X :: e.drop (j + 1) := by rw [List.drop_eq_getElem_cons hp]; congr 1; rw [← HX]; simp [List.getD_eq_getElem?_getD, List.getElem?_eq_getElem hp]
      have HP := Aside0.mk (show 0 < (e.drop j).length by rw [hdr]; simp)
      have HDR := Aside0.mk hdr
      have HLT := Aside0.mk (And.intro hlt hX)
      have HMX := Aside0.mk (show i < 140737488355328 by have := HF.out.2.2.2.2; omega)
      obtain ⟨adT, hAT, hct⟩ := ts_t HS hlt2 hT
      obtain ⟨adO, hAO, hco⟩ := ts_o HS hlt hX
      subst hAT; subst hAO
      have hb : decide ((i : Int) < (O.length : Int)) = true := decide_eq_true (by omega)
      have hbb : decide (i < O.length) = true := decide_eq_true hlt
      have hi0 : (0 : Int) ≤ (i : Int) := by omega
      have hi1 : (i : Int) < (T.length : Int) := by omega
      have hi2 : (i : Int) < (O.length : Int) := by omega
      have HIJ := Aside0.mk hij
      clear hco hX hT hdr hlt hlt2 HX hij
      go_wp2_with (first
        | (go_at_call 17; (with_reducible refine (ts_put 120 HS HP.out).mono ?_); rintro r w2 ⟨rfl, hs⟩; have HS2 := Aside0.mk hs; clear hs HS hc0 hc1 hct)
        | (go_at_call 20; (with_reducible refine (ts_reason HS2 HP.out).mono ?_); rintro r w3 ⟨rfl, hs⟩; have HS3 := Aside0.mk hs; clear hs HS2)
        | (go_at_call 22; (with_reducible refine (ts_next HS3 HDR.out).mono ?_); rintro r w4 ⟨rfl, hs⟩; have HS4 := Aside0.mk hs; clear hs HS3; have hc0 := ts_c0 HS4; obtain ⟨ad2, hA2, hco⟩ := ts_o HS4 HLT.out.1 HLT.out.2; injection hA2 with hA2; subst hA2))
      go_roundg k1
      case measure => omega
      case rel => exact ⟨i + 1, j + 1, by rw [w64t HMX.out], by have := HIJ.out; omega, by omega, by omega, HS4⟩
    · obtain rfl : j = e.length := by omega
      have HDE := Aside0.mk (show e.drop e.length = [] by simp)
      by_cases hlt : i < O.length
      · have hb : decide ((i : Int) < (O.length : Int)) = true := decide_eq_true (by omega)
        have hbb : decide (i < O.length) = true := decide_eq_true hlt
        have hlt2 : i < T.length := by have := HF.out.2.2.2.1; omega
        obtain ⟨Y, hY⟩ : ∃ Y, T.getD i 0 = Y := ⟨_, rfl⟩
        obtain ⟨adT, hAT, hct⟩ := ts_t HS hlt2 hY
        subst hAT
        have hne : (Y == at_) = false := beq_eq_false_iff_ne.2 (by rw [← hY, hij]; exact HF.out.2.1 (by omega))
        have hi0 : (0 : Int) ≤ (i : Int) := by omega
        have hi1 : (i : Int) < (T.length : Int) := by omega
        have HIJ := Aside0.mk hij
        clear hlt2 hY hij
        go_wp2_with (go_at_call 22; (with_reducible refine (ts_next_no HS HDE.out).mono ?_); rintro r w4 ⟨rfl, hs⟩; have HS4 := Aside0.mk hs; clear hs HS)
        go_ret2
        exact ⟨by rw [← HIJ.out]; rfl, HS4.out.1.1, HS4.out.2⟩
      · have hb : decide ((i : Int) < (O.length : Int)) = false := decide_eq_false (by omega)
        have hbb : decide (i < O.length) = false := decide_eq_false hlt
        have HIJ := Aside0.mk hij
        clear hij
        go_wp2_with (go_at_call 22; (with_reducible refine (ts_next_no HS HDE.out).mono ?_); rintro r w4 ⟨rfl, hs⟩; have HS4 := Aside0.mk hs; clear hs HS)
        go_ret2
        exact ⟨by rw [← HIJ.out]; rfl, HS4.out.1.1, HS4.out.2⟩
end Go.Proofs.Ytemdlahghbbkoaa.PAll
