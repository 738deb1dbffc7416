/- drain: what is known goes behind a row of the caller's own. -/
import Derived.Test.YtemdlahghbbkoaaEnd
import Derived.Test.YtemdlahghbbkoaaOwn
namespace Go.Proofs.Ytemdlahghbbkoaa.PAll
open Go.RowKit Go.Proofs.YtemdlahghbbkoaaW.PrintWords Go.Proofs.YtemdlahghbbkoaaW.PrintLast Go.Proofs.YtemdlahghbbkoaaW.PrintMore
attribute [local go_sem] max2_int min2_int max_two min_two max_three min_three max_four min_four   -- for this text's walks alone
set_option linter.unusedVariables false
set_option linter.unusedSimpArgs false
/-- a decoder, and a row of one's own. -/
def DR (w W : World) (g : Nat) (st hi : Int) (en : Bool) (wh : Int) (q p : List Int) (k base : Nat) (v : Value) (o : List Int) : Prop :=
  DQ W g st hi en wh q p k ∧ W.ownsRow base 5 1 v o.length (encs (Value.int .u8) o) ∧ Below w.heap.size w W ∧ w.heap.size ≤ g ∧ w.heap.size ≤ base ∧ base ≤ W.heap.size
section
variable {w W W' : World} {g : Nat} {st hi : Int} {en : Bool} {wh : Int} {q p : List Int} {k base : Nat} {v : Value} {o : List Int}
theorem dk_own {st' hi' : Int} {en' : Bool} {wh' : Int} {q' p' : List Int} {k' : Nat} (h : DR w W g st hi en wh q p k base v o) (hd : DQ W' g st' hi' en' wh' q' p' k') (hk : DK W W' g) : DR w W' g st' hi' en' wh' q' p' k' base v o := by
  obtain ⟨bl, ou, hD, _⟩ := h.1
  refine ⟨hd, own_move h.2.1 (fun j hj => ?_), hk.2.1 w h.2.2.1 h.2.2.2.1, h.2.2.2.1, h.2.2.2.2.1, Nat.le_trans h.2.2.2.2.2 hk.1⟩
  obtain ⟨cells, hc⟩ := own_typed h.2.1 j hj
  have hne : j ≠ g := fun e => by
    subst e
    have h1 := own_ne h.2.1 hD.1 (by decide)
    rw [hj] at h1
    exact h1 rfl
  exact (hk.2.2 j _ hc hne).trans hc.symm
theorem lit_one (W : World) (x : Int) : ReadsOf (Value.int .u8) (0 : Int) (W.alloc (.cells #[.int .u8 x] 5)) (some ⟨W.heap.size, 0, none⟩) 1 [x] := by
  refine ⟨rfl, by omega, fun _ => ⟨_, rfl, fun j hj => ?_⟩⟩
  obtain rfl : j = 0 := by omega
  have hA : (⟨W.heap.size, 0, none⟩ : Addr).add 0 = ⟨W.heap.size, 0, none⟩ := Addr.add_mid W.heap.size 0 0
  rw [hA, blk_cell (heap_alloc_new W _)]
  rfl
theorem dr_app {x : Int} {v1 : Value} {w1 : World} (h : Aside0 (DR w W g st hi en wh q p k base v o)) (hown : w1.ownsRow base 5 1 v1 (o ++ [x]).length (encs (Value.int .u8) (o ++ [x]))) (hgrow : (W.alloc (.cells #[.int .u8 x] 5)).grownBy w1 v.ownBlock) : DR w w1 g st hi en wh q p k base v1 (o ++ [x]) := by
  have hb := below_alloc (Below.refl W.heap.size W) (.cells #[.int .u8 x] 5)
  have hO := Own.own_below h.out.2.1 hb
  obtain ⟨bl, ou, hD, hr⟩ := dq_below h.out.1 hb
  refine ⟨⟨bl, ou, ⟨Own.grown_blk hO hgrow hD.1 (by decide), hD.2⟩, hr⟩, hown, ?_, h.out.2.2.2.1, h.out.2.2.2.2.1, ?_⟩
  · exact (below_step h.out.2.2.1 hb).grown hgrow (Nat.le_trans (below_step h.out.2.2.1 hb).size (Nat.le_refl _)) (fun j hj => Nat.le_trans h.out.2.2.2.2.1 (own_base hO j hj))
  · have := hb.size
    have := hgrow.size
    have := h.out.2.2.2.2.2
    omega
def DrainP (w : World) (g : Nat) (st hi : Int) (en : Bool) (wh : Int) (q : List Int) (k base : Nat) (o : List Int) (e : Ending) (W' : World) : Prop := ∃ v', e = .returned v' ∧ DR w W' g st hi en wh q [] k base v' o
/-- the head of the loop: a byte has been taken, or none was there. -/
def DrainR (w W : World) (g : Nat) (st hi : Int) (en : Bool) (wh : Int) (q all : List Int) (K base : Nat) (v1 v5 v6 : Value) (n : Nat) : Prop :=
  (∃ (o r : List Int) (x : Int) (k : Nat), v5 = .int .u8 x ∧ v6 = .bool true ∧ DR w W g st hi en wh q r k base v1 o ∧ o ++ [x] ++ r = all ∧ k + r.length = K ∧ n = r.length + 2) ∨ (v5 = .int .u8 0 ∧ v6 = .bool false ∧ DR w W g st hi en wh q [] K base v1 all ∧ n = 1)
theorem dr_next (h : Aside0 (DR w W g st hi en wh q p k base v o)) :
    Calls Try.prog 22 #[.pointer (some ⟨g, 0, none⟩)] W fun e W' => ∃ v5 v6 n, e = .returned (.tuple #[v5, v6]) ∧ DrainR w W' g st hi en wh q (o ++ p) (k + p.length) base v v5 v6 n ∧ n ≤ p.length + 1 := by
  rcases p with _ | ⟨x, r⟩
  · exact (dq_next_no ⟨h.out.1⟩).mono fun e W' ⟨he, hd, hk⟩ => ⟨_, _, 1, he, .inr ⟨rfl, rfl, by rw [List.append_nil]; exact dk_own h.out hd hk, rfl⟩, by simp⟩
  · exact (dq_next ⟨h.out.1⟩).mono fun e W' ⟨he, hd, hk⟩ => ⟨_, _, r.length + 2, he, .inl ⟨o, r, x, k + 1, rfl, rfl, dk_own h.out hd hk, by simp, by simp; omega, rfl⟩, by simp⟩
set_option maxHeartbeats 8000000 in
set_option maxRecDepth 100000 in
theorem dr_drain (h : Aside0 (DR w W g st hi en wh q p k base v o)) (hl : (o ++ p).length ≤ 140737488355328) :
    Calls Try.prog 23 #[.pointer (some ⟨g, 0, none⟩), v] W fun e W' => DrainP w g st hi en wh q (k + p.length) base (o ++ p) e W' := by
  have HL := Aside0.mk hl
  obtain ⟨all, hall⟩ : ∃ all, o ++ p = all := ⟨_, rfl⟩
  obtain ⟨K, hK⟩ : ∃ K, k + p.length = K := ⟨_, rfl⟩
  have HNX := Aside0.mk (dr_next h)
  rw [hall, hK] at HNX
  rw [hall] at HL ⊢
  rw [hK]
  obtain ⟨M, HM⟩ : ∃ M, Aside0 (M = p.length + 1) := ⟨_, ⟨rfl⟩⟩
  rw [← HM.out] at HNX
  clear hl hall hK h
  go_enter Try.func23, Try.ntmps23
  go_wp2_with fail
  refine (HNX.out).mono ?_
  rintro e w1 ⟨v5, v6, n, rfl, hr, hn⟩
  have HR := Aside0.mk hr
  clear hr HNX
  dsimp only
  go_wp2
  go_loopg [1, 5, 6] (M + 1) (fun kq v1 v5 v6 w' => ∃ (u x5 x6 : Value) (n : Nat), u = v1 ∧ x5 = v5 ∧ x6 = v6 ∧ Aside0 (DrainR w w' g st hi en wh q all K base u x5 x6 n) ∧ n < kq)
  case atStart => exact ⟨_, _, _, n, rfl, rfl, rfl, HR, by omega⟩
  case round =>
    clear HR hn
    obtain ⟨u, x5, x6, m, rfl, rfl, rfl, HR, hm⟩ := hrel
    rcases HR.out with ⟨o2, r, x, k2, rfl, rfl, hd, ha, hK, rfl⟩ | ⟨rfl, rfl, hd, rfl⟩
    · have HD := Aside0.mk hd
      have HA := Aside0.mk ha
      have HKK := Aside0.mk hK
      have HLN := Aside0.mk (show (o2.length + [x].length) * 1 ≤ 140737488355328 by have := HL.out; rw [← ha] at this; simp at this ⊢; omega)
      have HO := Aside0.mk (Own.own_below hd.2.1 (below_alloc (Below.refl wr.heap.size wr) (.cells #[.int .u8 x] 5)))
      have HBS := Aside0.mk (show base ≤ (wr.alloc (.cells #[.int .u8 x] 5)).heap.size by have := hd.2.2.2.2.2; simp; omega)
      clear HR hd ha hK
      cases gk with
      | zero => exact absurd hm (by omega)
      | succ k1 =>
      go_wp2_with (at_builtin; refine Own.app_rows (W := wr.alloc (.cells #[.int .u8 x] 5)) (enc := Value.int .u8) (fun _ => rfl) 0 base rfl (.tmp 18) (.tmp 20) 22 5 (.int .u8 0) 1 rfl Try.underlying22 info5' rfl (by decide) u o2 [x] (some ⟨wr.heap.size, 0, none⟩) 1 1 rfl rfl rfl HO.out (lit_one wr x) HBS.out HLN.out ?_; intro v2 w2 hown hgrow hat; have HD2 := Aside0.mk (dr_app HD hown hgrow); clear hown hgrow hat HD HO HBS HLN)
      have HN2 := Aside0.mk (dr_next HD2)
      rw [HA.out, HKK.out] at HN2
      refine (HN2.out).mono ?_
      rintro e w3 ⟨y5, y6, n2, rfl, hr, hn⟩
      have HR := Aside0.mk hr
      clear hr HN2 HA HKK HD2
      dsimp only
      go_wp2
      go_roundg k1
      case measure => omega
      case rel => exact ⟨_, _, _, n2, rfl, rfl, rfl, HR, by omega⟩
    · have HD := Aside0.mk hd
      clear HR hd
      go_wp2
      go_ret
      exact ⟨_, rfl, HD.out⟩
end
end Go.Proofs.Ytemdlahghbbkoaa.PAll
