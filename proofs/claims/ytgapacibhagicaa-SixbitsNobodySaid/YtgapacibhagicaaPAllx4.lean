-- Laid by a program of this session (a turned printer)
import Derived.Test.YtgapacibhagicaaPAllx0
import Derived.Test.YtgapacibhagicaaPAllx3
namespace Go.Proofs.Ytgapacibhagicaa.PAll
open Go.RowKit Go.Proofs.YtgapacibhagicaaW.PrintWords Go.Proofs.YtgapacibhagicaaW.PrintLast Go.Proofs.YtgapacibhagicaaW.PrintMore
attribute [local go_sem] max2_int min2_int max_two min_two max_three min_three max_four min_four   -- for this text's walks alone
set_option linter.unusedVariables false
set_option linter.unusedSimpArgs false

/-! ### winkleref10_Of: function 11 -/
mutual
def winkleref10_Of.l0 : Nat → List Int → Int → Int → Int → Int → List Int → List Int → Int → Int → Option (List Int × List Int × Int × Int)
  | 0, _, _, _, _, _, _, _, _, _ => none
  | k + 1, x0, x4, x5, x6, x7, x165000, x165001, x165002, x165003 => if x7 < (x0.length : Int) then (if 0 ≤ x7 then ((winkleref10_Blank.f (rd x0 x7)).bind fun t166 => (if t166 = true then (winkleref10_Of.l0 k x0 x4 x5 x6 (wrap64 (x7 + 1)) x165000 x165001 x165002 x165003) else ((winkleref10_Value.f k (rd x0 x7)).bind fun t168 => (if x5 > 0 then (winkleref10_Of.j1 k x0 x4 x5 x6 x7 t168 (x4 == 0) x165000 x165001 x165002 x165003) else (winkleref10_Of.j1 k x0 x4 x5 x6 x7 t168 false x165000 x165001 x165002 x165003))))) else (none)) else (if x4 = 0 then (some (x165000, x165001, x165002, x165003)) else (some (x165000, x165001, 1, x165003)))
def winkleref10_Of.j1 : Nat → List Int → Int → Int → Int → Int → Int → Bool → List Int → List Int → Int → Int → Option (List Int × List Int × Int × Int)
  | 0, _, _, _, _, _, _, _, _, _, _, _ => none
  | k + 1, x0, x4, x5, x6, x7, x8, x56, x165000, x165001, x165002, x165003 => if x56 = true then (if 21 = 0 then (winkleref10_Of.l0 k x0 x4 x5 x6 (wrap64 (x7 + 1)) x165000 x165001 21 x165003) else (some (x165000, x165001, 21, x7))) else (if 0 ≤ x7 then (if x7 < (x0.length : Int) then (if (rd x0 x7) = 61 then (winkleref10_Of.j2 k x0 x4 x5 x6 x7 x8 (decide (x4 < 2)) x165000 x165001 x165002 x165003) else (winkleref10_Of.j2 k x0 x4 x5 x6 x7 x8 false x165000 x165001 x165002 x165003)) else (none)) else (none))
def winkleref10_Of.j2 : Nat → List Int → Int → Int → Int → Int → Int → Bool → List Int → List Int → Int → Int → Option (List Int × List Int × Int × Int)
  | 0, _, _, _, _, _, _, _, _, _, _, _ => none
  | k + 1, x0, x4, x5, x6, x7, x8, x64, x165000, x165001, x165002, x165003 => if x64 = true then (if 21 = 0 then (winkleref10_Of.l0 k x0 x4 x5 x6 (wrap64 (x7 + 1)) x165000 x165001 21 x165003) else (some (x165000, x165001, 21, x7))) else (if 0 ≤ x7 then (if x7 < (x0.length : Int) then (if (rd x0 x7) = 61 then (if x165002 = 0 then (winkleref10_Of.l0 k x0 (Int.tmod (wrap64 (x4 + 1)) 4) (wrap64 (x5 + 1)) x6 (wrap64 (x7 + 1)) x165000 x165001 x165002 x165003) else (some (x165000, x165001, x165002, x7))) else (if x5 > 0 then (if 21 = 0 then (winkleref10_Of.l0 k x0 x4 x5 x6 (wrap64 (x7 + 1)) x165000 x165001 21 x165003) else (some (x165000, x165001, 21, x7))) else (if x8 < 0 then (if 20 = 0 then (winkleref10_Of.l0 k x0 x4 x5 x6 (wrap64 (x7 + 1)) x165000 x165001 20 x165003) else (some (x165000, x165001, 20, x7))) else (if x4 > 0 then (if 0 ≤ (IntKind.u64.wrap (wrap64 (6 - (wrap64 (2 * x4))))) then (if x165000.length < 140737488355328 then ((some (x165000 ++ [(shr .i64 (wrap64 ((wrap64 ((Int.tmod x6 64) * 64)) + x8)) (IntKind.u64.wrap (wrap64 (6 - (wrap64 (2 * x4)))))) % 256] : List Int)).bind fun y171 => (if x165001.length < 17592186044416 then ((some (x165001 ++ [x7] : List Int)).bind fun y174 => (if x165002 = 0 then (winkleref10_Of.l0 k x0 (Int.tmod (wrap64 (x4 + 1)) 4) x5 (wrap64 ((wrap64 ((Int.tmod x6 64) * 64)) + x8)) (wrap64 (x7 + 1)) y171 y174 x165002 x165003) else (some (y171, y174, x165002, x7)))) else (none))) else (none)) else (none)) else (if x165002 = 0 then (winkleref10_Of.l0 k x0 (Int.tmod (wrap64 (x4 + 1)) 4) x5 (wrap64 ((wrap64 ((Int.tmod x6 64) * 64)) + x8)) (wrap64 (x7 + 1)) x165000 x165001 x165002 x165003) else (some (x165000, x165001, x165002, x7))))))) else (none)) else (none))
end
def winkleref10_Of.f (k : Nat) (l0 : List Int) : Option (List Int × List Int × Int × Int) := winkleref10_Of.l0 k l0 0 0 0 0 ([] : List Int) ([] : List Int) 0 (l0.length : Int)
theorem winkleref10_Of.mono_l : ∀ k, (∀ y0 y1 y2 y3 y4 y5 y6 y7 y8, LeO (winkleref10_Of.l0 k y0 y1 y2 y3 y4 y5 y6 y7 y8) (winkleref10_Of.l0 (k + 1) y0 y1 y2 y3 y4 y5 y6 y7 y8)) ∧ (∀ y0 y1 y2 y3 y4 y5 y6 y7 y8 y9 y10, LeO (winkleref10_Of.j1 k y0 y1 y2 y3 y4 y5 y6 y7 y8 y9 y10) (winkleref10_Of.j1 (k + 1) y0 y1 y2 y3 y4 y5 y6 y7 y8 y9 y10)) ∧ (∀ y0 y1 y2 y3 y4 y5 y6 y7 y8 y9 y10, LeO (winkleref10_Of.j2 k y0 y1 y2 y3 y4 y5 y6 y7 y8 y9 y10) (winkleref10_Of.j2 (k + 1) y0 y1 y2 y3 y4 y5 y6 y7 y8 y9 y10))
  | 0 => ⟨fun _ _ _ _ _ _ _ _ _ r h => by simp [winkleref10_Of.l0] at h, fun _ _ _ _ _ _ _ _ _ _ _ r h => by simp [winkleref10_Of.j1] at h, fun _ _ _ _ _ _ _ _ _ _ _ r h => by simp [winkleref10_Of.j2] at h⟩
  | k + 1 => by
    obtain ⟨ih0, ih1, ih2⟩ := winkleref10_Of.mono_l k
    refine ⟨?_, ?_, ?_⟩
    · intro y0 y1 y2 y3 y4 y5 y6 y7 y8
      unfold winkleref10_Of.l0
      repeat' first
      | (with_reducible exact ih0 _ _ _ _ _ _ _ _ _)
      | (with_reducible exact ih1 _ _ _ _ _ _ _ _ _ _ _)
      | (with_reducible exact ih2 _ _ _ _ _ _ _ _ _ _ _)
      | (with_reducible exact winkleref10_Value.mono _ _)
      | (with_reducible exact LeO.refl _)
      | (with_reducible exact LeO.none _)
      | (with_reducible refine LeO.ite ?_ ?_)
      | (with_reducible refine LeO.bind ?_ (fun _ => ?_))
      | exact ih0 _ _ _ _ _ _ _ _ _
      | exact ih1 _ _ _ _ _ _ _ _ _ _ _
      | exact ih2 _ _ _ _ _ _ _ _ _ _ _
      | exact winkleref10_Value.mono _ _
      | exact LeO.none _
      | refine LeO.ite ?_ ?_
      | refine LeO.bind ?_ (fun _ => ?_)
    · intro y0 y1 y2 y3 y4 y5 y6 y7 y8 y9 y10
      unfold winkleref10_Of.j1
      repeat' first
      | (with_reducible exact ih0 _ _ _ _ _ _ _ _ _)
      | (with_reducible exact ih1 _ _ _ _ _ _ _ _ _ _ _)
      | (with_reducible exact ih2 _ _ _ _ _ _ _ _ _ _ _)
      | (with_reducible exact winkleref10_Value.mono _ _)
      | (with_reducible exact LeO.refl _)
      | (with_reducible exact LeO.none _)
      | (with_reducible refine LeO.ite ?_ ?_)
      | (with_reducible refine LeO.bind ?_ (fun _ => ?_))
      | exact ih0 _ _ _ _ _ _ _ _ _
      | exact ih1 _ _ _ _ _ _ _ _ _ _ _
      | exact ih2 _ _ _ _ _ _ _ _ _ _ _
      | exact winkleref10_Value.mono _ _
      | exact LeO.none _
      | refine LeO.ite ?_ ?_
      | refine LeO.bind ?_ (fun _ => ?_)
    · intro y0 y1 y2 y3 y4 y5 y6 y7 y8 y9 y10
      unfold winkleref10_Of.j2
      repeat' first
      | (with_reducible exact ih0 _ _ _ _ _ _ _ _ _)
      | (with_reducible exact ih1 _ _ _ _ _ _ _ _ _ _ _)
      | (with_reducible exact ih2 _ _ _ _ _ _ _ _ _ _ _)
      | (with_reducible exact winkleref10_Value.mono _ _)
      | (with_reducible exact LeO.refl _)
      | (with_reducible exact LeO.none _)
      | (with_reducible refine LeO.ite ?_ ?_)
      | (with_reducible refine LeO.bind ?_ (fun _ => ?_))
      | exact ih0 _ _ _ _ _ _ _ _ _
      | exact ih1 _ _ _ _ _ _ _ _ _ _ _
      | exact ih2 _ _ _ _ _ _ _ _ _ _ _
      | exact winkleref10_Value.mono _ _
      | exact LeO.none _
      | refine LeO.ite ?_ ?_
      | refine LeO.bind ?_ (fun _ => ?_)
theorem winkleref10_Of.mono : ∀ a0 k, LeO (winkleref10_Of.f k a0) (winkleref10_Of.f (k + 1) a0) := by
  intro a0 k
  obtain ⟨ih0, ih1, ih2⟩ := winkleref10_Of.mono_l k
  unfold winkleref10_Of.f
  repeat' first
      | (with_reducible exact ih0 _ _ _ _ _ _ _ _ _)
      | (with_reducible exact ih1 _ _ _ _ _ _ _ _ _ _ _)
      | (with_reducible exact ih2 _ _ _ _ _ _ _ _ _ _ _)
      | (with_reducible exact winkleref10_Value.mono _ _)
      | (with_reducible exact LeO.refl _)
      | (with_reducible exact LeO.none _)
      | (with_reducible refine LeO.ite ?_ ?_)
      | (with_reducible refine LeO.bind ?_ (fun _ => ?_))
      | exact ih0 _ _ _ _ _ _ _ _ _
      | exact ih1 _ _ _ _ _ _ _ _ _ _ _
      | exact ih2 _ _ _ _ _ _ _ _ _ _ _
      | exact winkleref10_Value.mono _ _
      | exact LeO.none _
      | refine LeO.ite ?_ ?_
      | refine LeO.bind ?_ (fun _ => ?_)
set_option maxHeartbeats 8000000 in
set_option maxRecDepth 100000 in
theorem winkleref10_Of.calls (k : Nat) (A0 : Option Addr) (c0 : Nat) (l0 : List Int) (r1 : List Int) (r2 : List Int) (r3 : Int) (r4 : Int) (w : World) (hr0 : Kd.C (Kd.int .u8) w A0 l0.length l0) (hc0 : l0.length ≤ c0) (h : winkleref10_Of.f k l0 = some (r1, r2, r3, r4)) :
    Calls Try.prog 11 #[.slice A0 l0.length c0] w fun e w' => ∃ v0_ v1_ : Value, e = .returned (.agg #[v0_, v1_, .int .i64 r3, .int .i64 r4]) ∧ Kd.R (Kd.int .u8) 5 w' w.heap.size (fun _ => True) v0_ r1 ∧ Kd.R (Kd.int .i64) 3 w' w.heap.size (fun _ => True) v1_ r2 ∧ Below w.heap.size w w' := by
  have hu28 := Try.underlying28
  have HR0 := Aside0.mk hr0
  have HC0 := Aside0.mk hc0
  clear hr0 hc0
  have HB := Aside0.mk (Below.refl w.heap.size w)
  have H : (winkleref10_Of.l0 k l0 0 0 0 0 ([] : List Int) ([] : List Int) 0 (l0.length : Int)) = some (r1, r2, r3, r4) := h
  clear h
  have H' := Aside0.mk H
  clear H
  go_enter Try.func11, Try.ntmps11
  go_wp2_with (first | ((with_reducible refine gate_dst (N := 2) rfl ?_); refine box_event ?hg (N := 2) ?hd (cs := #[.slice none 0 0, .slice none 0 0, .int .i64 0, .int .i64 0]) (t := 28) ?hr ?_; (case hd => rfl); (case hg => rfl); (case hr => first | (go_simp; done) | (go_simp; rfl)); intro gb163 hg w2 hbox hb; have n0_ := Aside0.mk (below_step (by repeat (first | (with_reducible first | exact HB.out | apply below_alloc | apply pw_below_drewN | apply below_drew1) | exact HB.out)) hb); have n1_ := Aside0.mk (hbox); have n2_ := Aside0.mk ((by rw [hg]; exact (below_size (by repeat (first | (with_reducible first | exact HB.out | apply below_alloc | apply pw_below_drewN | apply below_drew1) | exact HB.out))) : w.heap.size ≤ gb163)); have n3_ := Aside0.mk ((by rw [hg]; exact (below_size (by repeat (first | (with_reducible first | exact HB.out | apply below_alloc | apply pw_below_drewN | apply below_drew1) | exact HB.out))) : w.heap.size ≤ gb163)); clear HB; have HB := n0_; have BK163 := n1_; have GW163 := n2_; have GE163 := n3_; clear n0_ n1_ n2_ n3_; clear hb hbox hg) | ((with_reducible refine gate_dst (N := 3) rfl ?_); refine box_event ?hg (N := 3) ?hd (cs := #[.slice none 0 0, .slice none 0 0, .int .i64 0, .int .i64 0]) (t := 28) ?hr ?_; (case hd => rfl); (case hg => rfl); (case hr => first | (go_simp; done) | (go_simp; rfl)); intro gb164 hg w3 hbox hb; have n0_ := Aside0.mk (blk_below (g := gb163) (o := .cells #[.slice none 0 0, .slice none 0 0, .int .i64 0, .int .i64 0] 28 (0, 0)) (by (with_reducible repeat (first | refine blk_drewN ?_ _ | refine blk_drew ?_ | refine blk_alloc ?_ _)); exact BK163.out) hb); have n1_ := Aside0.mk (below_step (by repeat (first | (with_reducible first | exact HB.out | apply below_alloc | apply pw_below_drewN | apply below_drew1 | refine below_set ?_ GE163.out) | exact HB.out)) hb); have n2_ := Aside0.mk (hbox); have n3_ := Aside0.mk ((by rw [hg]; exact (below_size (by repeat (first | (with_reducible first | exact HB.out | apply below_alloc | apply pw_below_drewN | apply below_drew1 | refine below_set ?_ GE163.out) | exact HB.out))) : w.heap.size ≤ gb164)); have n4_ := Aside0.mk ((by rw [hg]; exact (below_size (by repeat (first | (with_reducible first | exact HB.out | apply below_alloc | apply pw_below_drewN | apply below_drew1 | refine below_set ?_ GE163.out) | exact HB.out))) : w.heap.size ≤ gb164)); have n5_ := Aside0.mk ((by rw [hg]; exact Nat.ne_of_lt (blk_lt (g := gb163) (o := .cells #[.slice none 0 0, .slice none 0 0, .int .i64 0, .int .i64 0] 28 (0, 0)) (by (with_reducible repeat (first | refine blk_drewN ?_ _ | refine blk_drew ?_ | refine blk_alloc ?_ _)); exact BK163.out)) : gb163 ≠ gb164)); have n6_ := Aside0.mk ((by rw [hg]; exact Nat.ne_of_gt (blk_lt (g := gb163) (o := .cells #[.slice none 0 0, .slice none 0 0, .int .i64 0, .int .i64 0] 28 (0, 0)) (by (with_reducible repeat (first | refine blk_drewN ?_ _ | refine blk_drew ?_ | refine blk_alloc ?_ _)); exact BK163.out)) : gb164 ≠ gb163)); clear BK163; clear HB; have BK163 := n0_; have HB := n1_; have BK164 := n2_; have GW164 := n3_; have GE164 := n4_; have NB163_164 := n5_; have NB164_163 := n6_; clear n0_ n1_ n2_ n3_ n4_ n5_ n6_; clear hb hbox hg; have hnb4 := NB164_163.out; have hnc4 := NB163_164.out; have hcz5_0 : w3.cell? ⟨gb164, 0, none⟩ = some (.slice none 0 0) := (blk_cell BK164.out 0).trans rfl; have hcz5_1 : w3.cell? ⟨gb164, 1, none⟩ = some (.slice none 0 0) := (blk_cell BK164.out 1).trans rfl; have hcz5_2 : w3.cell? ⟨gb164, 2, none⟩ = some (.int .i64 0) := (blk_cell BK164.out 2).trans rfl; have hcz5_3 : w3.cell? ⟨gb164, 3, none⟩ = some (.int .i64 0) := (blk_cell BK164.out 3).trans rfl; have hfz5_0 := blk_frozen BK164.out 0; have hfz5_1 := blk_frozen BK164.out 1; have hfz5_2 := blk_frozen BK164.out 2; have hfz5_3 := blk_frozen BK164.out 3))
  go_loopg [4, 5, 6, 7] k (fun kq v4 v5 v6 v7 w' => ∃ (x4_1 : Int) (x5_1 : Int) (x6_1 : Int) (x7_1 : Int) (x164002_1 : Int) (x164003_1 : Int) (x165000_1 : List Int) (x165001_1 : List Int) (x165002_1 : Int) (x165003_1 : Int) (u165000 : Value) (u165001 : Value), v4 = .int .i64 x4_1 ∧ v5 = .int .i64 x5_1 ∧ v6 = .int .i64 x6_1 ∧ v7 = .int .i64 x7_1 ∧ Aside0 (winkleref10_Of.l0 kq l0 x4_1 x5_1 x6_1 x7_1 x165000_1 x165001_1 x165002_1 x165003_1 = some (r1, r2, r3, r4)) ∧ Aside0 (kq ≤ k) ∧ Aside0 (Kd.R (Kd.int .u8) 5 w' w.heap.size (fun _ => True) u165000 x165000_1) ∧ Aside0 (Kd.R (Kd.int .i64) 3 w' w.heap.size (fun _ => True) u165001 x165001_1) ∧ Aside0 (w'.heap[gb163]? = some (.cells #[(.slice none 0 0), (.slice none 0 0), .int .i64 x164002_1, .int .i64 x164003_1] 28 (0, 0))) ∧ Aside0 (w'.heap[gb164]? = some (.cells #[u165000, u165001, .int .i64 x165002_1, .int .i64 x165003_1] 28 (0, 0))) ∧ Aside0 (Below w.heap.size w w'))
  case atStart => exact ⟨(0), (0), (0), (0), (0), (0), (([] : List Int)), (([] : List Int)), (0), ((l0.length : Int)), (.slice none 0 0), (.slice none 0 0), (by first | rfl | (simp; done) | (simp [*]; done)), (by first | rfl | (simp; done) | (simp [*]; done)), (by first | rfl | (simp; done) | (simp [*]; done)), (by first | rfl | (simp; done) | (simp [*]; done)), H', ⟨Nat.le_refl _⟩, ⟨by first | exact Kd.R_nil _ _ _ _ _ | exact Kd.N_nil _ _ _ _ _ | exact Kd.V_nil _ _ _ _ _ | exact Kd.Q_nil _ _ _ _ _ | exact Kd.S_nil _ _ _ _ _⟩, ⟨by first | exact Kd.R_nil _ _ _ _ _ | exact Kd.N_nil _ _ _ _ _ | exact Kd.V_nil _ _ _ _ _ | exact Kd.Q_nil _ _ _ _ _ | exact Kd.S_nil _ _ _ _ _⟩, ⟨by (with_reducible repeat (first | refine blk_drewN ?_ _ | refine blk_drew ?_ | refine blk_alloc ?_ _)); refine blk_far ?_ NB163_164.out _; (with_reducible repeat (first | refine blk_drewN ?_ _ | refine blk_drew ?_ | refine blk_alloc ?_ _)); exact BK163.out⟩, ⟨by (with_reducible repeat (first | refine blk_drewN ?_ _ | refine blk_drew ?_ | refine blk_alloc ?_ _)); refine blk_put (cs := #[.slice none 0 0, .slice none 0 0, .int .i64 0, .int .i64 0]) ?_ 3 _ rfl; (with_reducible repeat (first | refine blk_drewN ?_ _ | refine blk_drew ?_ | refine blk_alloc ?_ _)); exact BK164.out⟩, ⟨by repeat (first | (with_reducible first | exact HB.out | apply below_alloc | apply pw_below_drewN | apply below_drew1 | refine below_set ?_ GE163.out | refine below_set ?_ GE164.out) | exact HB.out)⟩⟩
  case round =>
    clear H'
    try clear c1
    try clear p2
    try clear c4
    try clear hcz5_0
    try clear hcz5_1
    try clear hcz5_2
    try clear hcz5_3
    try clear hfz5_0
    try clear hfz5_1
    try clear hfz5_2
    try clear hfz5_3
    obtain ⟨x4_1, x5_1, x6_1, x7_1, x164002_1, x164003_1, x165000_1, x165001_1, x165002_1, x165003_1, u165000, u165001, rfl, rfl, rfl, rfl, HA, HK1, HO_165000, HO_165001, BK163, BK164, HB⟩ := hrel
    cases gk with
    | zero => exact absurd HA.out (by simp [winkleref10_Of.l0])
    | succ k1 =>
      have H := HA.out
      clear HA
      simp only [winkleref10_Of.l0] at H
      by_cases c6 : x7_1 < (l0.length : Int)
      · rw [if_pos c6] at H
        have c6b0 : decide (x7_1 < (l0.length : Int)) = true := decide_eq_true c6
        clear c6
        by_cases c7 : 0 ≤ x7_1
        · rw [if_pos c7] at H
          have c7b0 : decide (0 ≤ x7_1) = true := decide_eq_true c7
          clear c7
          replace H := Option.bind_eq_some_iff.mp H
          obtain ⟨t166, A80, H⟩ := H
          replace H : (if t166 = true then (winkleref10_Of.l0 k1 l0 x4_1 x5_1 x6_1 (wrap64 (x7_1 + 1)) x165000_1 x165001_1 x165002_1 x165003_1) else ((winkleref10_Value.f k1 (rd l0 x7_1)).bind fun t168 => (if x5_1 > 0 then (winkleref10_Of.j1 k1 l0 x4_1 x5_1 x6_1 x7_1 t168 (x4_1 == 0) x165000_1 x165001_1 x165002_1 x165003_1) else (winkleref10_Of.j1 k1 l0 x4_1 x5_1 x6_1 x7_1 t168 false x165000_1 x165001_1 x165002_1 x165003_1)))) = some (r1, r2, r3, r4) := H
          have A8 := Aside0.mk A80
          clear A80
          by_cases c9 : t166 = true
          · subst c9
            have H1 : (winkleref10_Of.l0 k1 l0 x4_1 x5_1 x6_1 (wrap64 (x7_1 + 1)) x165000_1 x165001_1 x165002_1 x165003_1) = some (r1, r2, r3, r4) := by rw [if_pos rfl] at H; exact H
            clear H
            have H := H1
            clear H1
            have H' := Aside0.mk H
            clear H
            have p165 : 0 ≤ (x7_1 : Int) := of_decide_eq_true (by first | (with_reducible assumption) | assumption)
            have q165 : x7_1 < (l0.length : Int) := of_decide_eq_true (by first | (with_reducible assumption) | assumption)
            obtain ⟨ad165, e165, hx165_0⟩ := Kd.at_int HR0.out x7_1 p165 q165
            cases e165
            replace hx165_0 := (HB.out.cell (World.block_lt_of_cell? w _ hx165_0)).trans hx165_0
            replace p165 := eq_true p165
            replace q165 := eq_true q165
            go_wp2_with (first | ((with_reducible refine gate_callee (f := 20) rfl ?_); refine goesL_ (some 22) rfl rfl Try.func20 (by kernel_rfl) rfl #[.int .u8 (rd l0 x7_1)] rfl (by (try simp only [List.map_toArray, List.map_cons, List.map_nil]); first | done | rfl | (simp only [List.length_drop, List.length_take]; rfl)) ?_; (with_reducible refine (winkleref10_Blank.calls (rd l0 x7_1) true _ A8.out).mono ?_); rintro e w' ⟨rfl, ⟨nd, rfl⟩⟩; refine ⟨_, rfl, ?_⟩))
            go_roundg k1
            case measure => have := HK1.out; omega
            case rel => exact ⟨(x4_1), (x5_1), (x6_1), (wrap64 (x7_1 + 1)), (x164002_1), (x164003_1), (x165000_1), (x165001_1), (x165002_1), (x165003_1), (u165000), (u165001), (by first | rfl | (simp; done) | (simp [*]; done)), (by first | rfl | (simp; done) | (simp [*]; done)), (by first | rfl | (simp; done) | (simp [*]; done)), (by first | rfl | (simp; done) | (simp [*]; done)), H', ⟨by have := HK1.out; omega⟩, ⟨by (with_reducible repeat (first | apply Kd.R_alloc | apply Kd.R_drewN | apply Kd.R_drew)); exact HO_165000.out⟩, ⟨by (with_reducible repeat (first | apply Kd.R_alloc | apply Kd.R_drewN | apply Kd.R_drew)); exact HO_165001.out⟩, ⟨by (with_reducible repeat (first | refine blk_drewN ?_ _ | refine blk_drew ?_ | refine blk_alloc ?_ _)); exact BK163.out⟩, ⟨by (with_reducible repeat (first | refine blk_drewN ?_ _ | refine blk_drew ?_ | refine blk_alloc ?_ _)); exact BK164.out⟩, ⟨by repeat (first | (with_reducible first | exact HB.out | apply below_alloc | apply pw_below_drewN | apply below_drew1 | refine below_set ?_ GE163.out | refine below_set ?_ GE164.out) | exact HB.out)⟩⟩
          · replace c9 := Bool.eq_false_iff.mpr c9
            subst c9
            have H1 : ((winkleref10_Value.f k1 (rd l0 x7_1)).bind fun t168 => (if x5_1 > 0 then (winkleref10_Of.j1 k1 l0 x4_1 x5_1 x6_1 x7_1 t168 (x4_1 == 0) x165000_1 x165001_1 x165002_1 x165003_1) else (winkleref10_Of.j1 k1 l0 x4_1 x5_1 x6_1 x7_1 t168 false x165000_1 x165001_1 x165002_1 x165003_1))) = some (r1, r2, r3, r4) := by rw [if_neg (show ¬ (false = true) by decide)] at H; exact H
            clear H
            have H := H1
            clear H1
            replace H := Option.bind_eq_some_iff.mp H
            obtain ⟨t168, A100, H⟩ := H
            replace H : (if x5_1 > 0 then (winkleref10_Of.j1 k1 l0 x4_1 x5_1 x6_1 x7_1 t168 (x4_1 == 0) x165000_1 x165001_1 x165002_1 x165003_1) else (winkleref10_Of.j1 k1 l0 x4_1 x5_1 x6_1 x7_1 t168 false x165000_1 x165001_1 x165002_1 x165003_1)) = some (r1, r2, r3, r4) := H
            have A10 := Aside0.mk A100
            clear A100
            have HC11 := Aside0.mk H
            clear H
            have p165 : 0 ≤ (x7_1 : Int) := of_decide_eq_true (by first | (with_reducible assumption) | assumption)
            have q165 : x7_1 < (l0.length : Int) := of_decide_eq_true (by first | (with_reducible assumption) | assumption)
            obtain ⟨ad165, e165, hx165_0⟩ := Kd.at_int HR0.out x7_1 p165 q165
            cases e165
            replace hx165_0 := (HB.out.cell (World.block_lt_of_cell? w _ hx165_0)).trans hx165_0
            replace p165 := eq_true p165
            replace q165 := eq_true q165
            go_upto_region 14 with (first | ((with_reducible refine gate_callee (f := 20) rfl ?_); refine goesL_ (some 22) rfl rfl Try.func20 (by kernel_rfl) rfl #[.int .u8 (rd l0 x7_1)] rfl (by (try simp only [List.map_toArray, List.map_cons, List.map_nil]); first | done | rfl | (simp only [List.length_drop, List.length_take]; rfl)) ?_; (with_reducible refine (winkleref10_Blank.calls (rd l0 x7_1) false _ A8.out).mono ?_); rintro e w' ⟨rfl, ⟨nd, rfl⟩⟩; refine ⟨_, rfl, ?_⟩; have p167 : 0 ≤ (x7_1 : Int) := of_decide_eq_true (by first | (with_reducible assumption) | assumption); have q167 : x7_1 < (l0.length : Int) := of_decide_eq_true (by first | (with_reducible assumption) | assumption); obtain ⟨ad167, e167, hx167_0⟩ := Kd.at_int HR0.out x7_1 p167 q167; obtain rfl : ad165 = ad167 := (by injection e167); replace hx167_0 := (HB.out.cell (World.block_lt_of_cell? w _ hx167_0)).trans hx167_0; replace p167 := eq_true p167; replace q167 := eq_true q167) | ((with_reducible refine gate_callee (f := 21) rfl ?_); refine goesL_ (some 27) rfl rfl Try.func21 (by kernel_rfl) rfl #[.int .u8 (rd l0 x7_1)] rfl (by (try simp only [List.map_toArray, List.map_cons, List.map_nil]); first | done | rfl | (simp only [List.length_drop, List.length_take]; rfl)) ?_; (with_reducible refine (winkleref10_Value.calls k1 (rd l0 x7_1) t168 _ A10.out).mono ?_); rintro e w' ⟨rfl, ⟨nd, rfl⟩⟩; refine ⟨_, rfl, ?_⟩))
            (try simp only [Act.put, List.setIfInBounds_toArray, List.set_cons_zero, List.set_cons_succ])
            go_cut [56] (fun v56 wc => ∃ (kq : Nat) (x56_10 : Bool), v56 = .bool x56_10 ∧ Aside0 (winkleref10_Of.j1 kq l0 x4_1 x5_1 x6_1 x7_1 t168 x56_10 x165000_1 x165001_1 x165002_1 x165003_1 = some (r1, r2, r3, r4)) ∧ Aside0 (kq ≤ k1) ∧ Aside0 (Kd.R (Kd.int .u8) 5 wc w.heap.size (fun _ => True) u165000 x165000_1) ∧ Aside0 (Kd.R (Kd.int .i64) 3 wc w.heap.size (fun _ => True) u165001 x165001_1) ∧ Aside0 (wc.heap[gb163]? = some (.cells #[(.slice none 0 0), (.slice none 0 0), .int .i64 x164002_1, .int .i64 x164003_1] 28 (0, 0))) ∧ Aside0 (wc.heap[gb164]? = some (.cells #[u165000, u165001, .int .i64 x165002_1, .int .i64 x165003_1] 28 (0, 0))) ∧ Aside0 (Below w.heap.size w wc))
            case first =>
              have H := HC11.out
              clear HC11
              by_cases c12 : x5_1 > 0
              · rw [if_pos c12] at H
                have c12b0 : decide (0 < x5_1) = true := decide_eq_true c12
                clear c12
                (first | rw [c12b0] | (simp only [i64_w, i32_w]; rw [c12b0]) | skip)
                have H' := Aside0.mk H
                clear H
                go_wp2
                go_meet
                case rel => exact ⟨_, ((x4_1 == 0)), (by first | rfl | (simp; done) | (simp [*]; done)), H', ⟨by have := HK1.out; first | omega | exact Nat.le_refl _⟩, ⟨by (with_reducible repeat (first | apply Kd.R_alloc | apply Kd.R_drewN | apply Kd.R_drew)); exact HO_165000.out⟩, ⟨by (with_reducible repeat (first | apply Kd.R_alloc | apply Kd.R_drewN | apply Kd.R_drew)); exact HO_165001.out⟩, ⟨by (with_reducible repeat (first | refine blk_drewN ?_ _ | refine blk_drew ?_ | refine blk_alloc ?_ _)); exact BK163.out⟩, ⟨by (with_reducible repeat (first | refine blk_drewN ?_ _ | refine blk_drew ?_ | refine blk_alloc ?_ _)); exact BK164.out⟩, ⟨by repeat (first | (with_reducible first | exact HB.out | apply below_alloc | apply pw_below_drewN | apply below_drew1 | refine below_set ?_ GE163.out | refine below_set ?_ GE164.out) | exact HB.out)⟩⟩
              · rw [if_neg c12] at H
                have c12b0 : decide (0 < x5_1) = false := decide_eq_false c12
                clear c12
                (first | rw [c12b0] | (simp only [i64_w, i32_w]; rw [c12b0]) | skip)
                have H' := Aside0.mk H
                clear H
                go_wp2
                go_meet
                case rel => exact ⟨_, (false), (by first | rfl | (simp; done) | (simp [*]; done)), H', ⟨by have := HK1.out; first | omega | exact Nat.le_refl _⟩, ⟨by (with_reducible repeat (first | apply Kd.R_alloc | apply Kd.R_drewN | apply Kd.R_drew)); exact HO_165000.out⟩, ⟨by (with_reducible repeat (first | apply Kd.R_alloc | apply Kd.R_drewN | apply Kd.R_drew)); exact HO_165001.out⟩, ⟨by (with_reducible repeat (first | refine blk_drewN ?_ _ | refine blk_drew ?_ | refine blk_alloc ?_ _)); exact BK163.out⟩, ⟨by (with_reducible repeat (first | refine blk_drewN ?_ _ | refine blk_drew ?_ | refine blk_alloc ?_ _)); exact BK164.out⟩, ⟨by repeat (first | (with_reducible first | exact HB.out | apply below_alloc | apply pw_below_drewN | apply below_drew1 | refine below_set ?_ GE163.out | refine below_set ?_ GE164.out) | exact HB.out)⟩⟩
            case rest =>
              clear HC11
              try clear c1
              try clear p1
              try clear q1
              try clear hx1
              try clear c2
              try clear p2
              try clear c4
              try clear c6
              try clear c6b0
              try clear p6
              try clear c7
              try clear c7b0
              try clear c9
              try clear c11
              try clear c12
              try clear c12b0
              try clear hcz5_0
              try clear hcz5_1
              try clear hcz5_2
              try clear hcz5_3
              try clear hfz5_0
              try clear hfz5_1
              try clear hfz5_2
              try clear hfz5_3
              try clear hx165_0
              try clear hx167_0
              try clear p165
              try clear p167
              try clear p2
              try clear q165
              try clear q167
              obtain ⟨kq, x56_10, rfl, HA, HJ10, HO_165000, HO_165001, BK163, BK164, HB⟩ := hcut
              cases kq with
              | zero => exact absurd HA.out (by simp [winkleref10_Of.j1])
              | succ kj10 =>
                have H := HA.out
                clear HA
                simp only [winkleref10_Of.j1] at H
                by_cases c13 : x56_10 = true
                · subst c13
                  have H1 : (if 21 = 0 then (winkleref10_Of.l0 kj10 l0 x4_1 x5_1 x6_1 (wrap64 (x7_1 + 1)) x165000_1 x165001_1 21 x165003_1) else (some (x165000_1, x165001_1, 21, x7_1))) = some (r1, r2, r3, r4) := by rw [if_pos rfl] at H; exact H
                  clear H
                  have H := H1
                  clear H1
                  by_cases c14 : 21 = 0
                  · exact absurd c14 (by decide)
                  · rw [if_neg c14] at H
                    have c14b0 : (21 == 0) = false := beq_eq_false_iff_ne.mpr c14
                    have c14b1 : (21 != 0) = true := bne_iff_ne.mpr c14
                    simp only [Option.some.injEq, Prod.mk.injEq] at H
                    obtain ⟨rfl, rfl, rfl, rfl⟩ := H
                    have hnb17 := NB164_163.out
                    have hnc17 := NB163_164.out
                    have hcz18_0 : wc.cell? ⟨gb164, 0, none⟩ = some (u165000) := (blk_cell BK164.out 0).trans rfl
                    have hcz18_1 : wc.cell? ⟨gb164, 1, none⟩ = some (u165001) := (blk_cell BK164.out 1).trans rfl
                    have hcz18_2 : wc.cell? ⟨gb164, 2, none⟩ = some (.int .i64 x165002_1) := (blk_cell BK164.out 2).trans rfl
                    have hcz18_3 : wc.cell? ⟨gb164, 3, none⟩ = some (.int .i64 x165003_1) := (blk_cell BK164.out 3).trans rfl
                    have hfz18_0 := blk_frozen BK164.out 0
                    have hfz18_1 := blk_frozen BK164.out 1
                    have hfz18_2 := blk_frozen BK164.out 2
                    have hfz18_3 := blk_frozen BK164.out 3
                    obtain ⟨Ao19, co19, eo19⟩ := Kd.R_slice HO_165000.out
                    subst eo19
                    have hcz20_0 : wc.cell? ⟨gb163, 0, none⟩ = some (.slice none 0 0) := (blk_cell BK163.out 0).trans rfl
                    have hcz20_1 : wc.cell? ⟨gb163, 1, none⟩ = some (.slice none 0 0) := (blk_cell BK163.out 1).trans rfl
                    have hcz20_2 : wc.cell? ⟨gb163, 2, none⟩ = some (.int .i64 x164002_1) := (blk_cell BK163.out 2).trans rfl
                    have hcz20_3 : wc.cell? ⟨gb163, 3, none⟩ = some (.int .i64 x164003_1) := (blk_cell BK163.out 3).trans rfl
                    have hfz20_0 := blk_frozen BK163.out 0
                    have hfz20_1 := blk_frozen BK163.out 1
                    have hfz20_2 := blk_frozen BK163.out 2
                    have hfz20_3 := blk_frozen BK163.out 3
                    obtain ⟨Ao21, co21, eo21⟩ := Kd.R_slice HO_165001.out
                    subst eo21
                    go_wp2
                    refine bodyPost_ret (results_cell_row rfl _ _ gb163 28 #[.slice Ao19 x165000_1.length co19, .slice Ao21 x165001_1.length co21, .int .i64 21, .int .i64 x7_1] (0, 0) _ rfl (by (with_reducible repeat (first | refine blk_drewN ?_ _ | refine blk_drew ?_ | refine blk_alloc ?_ _)); refine blk_put (cs := #[.slice Ao19 x165000_1.length co19, .slice Ao21 x165001_1.length co21, .int .i64 21, .int .i64 x164003_1]) ?_ 3 _ rfl; (with_reducible repeat (first | refine blk_drewN ?_ _ | refine blk_drew ?_ | refine blk_alloc ?_ _)); refine blk_put (cs := #[.slice Ao19 x165000_1.length co19, .slice Ao21 x165001_1.length co21, .int .i64 x164002_1, .int .i64 x164003_1]) ?_ 2 _ rfl; (with_reducible repeat (first | refine blk_drewN ?_ _ | refine blk_drew ?_ | refine blk_alloc ?_ _)); refine blk_put (cs := #[.slice Ao19 x165000_1.length co19, .slice none 0 0, .int .i64 x164002_1, .int .i64 x164003_1]) ?_ 1 _ rfl; (with_reducible repeat (first | refine blk_drewN ?_ _ | refine blk_drew ?_ | refine blk_alloc ?_ _)); refine blk_put (cs := #[.slice none 0 0, .slice none 0 0, .int .i64 x164002_1, .int .i64 x164003_1]) ?_ 0 _ rfl; (with_reducible repeat (first | refine blk_drewN ?_ _ | refine blk_drew ?_ | refine blk_alloc ?_ _)); refine blk_far ?_ NB163_164.out _; (with_reducible repeat (first | refine blk_drewN ?_ _ | refine blk_drew ?_ | refine blk_alloc ?_ _)); refine blk_far ?_ NB163_164.out _; (with_reducible repeat (first | refine blk_drewN ?_ _ | refine blk_drew ?_ | refine blk_alloc ?_ _)); exact BK163.out) Try.underlying28 rfl (by kernel_rfl)) rfl ?_
                    exact ⟨_, _, by first | rfl | (simp [errW_none, errW_some] <;> rfl) | (simp [*, errW_none, errW_some] <;> rfl), by (with_reducible repeat (first | apply Kd.R_alloc | apply Kd.R_drewN | apply Kd.R_drew)); exact Kd.R_mono (Kd.R_far (p := ⟨gb163, 3, none⟩) (Kd.R_far (p := ⟨gb163, 2, none⟩) (Kd.R_far (p := ⟨gb163, 1, none⟩) (Kd.R_far (p := ⟨gb163, 0, none⟩) (Kd.R_far (p := ⟨gb164, 3, none⟩) (Kd.R_far (p := ⟨gb164, 2, none⟩) (Kd.R_types (Kd.R_types HO_165000.out BK164.out (by decide)) BK163.out (by decide)) (fun _ hk => hk.1.2) (.int .i64 21)) (fun _ hk => hk.1.2) (.int .i64 x7_1)) (fun _ hk => hk.2) (.slice Ao19 x165000_1.length co19)) (fun _ hk => hk.2) (.slice Ao21 x165001_1.length co21)) (fun _ hk => hk.2) (.int .i64 21)) (fun _ hk => hk.2) (.int .i64 x7_1)) (fun _ hk => trivial), by (with_reducible repeat (first | apply Kd.R_alloc | apply Kd.R_drewN | apply Kd.R_drew)); exact Kd.R_mono (Kd.R_far (p := ⟨gb163, 3, none⟩) (Kd.R_far (p := ⟨gb163, 2, none⟩) (Kd.R_far (p := ⟨gb163, 1, none⟩) (Kd.R_far (p := ⟨gb163, 0, none⟩) (Kd.R_far (p := ⟨gb164, 3, none⟩) (Kd.R_far (p := ⟨gb164, 2, none⟩) (Kd.R_types (Kd.R_types HO_165001.out BK164.out (by decide)) BK163.out (by decide)) (fun _ hk => hk.1.2) (.int .i64 21)) (fun _ hk => hk.1.2) (.int .i64 x7_1)) (fun _ hk => hk.2) (.slice Ao19 x165000_1.length co19)) (fun _ hk => hk.2) (.slice Ao21 x165001_1.length co21)) (fun _ hk => hk.2) (.int .i64 21)) (fun _ hk => hk.2) (.int .i64 x7_1)) (fun _ hk => trivial), by repeat (first | (with_reducible first | exact HB.out | apply below_alloc | apply pw_below_drewN | apply below_drew1 | refine below_set ?_ GE163.out | refine below_set ?_ GE164.out) | exact HB.out)⟩
                · replace c13 := Bool.eq_false_iff.mpr c13
                  subst c13
                  have H1 : (if 0 ≤ x7_1 then (if x7_1 < (l0.length : Int) then (if (rd l0 x7_1) = 61 then (winkleref10_Of.j2 kj10 l0 x4_1 x5_1 x6_1 x7_1 t168 (decide (x4_1 < 2)) x165000_1 x165001_1 x165002_1 x165003_1) else (winkleref10_Of.j2 kj10 l0 x4_1 x5_1 x6_1 x7_1 t168 false x165000_1 x165001_1 x165002_1 x165003_1)) else (none)) else (none)) = some (r1, r2, r3, r4) := by rw [if_neg (show ¬ (false = true) by decide)] at H; exact H
                  clear H
                  have H := H1
                  clear H1
                  have HC22 := Aside0.mk H
                  clear H
                  go_upto_region 16 with (fail)
                  go_cut [64] (fun v64 wc => ∃ (kq : Nat) (x64_21 : Bool), v64 = .bool x64_21 ∧ Aside0 (winkleref10_Of.j2 kq l0 x4_1 x5_1 x6_1 x7_1 t168 x64_21 x165000_1 x165001_1 x165002_1 x165003_1 = some (r1, r2, r3, r4)) ∧ Aside0 (kq ≤ kj10) ∧ Aside0 (Kd.R (Kd.int .u8) 5 wc w.heap.size (fun _ => True) u165000 x165000_1) ∧ Aside0 (Kd.R (Kd.int .i64) 3 wc w.heap.size (fun _ => True) u165001 x165001_1) ∧ Aside0 (wc.heap[gb163]? = some (.cells #[(.slice none 0 0), (.slice none 0 0), .int .i64 x164002_1, .int .i64 x164003_1] 28 (0, 0))) ∧ Aside0 (wc.heap[gb164]? = some (.cells #[u165000, u165001, .int .i64 x165002_1, .int .i64 x165003_1] 28 (0, 0))) ∧ Aside0 (Below w.heap.size w wc))
                  case first =>
                    have H := HC22.out
                    clear HC22
                    by_cases c23 : 0 ≤ x7_1
                    · rw [if_pos c23] at H
                      have c23b0 : decide (0 ≤ x7_1) = true := decide_eq_true c23
                      clear c23
                      (first | rw [c23b0] | (simp only [i64_w, i32_w]; rw [c23b0]) | skip)
                      by_cases c24 : x7_1 < (l0.length : Int)
                      · rw [if_pos c24] at H
                        have c24b0 : decide (x7_1 < (l0.length : Int)) = true := decide_eq_true c24
                        clear c24
                        by_cases c25 : (rd l0 x7_1) = 61
                        · rw [if_pos c25] at H
                          have c25b0 : ((rd l0 x7_1) == 61) = true := beq_iff_eq.mpr c25
                          have c25b1 : ((rd l0 x7_1) != 61) = false := bne_eq_false_iff_eq.mpr c25
                          clear c25
                          have H' := Aside0.mk H
                          clear H
                          have p169 : 0 ≤ (x7_1 : Int) := of_decide_eq_true (by first | (with_reducible assumption) | assumption)
                          have q169 : x7_1 < (l0.length : Int) := of_decide_eq_true (by first | (with_reducible assumption) | assumption)
                          obtain ⟨ad169, e169, hx169_0⟩ := Kd.at_int HR0.out x7_1 p169 q169
                          obtain rfl : ad165 = ad169 := (by injection e169)
                          replace hx169_0 := (HB.out.cell (World.block_lt_of_cell? w _ hx169_0)).trans hx169_0
                          replace p169 := eq_true p169
                          replace q169 := eq_true q169
                          go_wp2
                          go_meet
                          case rel => exact ⟨_, (decide (x4_1 < 2)), (by first | rfl | (simp; done) | (simp [*]; done)), H', ⟨by have := HK1.out; have := HJ10.out; first | omega | exact Nat.le_refl _⟩, ⟨by (with_reducible repeat (first | apply Kd.R_alloc | apply Kd.R_drewN | apply Kd.R_drew)); exact HO_165000.out⟩, ⟨by (with_reducible repeat (first | apply Kd.R_alloc | apply Kd.R_drewN | apply Kd.R_drew)); exact HO_165001.out⟩, ⟨by (with_reducible repeat (first | refine blk_drewN ?_ _ | refine blk_drew ?_ | refine blk_alloc ?_ _)); exact BK163.out⟩, ⟨by (with_reducible repeat (first | refine blk_drewN ?_ _ | refine blk_drew ?_ | refine blk_alloc ?_ _)); exact BK164.out⟩, ⟨by repeat (first | (with_reducible first | exact HB.out | apply below_alloc | apply pw_below_drewN | apply below_drew1 | refine below_set ?_ GE163.out | refine below_set ?_ GE164.out) | exact HB.out)⟩⟩
                        · rw [if_neg c25] at H
                          have c25b0 : ((rd l0 x7_1) == 61) = false := beq_eq_false_iff_ne.mpr c25
                          have c25b1 : ((rd l0 x7_1) != 61) = true := bne_iff_ne.mpr c25
                          have H' := Aside0.mk H
                          clear H
                          have p169 : 0 ≤ (x7_1 : Int) := of_decide_eq_true (by first | (with_reducible assumption) | assumption)
                          have q169 : x7_1 < (l0.length : Int) := of_decide_eq_true (by first | (with_reducible assumption) | assumption)
                          obtain ⟨ad169, e169, hx169_0⟩ := Kd.at_int HR0.out x7_1 p169 q169
                          obtain rfl : ad165 = ad169 := (by injection e169)
                          replace hx169_0 := (HB.out.cell (World.block_lt_of_cell? w _ hx169_0)).trans hx169_0
                          replace p169 := eq_true p169
                          replace q169 := eq_true q169
                          go_wp2
                          go_meet
                          case rel => exact ⟨_, (false), (by first | rfl | (simp; done) | (simp [*]; done)), H', ⟨by have := HK1.out; have := HJ10.out; first | omega | exact Nat.le_refl _⟩, ⟨by (with_reducible repeat (first | apply Kd.R_alloc | apply Kd.R_drewN | apply Kd.R_drew)); exact HO_165000.out⟩, ⟨by (with_reducible repeat (first | apply Kd.R_alloc | apply Kd.R_drewN | apply Kd.R_drew)); exact HO_165001.out⟩, ⟨by (with_reducible repeat (first | refine blk_drewN ?_ _ | refine blk_drew ?_ | refine blk_alloc ?_ _)); exact BK163.out⟩, ⟨by (with_reducible repeat (first | refine blk_drewN ?_ _ | refine blk_drew ?_ | refine blk_alloc ?_ _)); exact BK164.out⟩, ⟨by repeat (first | (with_reducible first | exact HB.out | apply below_alloc | apply pw_below_drewN | apply below_drew1 | refine below_set ?_ GE163.out | refine below_set ?_ GE164.out) | exact HB.out)⟩⟩
                      · rw [if_neg c24] at H
                        exact absurd H (by simp)
                    · rw [if_neg c23] at H
                      exact absurd H (by simp)
                  case rest =>
                    clear HC22
                    try clear c1
                    try clear p1
                    try clear q1
                    try clear hx1
                    try clear c2
                    try clear p2
                    try clear c4
                    try clear c6
                    try clear c6b0
                    try clear p6
                    try clear c7
                    try clear c7b0
                    try clear c9
                    try clear c11
                    try clear c12
                    try clear c12b0
                    try clear c13
                    try clear c14
                    try clear c14b0
                    try clear c14b1
                    try clear c15
                    try clear p16
                    try clear q16
                    try clear hx16
                    try clear c17
                    try clear c20
                    try clear c21
                    try clear c23
                    try clear c23b0
                    try clear c24
                    try clear c24b0
                    try clear c25
                    try clear c25b0
                    try clear c25b1
                    try clear hcz16_0
                    try clear hcz16_1
                    try clear hcz16_2
                    try clear hcz16_3
                    try clear hcz18_0
                    try clear hcz18_1
                    try clear hcz18_2
                    try clear hcz18_3
                    try clear hcz20_0
                    try clear hcz20_1
                    try clear hcz20_2
                    try clear hcz20_3
                    try clear hcz5_0
                    try clear hcz5_1
                    try clear hcz5_2
                    try clear hcz5_3
                    try clear hfz16_0
                    try clear hfz16_1
                    try clear hfz16_2
                    try clear hfz16_3
                    try clear hfz18_0
                    try clear hfz18_1
                    try clear hfz18_2
                    try clear hfz18_3
                    try clear hfz20_0
                    try clear hfz20_1
                    try clear hfz20_2
                    try clear hfz20_3
                    try clear hfz5_0
                    try clear hfz5_1
                    try clear hfz5_2
                    try clear hfz5_3
                    try clear hx165_0
                    try clear hx167_0
                    try clear hx169_0
                    try clear p1
                    try clear p165
                    try clear p167
                    try clear p169
                    try clear p2
                    try clear p6
                    try clear q1
                    try clear q165
                    try clear q167
                    try clear q169
                    obtain ⟨kq, x64_21, rfl, HA, HJ21, HO_165000, HO_165001, BK163, BK164, HB⟩ := hcut
                    cases kq with
                    | zero => exact absurd HA.out (by simp [winkleref10_Of.j2])
                    | succ kj21 =>
                      have H := HA.out
                      clear HA
                      simp only [winkleref10_Of.j2] at H
                      by_cases c26 : x64_21 = true
                      · subst c26
                        have H1 : (if 21 = 0 then (winkleref10_Of.l0 kj21 l0 x4_1 x5_1 x6_1 (wrap64 (x7_1 + 1)) x165000_1 x165001_1 21 x165003_1) else (some (x165000_1, x165001_1, 21, x7_1))) = some (r1, r2, r3, r4) := by rw [if_pos rfl] at H; exact H
                        clear H
                        have H := H1
                        clear H1
                        by_cases c27 : 21 = 0
                        · exact absurd c27 (by decide)
                        · rw [if_neg c27] at H
                          have c27b0 : (21 == 0) = false := beq_eq_false_iff_ne.mpr c27
                          have c27b1 : (21 != 0) = true := bne_iff_ne.mpr c27
                          simp only [Option.some.injEq, Prod.mk.injEq] at H
                          obtain ⟨rfl, rfl, rfl, rfl⟩ := H
                          have hnb30 := NB164_163.out
                          have hnc30 := NB163_164.out
                          have hcz31_0 : wc.cell? ⟨gb164, 0, none⟩ = some (u165000) := (blk_cell BK164.out 0).trans rfl
                          have hcz31_1 : wc.cell? ⟨gb164, 1, none⟩ = some (u165001) := (blk_cell BK164.out 1).trans rfl
                          have hcz31_2 : wc.cell? ⟨gb164, 2, none⟩ = some (.int .i64 x165002_1) := (blk_cell BK164.out 2).trans rfl
                          have hcz31_3 : wc.cell? ⟨gb164, 3, none⟩ = some (.int .i64 x165003_1) := (blk_cell BK164.out 3).trans rfl
                          have hfz31_0 := blk_frozen BK164.out 0
                          have hfz31_1 := blk_frozen BK164.out 1
                          have hfz31_2 := blk_frozen BK164.out 2
                          have hfz31_3 := blk_frozen BK164.out 3
                          obtain ⟨Ao32, co32, eo32⟩ := Kd.R_slice HO_165000.out
                          subst eo32
                          have hcz33_0 : wc.cell? ⟨gb163, 0, none⟩ = some (.slice none 0 0) := (blk_cell BK163.out 0).trans rfl
                          have hcz33_1 : wc.cell? ⟨gb163, 1, none⟩ = some (.slice none 0 0) := (blk_cell BK163.out 1).trans rfl
                          have hcz33_2 : wc.cell? ⟨gb163, 2, none⟩ = some (.int .i64 x164002_1) := (blk_cell BK163.out 2).trans rfl
                          have hcz33_3 : wc.cell? ⟨gb163, 3, none⟩ = some (.int .i64 x164003_1) := (blk_cell BK163.out 3).trans rfl
                          have hfz33_0 := blk_frozen BK163.out 0
                          have hfz33_1 := blk_frozen BK163.out 1
                          have hfz33_2 := blk_frozen BK163.out 2
                          have hfz33_3 := blk_frozen BK163.out 3
                          obtain ⟨Ao34, co34, eo34⟩ := Kd.R_slice HO_165001.out
                          subst eo34
                          go_wp2
                          refine bodyPost_ret (results_cell_row rfl _ _ gb163 28 #[.slice Ao32 x165000_1.length co32, .slice Ao34 x165001_1.length co34, .int .i64 21, .int .i64 x7_1] (0, 0) _ rfl (by (with_reducible repeat (first | refine blk_drewN ?_ _ | refine blk_drew ?_ | refine blk_alloc ?_ _)); refine blk_put (cs := #[.slice Ao32 x165000_1.length co32, .slice Ao34 x165001_1.length co34, .int .i64 21, .int .i64 x164003_1]) ?_ 3 _ rfl; (with_reducible repeat (first | refine blk_drewN ?_ _ | refine blk_drew ?_ | refine blk_alloc ?_ _)); refine blk_put (cs := #[.slice Ao32 x165000_1.length co32, .slice Ao34 x165001_1.length co34, .int .i64 x164002_1, .int .i64 x164003_1]) ?_ 2 _ rfl; (with_reducible repeat (first | refine blk_drewN ?_ _ | refine blk_drew ?_ | refine blk_alloc ?_ _)); refine blk_put (cs := #[.slice Ao32 x165000_1.length co32, .slice none 0 0, .int .i64 x164002_1, .int .i64 x164003_1]) ?_ 1 _ rfl; (with_reducible repeat (first | refine blk_drewN ?_ _ | refine blk_drew ?_ | refine blk_alloc ?_ _)); refine blk_put (cs := #[.slice none 0 0, .slice none 0 0, .int .i64 x164002_1, .int .i64 x164003_1]) ?_ 0 _ rfl; (with_reducible repeat (first | refine blk_drewN ?_ _ | refine blk_drew ?_ | refine blk_alloc ?_ _)); refine blk_far ?_ NB163_164.out _; (with_reducible repeat (first | refine blk_drewN ?_ _ | refine blk_drew ?_ | refine blk_alloc ?_ _)); refine blk_far ?_ NB163_164.out _; (with_reducible repeat (first | refine blk_drewN ?_ _ | refine blk_drew ?_ | refine blk_alloc ?_ _)); exact BK163.out) Try.underlying28 rfl (by kernel_rfl)) rfl ?_
                          exact ⟨_, _, by first | rfl | (simp [errW_none, errW_some] <;> rfl) | (simp [*, errW_none, errW_some] <;> rfl), by (with_reducible repeat (first | apply Kd.R_alloc | apply Kd.R_drewN | apply Kd.R_drew)); exact Kd.R_mono (Kd.R_far (p := ⟨gb163, 3, none⟩) (Kd.R_far (p := ⟨gb163, 2, none⟩) (Kd.R_far (p := ⟨gb163, 1, none⟩) (Kd.R_far (p := ⟨gb163, 0, none⟩) (Kd.R_far (p := ⟨gb164, 3, none⟩) (Kd.R_far (p := ⟨gb164, 2, none⟩) (Kd.R_types (Kd.R_types HO_165000.out BK164.out (by decide)) BK163.out (by decide)) (fun _ hk => hk.1.2) (.int .i64 21)) (fun _ hk => hk.1.2) (.int .i64 x7_1)) (fun _ hk => hk.2) (.slice Ao32 x165000_1.length co32)) (fun _ hk => hk.2) (.slice Ao34 x165001_1.length co34)) (fun _ hk => hk.2) (.int .i64 21)) (fun _ hk => hk.2) (.int .i64 x7_1)) (fun _ hk => trivial), by (with_reducible repeat (first | apply Kd.R_alloc | apply Kd.R_drewN | apply Kd.R_drew)); exact Kd.R_mono (Kd.R_far (p := ⟨gb163, 3, none⟩) (Kd.R_far (p := ⟨gb163, 2, none⟩) (Kd.R_far (p := ⟨gb163, 1, none⟩) (Kd.R_far (p := ⟨gb163, 0, none⟩) (Kd.R_far (p := ⟨gb164, 3, none⟩) (Kd.R_far (p := ⟨gb164, 2, none⟩) (Kd.R_types (Kd.R_types HO_165001.out BK164.out (by decide)) BK163.out (by decide)) (fun _ hk => hk.1.2) (.int .i64 21)) (fun _ hk => hk.1.2) (.int .i64 x7_1)) (fun _ hk => hk.2) (.slice Ao32 x165000_1.length co32)) (fun _ hk => hk.2) (.slice Ao34 x165001_1.length co34)) (fun _ hk => hk.2) (.int .i64 21)) (fun _ hk => hk.2) (.int .i64 x7_1)) (fun _ hk => trivial), by repeat (first | (with_reducible first | exact HB.out | apply below_alloc | apply pw_below_drewN | apply below_drew1 | refine below_set ?_ GE163.out | refine below_set ?_ GE164.out) | exact HB.out)⟩
                      · replace c26 := Bool.eq_false_iff.mpr c26
                        subst c26
                        have H1 : (if 0 ≤ x7_1 then (if x7_1 < (l0.length : Int) then (if (rd l0 x7_1) = 61 then (if x165002_1 = 0 then (winkleref10_Of.l0 kj21 l0 (Int.tmod (wrap64 (x4_1 + 1)) 4) (wrap64 (x5_1 + 1)) x6_1 (wrap64 (x7_1 + 1)) x165000_1 x165001_1 x165002_1 x165003_1) else (some (x165000_1, x165001_1, x165002_1, x7_1))) else (if x5_1 > 0 then (if 21 = 0 then (winkleref10_Of.l0 kj21 l0 x4_1 x5_1 x6_1 (wrap64 (x7_1 + 1)) x165000_1 x165001_1 21 x165003_1) else (some (x165000_1, x165001_1, 21, x7_1))) else (if t168 < 0 then (if 20 = 0 then (winkleref10_Of.l0 kj21 l0 x4_1 x5_1 x6_1 (wrap64 (x7_1 + 1)) x165000_1 x165001_1 20 x165003_1) else (some (x165000_1, x165001_1, 20, x7_1))) else (if x4_1 > 0 then (if 0 ≤ (IntKind.u64.wrap (wrap64 (6 - (wrap64 (2 * x4_1))))) then (if x165000_1.length < 140737488355328 then ((some (x165000_1 ++ [(shr .i64 (wrap64 ((wrap64 ((Int.tmod x6_1 64) * 64)) + t168)) (IntKind.u64.wrap (wrap64 (6 - (wrap64 (2 * x4_1)))))) % 256] : List Int)).bind fun y171 => (if x165001_1.length < 17592186044416 then ((some (x165001_1 ++ [x7_1] : List Int)).bind fun y174 => (if x165002_1 = 0 then (winkleref10_Of.l0 kj21 l0 (Int.tmod (wrap64 (x4_1 + 1)) 4) x5_1 (wrap64 ((wrap64 ((Int.tmod x6_1 64) * 64)) + t168)) (wrap64 (x7_1 + 1)) y171 y174 x165002_1 x165003_1) else (some (y171, y174, x165002_1, x7_1)))) else (none))) else (none)) else (none)) else (if x165002_1 = 0 then (winkleref10_Of.l0 kj21 l0 (Int.tmod (wrap64 (x4_1 + 1)) 4) x5_1 (wrap64 ((wrap64 ((Int.tmod x6_1 64) * 64)) + t168)) (wrap64 (x7_1 + 1)) x165000_1 x165001_1 x165002_1 x165003_1) else (some (x165000_1, x165001_1, x165002_1, x7_1))))))) else (none)) else (none)) = some (r1, r2, r3, r4) := by rw [if_neg (show ¬ (false = true) by decide)] at H; exact H
                        clear H
                        have H := H1
                        clear H1
                        by_cases c35 : 0 ≤ x7_1
                        · rw [if_pos c35] at H
                          have c35b0 : decide (0 ≤ x7_1) = true := decide_eq_true c35
                          clear c35
                          by_cases c36 : x7_1 < (l0.length : Int)
                          · rw [if_pos c36] at H
                            have c36b0 : decide (x7_1 < (l0.length : Int)) = true := decide_eq_true c36
                            clear c36
                            by_cases c37 : (rd l0 x7_1) = 61
                            · rw [if_pos c37] at H
                              have c37b0 : ((rd l0 x7_1) == 61) = true := beq_iff_eq.mpr c37
                              have c37b1 : ((rd l0 x7_1) != 61) = false := bne_eq_false_iff_eq.mpr c37
                              clear c37
                              by_cases c38 : x165002_1 = 0
                              · rw [if_pos c38] at H
                                have c38b0 : (x165002_1 == 0) = true := beq_iff_eq.mpr c38
                                have c38b1 : (x165002_1 != 0) = false := bne_eq_false_iff_eq.mpr c38
                                clear c38
                                have H' := Aside0.mk H
                                clear H
                                have p170 : 0 ≤ (x7_1 : Int) := of_decide_eq_true (by first | (with_reducible assumption) | assumption)
                                have q170 : x7_1 < (l0.length : Int) := of_decide_eq_true (by first | (with_reducible assumption) | assumption)
                                obtain ⟨ad170, e170, hx170_0⟩ := Kd.at_int HR0.out x7_1 p170 q170
                                obtain rfl : ad165 = ad170 := (by injection e170)
                                replace hx170_0 := (HB.out.cell (World.block_lt_of_cell? w _ hx170_0)).trans hx170_0
                                replace p170 := eq_true p170
                                replace q170 := eq_true q170
                                have hnb39 := NB164_163.out
                                have hnc39 := NB163_164.out
                                have hcz40_0 : wc.cell? ⟨gb164, 0, none⟩ = some (u165000) := (blk_cell BK164.out 0).trans rfl
                                have hcz40_1 : wc.cell? ⟨gb164, 1, none⟩ = some (u165001) := (blk_cell BK164.out 1).trans rfl
                                have hcz40_2 : wc.cell? ⟨gb164, 2, none⟩ = some (.int .i64 x165002_1) := (blk_cell BK164.out 2).trans rfl
                                have hcz40_3 : wc.cell? ⟨gb164, 3, none⟩ = some (.int .i64 x165003_1) := (blk_cell BK164.out 3).trans rfl
                                have hfz40_0 := blk_frozen BK164.out 0
                                have hfz40_1 := blk_frozen BK164.out 1
                                have hfz40_2 := blk_frozen BK164.out 2
                                have hfz40_3 := blk_frozen BK164.out 3
                                go_wp2
                                go_roundg kj21
                                case measure => have := HK1.out; have := HJ10.out; have := HJ21.out; omega
                                case rel => exact ⟨(Int.tmod (wrap64 (x4_1 + 1)) 4), (wrap64 (x5_1 + 1)), (x6_1), (wrap64 (x7_1 + 1)), (x164002_1), (x164003_1), (x165000_1), (x165001_1), (x165002_1), (x165003_1), (u165000), (u165001), (by first | rfl | (simp; done) | (simp [*]; done)), (by first | rfl | (simp; done) | (simp [*]; done)), (by first | rfl | (simp; done) | (simp [*]; done)), (by first | rfl | (simp; done) | (simp [*]; done)), H', ⟨by have := HK1.out; have := HJ10.out; have := HJ21.out; omega⟩, ⟨by (with_reducible repeat (first | apply Kd.R_alloc | apply Kd.R_drewN | apply Kd.R_drew)); exact HO_165000.out⟩, ⟨by (with_reducible repeat (first | apply Kd.R_alloc | apply Kd.R_drewN | apply Kd.R_drew)); exact HO_165001.out⟩, ⟨by (with_reducible repeat (first | refine blk_drewN ?_ _ | refine blk_drew ?_ | refine blk_alloc ?_ _)); exact BK163.out⟩, ⟨by (with_reducible repeat (first | refine blk_drewN ?_ _ | refine blk_drew ?_ | refine blk_alloc ?_ _)); exact BK164.out⟩, ⟨by repeat (first | (with_reducible first | exact HB.out | apply below_alloc | apply pw_below_drewN | apply below_drew1 | refine below_set ?_ GE163.out | refine below_set ?_ GE164.out) | exact HB.out)⟩⟩
                              · rw [if_neg c38] at H
                                have c38b0 : (x165002_1 == 0) = false := beq_eq_false_iff_ne.mpr c38
                                have c38b1 : (x165002_1 != 0) = true := bne_iff_ne.mpr c38
                                simp only [Option.some.injEq, Prod.mk.injEq] at H
                                obtain ⟨rfl, rfl, rfl, rfl⟩ := H
                                have p170 : 0 ≤ (x7_1 : Int) := of_decide_eq_true (by first | (with_reducible assumption) | assumption)
                                have q170 : x7_1 < (l0.length : Int) := of_decide_eq_true (by first | (with_reducible assumption) | assumption)
                                obtain ⟨ad170, e170, hx170_0⟩ := Kd.at_int HR0.out x7_1 p170 q170
                                obtain rfl : ad165 = ad170 := (by injection e170)
                                replace hx170_0 := (HB.out.cell (World.block_lt_of_cell? w _ hx170_0)).trans hx170_0
                                replace p170 := eq_true p170
                                replace q170 := eq_true q170
                                have hnb41 := NB164_163.out
                                have hnc41 := NB163_164.out
                                have hcz42_0 : wc.cell? ⟨gb164, 0, none⟩ = some (u165000) := (blk_cell BK164.out 0).trans rfl
                                have hcz42_1 : wc.cell? ⟨gb164, 1, none⟩ = some (u165001) := (blk_cell BK164.out 1).trans rfl
                                have hcz42_2 : wc.cell? ⟨gb164, 2, none⟩ = some (.int .i64 x165002_1) := (blk_cell BK164.out 2).trans rfl
                                have hcz42_3 : wc.cell? ⟨gb164, 3, none⟩ = some (.int .i64 x165003_1) := (blk_cell BK164.out 3).trans rfl
                                have hfz42_0 := blk_frozen BK164.out 0
                                have hfz42_1 := blk_frozen BK164.out 1
                                have hfz42_2 := blk_frozen BK164.out 2
                                have hfz42_3 := blk_frozen BK164.out 3
                                obtain ⟨Ao43, co43, eo43⟩ := Kd.R_slice HO_165000.out
                                subst eo43
                                have hcz44_0 : wc.cell? ⟨gb163, 0, none⟩ = some (.slice none 0 0) := (blk_cell BK163.out 0).trans rfl
                                have hcz44_1 : wc.cell? ⟨gb163, 1, none⟩ = some (.slice none 0 0) := (blk_cell BK163.out 1).trans rfl
                                have hcz44_2 : wc.cell? ⟨gb163, 2, none⟩ = some (.int .i64 x164002_1) := (blk_cell BK163.out 2).trans rfl
                                have hcz44_3 : wc.cell? ⟨gb163, 3, none⟩ = some (.int .i64 x164003_1) := (blk_cell BK163.out 3).trans rfl
                                have hfz44_0 := blk_frozen BK163.out 0
                                have hfz44_1 := blk_frozen BK163.out 1
                                have hfz44_2 := blk_frozen BK163.out 2
                                have hfz44_3 := blk_frozen BK163.out 3
                                obtain ⟨Ao45, co45, eo45⟩ := Kd.R_slice HO_165001.out
                                subst eo45
                                go_wp2
                                refine bodyPost_ret (results_cell_row rfl _ _ gb163 28 #[.slice Ao43 x165000_1.length co43, .slice Ao45 x165001_1.length co45, .int .i64 x165002_1, .int .i64 x7_1] (0, 0) _ rfl (by (with_reducible repeat (first | refine blk_drewN ?_ _ | refine blk_drew ?_ | refine blk_alloc ?_ _)); refine blk_put (cs := #[.slice Ao43 x165000_1.length co43, .slice Ao45 x165001_1.length co45, .int .i64 x165002_1, .int .i64 x164003_1]) ?_ 3 _ rfl; (with_reducible repeat (first | refine blk_drewN ?_ _ | refine blk_drew ?_ | refine blk_alloc ?_ _)); refine blk_put (cs := #[.slice Ao43 x165000_1.length co43, .slice Ao45 x165001_1.length co45, .int .i64 x164002_1, .int .i64 x164003_1]) ?_ 2 _ rfl; (with_reducible repeat (first | refine blk_drewN ?_ _ | refine blk_drew ?_ | refine blk_alloc ?_ _)); refine blk_put (cs := #[.slice Ao43 x165000_1.length co43, .slice none 0 0, .int .i64 x164002_1, .int .i64 x164003_1]) ?_ 1 _ rfl; (with_reducible repeat (first | refine blk_drewN ?_ _ | refine blk_drew ?_ | refine blk_alloc ?_ _)); refine blk_put (cs := #[.slice none 0 0, .slice none 0 0, .int .i64 x164002_1, .int .i64 x164003_1]) ?_ 0 _ rfl; (with_reducible repeat (first | refine blk_drewN ?_ _ | refine blk_drew ?_ | refine blk_alloc ?_ _)); refine blk_far ?_ NB163_164.out _; (with_reducible repeat (first | refine blk_drewN ?_ _ | refine blk_drew ?_ | refine blk_alloc ?_ _)); exact BK163.out) Try.underlying28 rfl (by kernel_rfl)) rfl ?_
                                exact ⟨_, _, by first | rfl | (simp [errW_none, errW_some] <;> rfl) | (simp [*, errW_none, errW_some] <;> rfl), by (with_reducible repeat (first | apply Kd.R_alloc | apply Kd.R_drewN | apply Kd.R_drew)); exact Kd.R_mono (Kd.R_far (p := ⟨gb163, 3, none⟩) (Kd.R_far (p := ⟨gb163, 2, none⟩) (Kd.R_far (p := ⟨gb163, 1, none⟩) (Kd.R_far (p := ⟨gb163, 0, none⟩) (Kd.R_far (p := ⟨gb164, 3, none⟩) (Kd.R_types (Kd.R_types HO_165000.out BK164.out (by decide)) BK163.out (by decide)) (fun _ hk => hk.1.2) (.int .i64 x7_1)) (fun _ hk => hk.2) (.slice Ao43 x165000_1.length co43)) (fun _ hk => hk.2) (.slice Ao45 x165001_1.length co45)) (fun _ hk => hk.2) (.int .i64 x165002_1)) (fun _ hk => hk.2) (.int .i64 x7_1)) (fun _ hk => trivial), by (with_reducible repeat (first | apply Kd.R_alloc | apply Kd.R_drewN | apply Kd.R_drew)); exact Kd.R_mono (Kd.R_far (p := ⟨gb163, 3, none⟩) (Kd.R_far (p := ⟨gb163, 2, none⟩) (Kd.R_far (p := ⟨gb163, 1, none⟩) (Kd.R_far (p := ⟨gb163, 0, none⟩) (Kd.R_far (p := ⟨gb164, 3, none⟩) (Kd.R_types (Kd.R_types HO_165001.out BK164.out (by decide)) BK163.out (by decide)) (fun _ hk => hk.1.2) (.int .i64 x7_1)) (fun _ hk => hk.2) (.slice Ao43 x165000_1.length co43)) (fun _ hk => hk.2) (.slice Ao45 x165001_1.length co45)) (fun _ hk => hk.2) (.int .i64 x165002_1)) (fun _ hk => hk.2) (.int .i64 x7_1)) (fun _ hk => trivial), by repeat (first | (with_reducible first | exact HB.out | apply below_alloc | apply pw_below_drewN | apply below_drew1 | refine below_set ?_ GE163.out | refine below_set ?_ GE164.out) | exact HB.out)⟩
                            · rw [if_neg c37] at H
                              have c37b0 : ((rd l0 x7_1) == 61) = false := beq_eq_false_iff_ne.mpr c37
                              have c37b1 : ((rd l0 x7_1) != 61) = true := bne_iff_ne.mpr c37
                              by_cases c46 : x5_1 > 0
                              · rw [if_pos c46] at H
                                have c46b0 : decide (0 < x5_1) = true := decide_eq_true c46
                                clear c46
                                by_cases c47 : 21 = 0
                                · exact absurd c47 (by decide)
                                · rw [if_neg c47] at H
                                  have c47b0 : (21 == 0) = false := beq_eq_false_iff_ne.mpr c47
                                  have c47b1 : (21 != 0) = true := bne_iff_ne.mpr c47
                                  simp only [Option.some.injEq, Prod.mk.injEq] at H
                                  obtain ⟨rfl, rfl, rfl, rfl⟩ := H
                                  have p170 : 0 ≤ (x7_1 : Int) := of_decide_eq_true (by first | (with_reducible assumption) | assumption)
                                  have q170 : x7_1 < (l0.length : Int) := of_decide_eq_true (by first | (with_reducible assumption) | assumption)
                                  obtain ⟨ad170, e170, hx170_0⟩ := Kd.at_int HR0.out x7_1 p170 q170
                                  obtain rfl : ad165 = ad170 := (by injection e170)
                                  replace hx170_0 := (HB.out.cell (World.block_lt_of_cell? w _ hx170_0)).trans hx170_0
                                  replace p170 := eq_true p170
                                  replace q170 := eq_true q170
                                  have hnb50 := NB164_163.out
                                  have hnc50 := NB163_164.out
                                  have hcz51_0 : wc.cell? ⟨gb164, 0, none⟩ = some (u165000) := (blk_cell BK164.out 0).trans rfl
                                  have hcz51_1 : wc.cell? ⟨gb164, 1, none⟩ = some (u165001) := (blk_cell BK164.out 1).trans rfl
                                  have hcz51_2 : wc.cell? ⟨gb164, 2, none⟩ = some (.int .i64 x165002_1) := (blk_cell BK164.out 2).trans rfl
                                  have hcz51_3 : wc.cell? ⟨gb164, 3, none⟩ = some (.int .i64 x165003_1) := (blk_cell BK164.out 3).trans rfl
                                  have hfz51_0 := blk_frozen BK164.out 0
                                  have hfz51_1 := blk_frozen BK164.out 1
                                  have hfz51_2 := blk_frozen BK164.out 2
                                  have hfz51_3 := blk_frozen BK164.out 3
                                  obtain ⟨Ao52, co52, eo52⟩ := Kd.R_slice HO_165000.out
                                  subst eo52
                                  have hcz53_0 : wc.cell? ⟨gb163, 0, none⟩ = some (.slice none 0 0) := (blk_cell BK163.out 0).trans rfl
                                  have hcz53_1 : wc.cell? ⟨gb163, 1, none⟩ = some (.slice none 0 0) := (blk_cell BK163.out 1).trans rfl
                                  have hcz53_2 : wc.cell? ⟨gb163, 2, none⟩ = some (.int .i64 x164002_1) := (blk_cell BK163.out 2).trans rfl
                                  have hcz53_3 : wc.cell? ⟨gb163, 3, none⟩ = some (.int .i64 x164003_1) := (blk_cell BK163.out 3).trans rfl
                                  have hfz53_0 := blk_frozen BK163.out 0
                                  have hfz53_1 := blk_frozen BK163.out 1
                                  have hfz53_2 := blk_frozen BK163.out 2
                                  have hfz53_3 := blk_frozen BK163.out 3
                                  obtain ⟨Ao54, co54, eo54⟩ := Kd.R_slice HO_165001.out
                                  subst eo54
                                  go_wp2
                                  refine bodyPost_ret (results_cell_row rfl _ _ gb163 28 #[.slice Ao52 x165000_1.length co52, .slice Ao54 x165001_1.length co54, .int .i64 21, .int .i64 x7_1] (0, 0) _ rfl (by (with_reducible repeat (first | refine blk_drewN ?_ _ | refine blk_drew ?_ | refine blk_alloc ?_ _)); refine blk_put (cs := #[.slice Ao52 x165000_1.length co52, .slice Ao54 x165001_1.length co54, .int .i64 21, .int .i64 x164003_1]) ?_ 3 _ rfl; (with_reducible repeat (first | refine blk_drewN ?_ _ | refine blk_drew ?_ | refine blk_alloc ?_ _)); refine blk_put (cs := #[.slice Ao52 x165000_1.length co52, .slice Ao54 x165001_1.length co54, .int .i64 x164002_1, .int .i64 x164003_1]) ?_ 2 _ rfl; (with_reducible repeat (first | refine blk_drewN ?_ _ | refine blk_drew ?_ | refine blk_alloc ?_ _)); refine blk_put (cs := #[.slice Ao52 x165000_1.length co52, .slice none 0 0, .int .i64 x164002_1, .int .i64 x164003_1]) ?_ 1 _ rfl; (with_reducible repeat (first | refine blk_drewN ?_ _ | refine blk_drew ?_ | refine blk_alloc ?_ _)); refine blk_put (cs := #[.slice none 0 0, .slice none 0 0, .int .i64 x164002_1, .int .i64 x164003_1]) ?_ 0 _ rfl; (with_reducible repeat (first | refine blk_drewN ?_ _ | refine blk_drew ?_ | refine blk_alloc ?_ _)); refine blk_far ?_ NB163_164.out _; (with_reducible repeat (first | refine blk_drewN ?_ _ | refine blk_drew ?_ | refine blk_alloc ?_ _)); refine blk_far ?_ NB163_164.out _; (with_reducible repeat (first | refine blk_drewN ?_ _ | refine blk_drew ?_ | refine blk_alloc ?_ _)); exact BK163.out) Try.underlying28 rfl (by kernel_rfl)) rfl ?_
                                  exact ⟨_, _, by first | rfl | (simp [errW_none, errW_some] <;> rfl) | (simp [*, errW_none, errW_some] <;> rfl), by (with_reducible repeat (first | apply Kd.R_alloc | apply Kd.R_drewN | apply Kd.R_drew)); exact Kd.R_mono (Kd.R_far (p := ⟨gb163, 3, none⟩) (Kd.R_far (p := ⟨gb163, 2, none⟩) (Kd.R_far (p := ⟨gb163, 1, none⟩) (Kd.R_far (p := ⟨gb163, 0, none⟩) (Kd.R_far (p := ⟨gb164, 3, none⟩) (Kd.R_far (p := ⟨gb164, 2, none⟩) (Kd.R_types (Kd.R_types HO_165000.out BK164.out (by decide)) BK163.out (by decide)) (fun _ hk => hk.1.2) (.int .i64 21)) (fun _ hk => hk.1.2) (.int .i64 x7_1)) (fun _ hk => hk.2) (.slice Ao52 x165000_1.length co52)) (fun _ hk => hk.2) (.slice Ao54 x165001_1.length co54)) (fun _ hk => hk.2) (.int .i64 21)) (fun _ hk => hk.2) (.int .i64 x7_1)) (fun _ hk => trivial), by (with_reducible repeat (first | apply Kd.R_alloc | apply Kd.R_drewN | apply Kd.R_drew)); exact Kd.R_mono (Kd.R_far (p := ⟨gb163, 3, none⟩) (Kd.R_far (p := ⟨gb163, 2, none⟩) (Kd.R_far (p := ⟨gb163, 1, none⟩) (Kd.R_far (p := ⟨gb163, 0, none⟩) (Kd.R_far (p := ⟨gb164, 3, none⟩) (Kd.R_far (p := ⟨gb164, 2, none⟩) (Kd.R_types (Kd.R_types HO_165001.out BK164.out (by decide)) BK163.out (by decide)) (fun _ hk => hk.1.2) (.int .i64 21)) (fun _ hk => hk.1.2) (.int .i64 x7_1)) (fun _ hk => hk.2) (.slice Ao52 x165000_1.length co52)) (fun _ hk => hk.2) (.slice Ao54 x165001_1.length co54)) (fun _ hk => hk.2) (.int .i64 21)) (fun _ hk => hk.2) (.int .i64 x7_1)) (fun _ hk => trivial), by repeat (first | (with_reducible first | exact HB.out | apply below_alloc | apply pw_below_drewN | apply below_drew1 | refine below_set ?_ GE163.out | refine below_set ?_ GE164.out) | exact HB.out)⟩
                              · rw [if_neg c46] at H
                                have c46b0 : decide (0 < x5_1) = false := decide_eq_false c46
                                clear c46
                                by_cases c55 : t168 < 0
                                · rw [if_pos c55] at H
                                  have c55b0 : decide (t168 < 0) = true := decide_eq_true c55
                                  clear c55
                                  by_cases c56 : 20 = 0
                                  · exact absurd c56 (by decide)
                                  · rw [if_neg c56] at H
                                    have c56b0 : (20 == 0) = false := beq_eq_false_iff_ne.mpr c56
                                    have c56b1 : (20 != 0) = true := bne_iff_ne.mpr c56
                                    simp only [Option.some.injEq, Prod.mk.injEq] at H
                                    obtain ⟨rfl, rfl, rfl, rfl⟩ := H
                                    have p170 : 0 ≤ (x7_1 : Int) := of_decide_eq_true (by first | (with_reducible assumption) | assumption)
                                    have q170 : x7_1 < (l0.length : Int) := of_decide_eq_true (by first | (with_reducible assumption) | assumption)
                                    obtain ⟨ad170, e170, hx170_0⟩ := Kd.at_int HR0.out x7_1 p170 q170
                                    obtain rfl : ad165 = ad170 := (by injection e170)
                                    replace hx170_0 := (HB.out.cell (World.block_lt_of_cell? w _ hx170_0)).trans hx170_0
                                    replace p170 := eq_true p170
                                    replace q170 := eq_true q170
                                    have hnb59 := NB164_163.out
                                    have hnc59 := NB163_164.out
                                    have hcz60_0 : wc.cell? ⟨gb164, 0, none⟩ = some (u165000) := (blk_cell BK164.out 0).trans rfl
                                    have hcz60_1 : wc.cell? ⟨gb164, 1, none⟩ = some (u165001) := (blk_cell BK164.out 1).trans rfl
                                    have hcz60_2 : wc.cell? ⟨gb164, 2, none⟩ = some (.int .i64 x165002_1) := (blk_cell BK164.out 2).trans rfl
                                    have hcz60_3 : wc.cell? ⟨gb164, 3, none⟩ = some (.int .i64 x165003_1) := (blk_cell BK164.out 3).trans rfl
                                    have hfz60_0 := blk_frozen BK164.out 0
                                    have hfz60_1 := blk_frozen BK164.out 1
                                    have hfz60_2 := blk_frozen BK164.out 2
                                    have hfz60_3 := blk_frozen BK164.out 3
                                    obtain ⟨Ao61, co61, eo61⟩ := Kd.R_slice HO_165000.out
                                    subst eo61
                                    have hcz62_0 : wc.cell? ⟨gb163, 0, none⟩ = some (.slice none 0 0) := (blk_cell BK163.out 0).trans rfl
                                    have hcz62_1 : wc.cell? ⟨gb163, 1, none⟩ = some (.slice none 0 0) := (blk_cell BK163.out 1).trans rfl
                                    have hcz62_2 : wc.cell? ⟨gb163, 2, none⟩ = some (.int .i64 x164002_1) := (blk_cell BK163.out 2).trans rfl
                                    have hcz62_3 : wc.cell? ⟨gb163, 3, none⟩ = some (.int .i64 x164003_1) := (blk_cell BK163.out 3).trans rfl
                                    have hfz62_0 := blk_frozen BK163.out 0
                                    have hfz62_1 := blk_frozen BK163.out 1
                                    have hfz62_2 := blk_frozen BK163.out 2
                                    have hfz62_3 := blk_frozen BK163.out 3
                                    obtain ⟨Ao63, co63, eo63⟩ := Kd.R_slice HO_165001.out
                                    subst eo63
                                    go_wp2
                                    refine bodyPost_ret (results_cell_row rfl _ _ gb163 28 #[.slice Ao61 x165000_1.length co61, .slice Ao63 x165001_1.length co63, .int .i64 20, .int .i64 x7_1] (0, 0) _ rfl (by (with_reducible repeat (first | refine blk_drewN ?_ _ | refine blk_drew ?_ | refine blk_alloc ?_ _)); refine blk_put (cs := #[.slice Ao61 x165000_1.length co61, .slice Ao63 x165001_1.length co63, .int .i64 20, .int .i64 x164003_1]) ?_ 3 _ rfl; (with_reducible repeat (first | refine blk_drewN ?_ _ | refine blk_drew ?_ | refine blk_alloc ?_ _)); refine blk_put (cs := #[.slice Ao61 x165000_1.length co61, .slice Ao63 x165001_1.length co63, .int .i64 x164002_1, .int .i64 x164003_1]) ?_ 2 _ rfl; (with_reducible repeat (first | refine blk_drewN ?_ _ | refine blk_drew ?_ | refine blk_alloc ?_ _)); refine blk_put (cs := #[.slice Ao61 x165000_1.length co61, .slice none 0 0, .int .i64 x164002_1, .int .i64 x164003_1]) ?_ 1 _ rfl; (with_reducible repeat (first | refine blk_drewN ?_ _ | refine blk_drew ?_ | refine blk_alloc ?_ _)); refine blk_put (cs := #[.slice none 0 0, .slice none 0 0, .int .i64 x164002_1, .int .i64 x164003_1]) ?_ 0 _ rfl; (with_reducible repeat (first | refine blk_drewN ?_ _ | refine blk_drew ?_ | refine blk_alloc ?_ _)); refine blk_far ?_ NB163_164.out _; (with_reducible repeat (first | refine blk_drewN ?_ _ | refine blk_drew ?_ | refine blk_alloc ?_ _)); refine blk_far ?_ NB163_164.out _; (with_reducible repeat (first | refine blk_drewN ?_ _ | refine blk_drew ?_ | refine blk_alloc ?_ _)); exact BK163.out) Try.underlying28 rfl (by kernel_rfl)) rfl ?_
                                    exact ⟨_, _, by first | rfl | (simp [errW_none, errW_some] <;> rfl) | (simp [*, errW_none, errW_some] <;> rfl), by (with_reducible repeat (first | apply Kd.R_alloc | apply Kd.R_drewN | apply Kd.R_drew)); exact Kd.R_mono (Kd.R_far (p := ⟨gb163, 3, none⟩) (Kd.R_far (p := ⟨gb163, 2, none⟩) (Kd.R_far (p := ⟨gb163, 1, none⟩) (Kd.R_far (p := ⟨gb163, 0, none⟩) (Kd.R_far (p := ⟨gb164, 3, none⟩) (Kd.R_far (p := ⟨gb164, 2, none⟩) (Kd.R_types (Kd.R_types HO_165000.out BK164.out (by decide)) BK163.out (by decide)) (fun _ hk => hk.1.2) (.int .i64 20)) (fun _ hk => hk.1.2) (.int .i64 x7_1)) (fun _ hk => hk.2) (.slice Ao61 x165000_1.length co61)) (fun _ hk => hk.2) (.slice Ao63 x165001_1.length co63)) (fun _ hk => hk.2) (.int .i64 20)) (fun _ hk => hk.2) (.int .i64 x7_1)) (fun _ hk => trivial), by (with_reducible repeat (first | apply Kd.R_alloc | apply Kd.R_drewN | apply Kd.R_drew)); exact Kd.R_mono (Kd.R_far (p := ⟨gb163, 3, none⟩) (Kd.R_far (p := ⟨gb163, 2, none⟩) (Kd.R_far (p := ⟨gb163, 1, none⟩) (Kd.R_far (p := ⟨gb163, 0, none⟩) (Kd.R_far (p := ⟨gb164, 3, none⟩) (Kd.R_far (p := ⟨gb164, 2, none⟩) (Kd.R_types (Kd.R_types HO_165001.out BK164.out (by decide)) BK163.out (by decide)) (fun _ hk => hk.1.2) (.int .i64 20)) (fun _ hk => hk.1.2) (.int .i64 x7_1)) (fun _ hk => hk.2) (.slice Ao61 x165000_1.length co61)) (fun _ hk => hk.2) (.slice Ao63 x165001_1.length co63)) (fun _ hk => hk.2) (.int .i64 20)) (fun _ hk => hk.2) (.int .i64 x7_1)) (fun _ hk => trivial), by repeat (first | (with_reducible first | exact HB.out | apply below_alloc | apply pw_below_drewN | apply below_drew1 | refine below_set ?_ GE163.out | refine below_set ?_ GE164.out) | exact HB.out)⟩
                                · rw [if_neg c55] at H
                                  have c55b0 : decide (t168 < 0) = false := decide_eq_false c55
                                  clear c55
                                  by_cases c64 : x4_1 > 0
                                  · rw [if_pos c64] at H
                                    have c64b0 : decide (0 < x4_1) = true := decide_eq_true c64
                                    clear c64
                                    obtain ⟨ji65, hji65⟩ : ∃ j_ : Int, (IntKind.u64.wrap (wrap64 (6 - (wrap64 (2 * x4_1))))) = j_ := ⟨_, rfl⟩
                                    replace H : (if 0 ≤ (ji65) then (if x165000_1.length < 140737488355328 then ((some (x165000_1 ++ [(shr .i64 (wrap64 ((wrap64 ((Int.tmod x6_1 64) * 64)) + t168)) (ji65)) % 256] : List Int)).bind fun y171 => (if x165001_1.length < 17592186044416 then ((some (x165001_1 ++ [x7_1] : List Int)).bind fun y174 => (if x165002_1 = 0 then (winkleref10_Of.l0 kj21 l0 (Int.tmod (wrap64 (x4_1 + 1)) 4) x5_1 (wrap64 ((wrap64 ((Int.tmod x6_1 64) * 64)) + t168)) (wrap64 (x7_1 + 1)) y171 y174 x165002_1 x165003_1) else (some (y171, y174, x165002_1, x7_1)))) else (none))) else (none)) else (none)) = some (r1, r2, r3, r4) := by first | (rw [hji65] at H; exact H) | (simp only [hji65] at H ⊢; exact H)
                                    by_cases c66 : 0 ≤ (ji65)
                                    · rw [if_pos c66] at H
                                      have c66b0 := eq_true c66
                                      have c66b1 : decide (0 ≤ (ji65)) = true := decide_eq_true c66
                                      clear c66
                                      obtain ⟨ji67, hji67⟩ : ∃ j_ : Int, (shr .i64 (wrap64 ((wrap64 ((Int.tmod x6_1 64) * 64)) + t168)) (ji65)) = j_ := ⟨_, rfl⟩
                                      replace H : (if x165000_1.length < 140737488355328 then ((some (x165000_1 ++ [(ji67) % 256] : List Int)).bind fun y171 => (if x165001_1.length < 17592186044416 then ((some (x165001_1 ++ [x7_1] : List Int)).bind fun y174 => (if x165002_1 = 0 then (winkleref10_Of.l0 kj21 l0 (Int.tmod (wrap64 (x4_1 + 1)) 4) x5_1 (wrap64 ((wrap64 ((Int.tmod x6_1 64) * 64)) + t168)) (wrap64 (x7_1 + 1)) y171 y174 x165002_1 x165003_1) else (some (y171, y174, x165002_1, x7_1)))) else (none))) else (none)) = some (r1, r2, r3, r4) := by first | (rw [hji67] at H; exact H) | (simp only [hji67] at H ⊢; exact H)
                                      have hji67_ : ((wrap64 ((wrap64 ((Int.tmod x6_1 64) * 64)) + t168)) / 2 ^ min (ji65).toNat 64) = ji67 := hji67
                                      have hji67z : (ji65) ≤ 64 → ((wrap64 ((wrap64 ((Int.tmod x6_1 64) * 64)) + t168)) / 2 ^ (ji65).toNat) = ji67 := shr_small hji67
                                      by_cases c68 : x165000_1.length < 140737488355328
                                      · rw [if_pos c68] at H
                                        have LMc68 := Aside0.mk c68
                                        clear c68
                                        obtain ⟨y171, hy171⟩ : ∃ y_ : List Int, y_ = (x165000_1 ++ [(ji67) % 256]) := ⟨_, rfl⟩
                                        replace H : (if x165001_1.length < 17592186044416 then ((some (x165001_1 ++ [x7_1] : List Int)).bind fun y174 => (if x165002_1 = 0 then (winkleref10_Of.l0 kj21 l0 (Int.tmod (wrap64 (x4_1 + 1)) 4) x5_1 (wrap64 ((wrap64 ((Int.tmod x6_1 64) * 64)) + t168)) (wrap64 (x7_1 + 1)) y171 y174 x165002_1 x165003_1) else (some (y171, y174, x165002_1, x7_1)))) else (none)) = some (r1, r2, r3, r4) := by first | (rw [hy171]; with_reducible exact H) | (have H2_ := (Option.bind_some _ _).symm.trans H; rw [hy171]; with_reducible exact H2_) | (have H2_ := (Option.bind_some _ _).symm.trans H; with_reducible exact H2_) | with_reducible exact H | (rw [hy171]; exact H) | exact H
                                        have Ny171 := Aside0.mk hy171
                                        clear hy171
                                        by_cases c69 : x165001_1.length < 17592186044416
                                        · rw [if_pos c69] at H
                                          have LMc69 := Aside0.mk c69
                                          clear c69
                                          obtain ⟨y174, hy174⟩ : ∃ y_ : List Int, y_ = (x165001_1 ++ [x7_1]) := ⟨_, rfl⟩
                                          replace H : (if x165002_1 = 0 then (winkleref10_Of.l0 kj21 l0 (Int.tmod (wrap64 (x4_1 + 1)) 4) x5_1 (wrap64 ((wrap64 ((Int.tmod x6_1 64) * 64)) + t168)) (wrap64 (x7_1 + 1)) y171 y174 x165002_1 x165003_1) else (some (y171, y174, x165002_1, x7_1))) = some (r1, r2, r3, r4) := by first | (rw [hy174]; with_reducible exact H) | (have H2_ := (Option.bind_some _ _).symm.trans H; rw [hy174]; with_reducible exact H2_) | (have H2_ := (Option.bind_some _ _).symm.trans H; with_reducible exact H2_) | with_reducible exact H | (rw [hy174]; exact H) | exact H
                                          have Ny174 := Aside0.mk hy174
                                          clear hy174
                                          by_cases c70 : x165002_1 = 0
                                          · rw [if_pos c70] at H
                                            have c70b0 : (x165002_1 == 0) = true := beq_iff_eq.mpr c70
                                            have c70b1 : (x165002_1 != 0) = false := bne_eq_false_iff_eq.mpr c70
                                            clear c70
                                            have H' := Aside0.mk H
                                            clear H
                                            have p170 : 0 ≤ (x7_1 : Int) := of_decide_eq_true (by first | (with_reducible assumption) | assumption)
                                            have q170 : x7_1 < (l0.length : Int) := of_decide_eq_true (by first | (with_reducible assumption) | assumption)
                                            obtain ⟨ad170, e170, hx170_0⟩ := Kd.at_int HR0.out x7_1 p170 q170
                                            obtain rfl : ad165 = ad170 := (by injection e170)
                                            replace hx170_0 := (HB.out.cell (World.block_lt_of_cell? w _ hx170_0)).trans hx170_0
                                            replace p170 := eq_true p170
                                            replace q170 := eq_true q170
                                            have hnb71 := NB164_163.out
                                            have hnc71 := NB163_164.out
                                            have hcz72_0 : wc.cell? ⟨gb164, 0, none⟩ = some (u165000) := (blk_cell BK164.out 0).trans rfl
                                            have hcz72_1 : wc.cell? ⟨gb164, 1, none⟩ = some (u165001) := (blk_cell BK164.out 1).trans rfl
                                            have hcz72_2 : wc.cell? ⟨gb164, 2, none⟩ = some (.int .i64 x165002_1) := (blk_cell BK164.out 2).trans rfl
                                            have hcz72_3 : wc.cell? ⟨gb164, 3, none⟩ = some (.int .i64 x165003_1) := (blk_cell BK164.out 3).trans rfl
                                            have hfz72_0 := blk_frozen BK164.out 0
                                            have hfz72_1 := blk_frozen BK164.out 1
                                            have hfz72_2 := blk_frozen BK164.out 2
                                            have hfz72_3 := blk_frozen BK164.out 3
                                            go_wp2_with (first | ((with_reducible refine gate_builtin (b := .append) (xs := #[.tmp 36, .tmp 44]) rfl ?_); at_builtin; refine Kd.R_append (Kd.int .u8) (w0 := w) w.heap.size rfl (.tmp 36) (.tmp 44) 22 5 (.int .u8 0) 1 rfl Try.underlying22 info5 rfl (by decide) (by omega) u165000 x165000_1 ((ji67) % 256) [.int .u8 ((ji67) % 256)] (fun _ => True) (fun _ => False) rfl rfl ?aP (fun _ hk => hk.elim) ?aF ?aO ?aB ?aS ?aL ?_; (case aP => exact rfl); (case aB => exact (by repeat (first | (with_reducible first | exact HB.out | apply below_alloc | apply pw_below_drewN | apply below_drew1 | refine below_set ?_ GE163.out | refine below_set ?_ GE164.out) | exact HB.out))); (case aF => exact (fun _ _ => trivial)); (case aO => exact (by (with_reducible repeat (first | apply Kd.R_alloc | apply Kd.R_drewN | apply Kd.R_drew)); exact HO_165000.out)); (case aS => exact (below_size (by repeat (first | (with_reducible first | exact HB.out | apply below_alloc | apply pw_below_drewN | apply below_drew1 | refine below_set ?_ GE163.out | refine below_set ?_ GE164.out) | exact HB.out)))); (case aL => have := LMc68.out; omega); intro v172 w73 ho hb hg hat; rw [← Ny171.out] at ho; have n0_ := Aside0.mk (Kd.R_over' (by (with_reducible repeat (first | apply Kd.R_alloc | apply Kd.R_drewN | apply Kd.R_drew)); exact HO_165001.out) (Kd.R_typed (by (with_reducible repeat (first | apply Kd.R_alloc | apply Kd.R_drewN | apply Kd.R_drew)); exact HO_165000.out)) (by decide) hg); have n1_ := Aside0.mk (blk_grown (g := gb163) (o := .cells #[.slice none 0 0, .slice none 0 0, .int .i64 x164002_1, .int .i64 x164003_1] 28 (0, 0)) (by (with_reducible repeat (first | refine blk_drewN ?_ _ | refine blk_drew ?_ | refine blk_alloc ?_ _)); exact BK163.out) hg (Kd.R_ne HO_165000.out BK163.out (by decide))); have n2_ := Aside0.mk (blk_grown (g := gb164) (o := .cells #[u165000, u165001, .int .i64 x165002_1, .int .i64 x165003_1] 28 (0, 0)) (by (with_reducible repeat (first | refine blk_drewN ?_ _ | refine blk_drew ?_ | refine blk_alloc ?_ _)); exact BK164.out) hg (Kd.R_ne HO_165000.out BK164.out (by decide))); have n3_ := Aside0.mk (hb); have n4_ := Aside0.mk (ho); clear HO_165001; clear BK163; clear BK164; clear HB; clear HO_165000; have HO_165001 := n0_; have BK163 := n1_; have BK164 := n2_; have HB := n3_; have HO173 := n4_; clear n0_ n1_ n2_ n3_ n4_; clear ho hb hg hat; obtain ⟨Ao74, co74, eo74⟩ := Kd.R_slice HO173.out; subst eo74; have hcz75_0 : w73.cell? ⟨gb164, 0, none⟩ = some (u165000) := (blk_cell BK164.out 0).trans rfl; have hcz75_1 : w73.cell? ⟨gb164, 1, none⟩ = some (u165001) := (blk_cell BK164.out 1).trans rfl; have hcz75_2 : w73.cell? ⟨gb164, 2, none⟩ = some (.int .i64 x165002_1) := (blk_cell BK164.out 2).trans rfl; have hcz75_3 : w73.cell? ⟨gb164, 3, none⟩ = some (.int .i64 x165003_1) := (blk_cell BK164.out 3).trans rfl; have hfz75_0 := blk_frozen BK164.out 0; have hfz75_1 := blk_frozen BK164.out 1; have hfz75_2 := blk_frozen BK164.out 2; have hfz75_3 := blk_frozen BK164.out 3) | ((with_reducible refine gate_builtin (b := .append) (xs := #[.tmp 48, .tmp 50]) rfl ?_); at_builtin; refine Kd.R_append (Kd.int .i64) (w0 := w) w.heap.size rfl (.tmp 48) (.tmp 50) 26 3 (.int .i64 0) 8 rfl Try.underlying26 info3 rfl (by decide) (by omega) u165001 x165001_1 x7_1 [.int .i64 x7_1] (fun _ => True) (fun _ => False) rfl (by first | (go_simp; done) | (go_simp; rfl)) ?aP (fun _ hk => hk.elim) ?aF ?aO ?aB ?aS ?aL ?_; (case aP => exact rfl); (case aB => exact (by repeat (first | (with_reducible first | exact HB.out | apply below_alloc | apply pw_below_drewN | apply below_drew1 | refine below_set ?_ GE163.out | refine below_set ?_ GE164.out) | exact HB.out))); (case aF => exact (fun _ _ => trivial)); (case aO => exact (by (with_reducible repeat (first | apply Kd.R_alloc | apply Kd.R_drewN | apply Kd.R_drew)); exact Kd.R_mono (Kd.R_far (p := ⟨gb164, 0, none⟩) (Kd.R_types HO_165001.out BK164.out (by decide)) (fun _ hk => hk.2) (.slice Ao74 y171.length co74)) (fun _ hk => trivial))); (case aS => exact (below_size (by repeat (first | (with_reducible first | exact HB.out | apply below_alloc | apply pw_below_drewN | apply below_drew1 | refine below_set ?_ GE163.out | refine below_set ?_ GE164.out) | exact HB.out)))); (case aL => have := LMc69.out; omega); intro v175 w76 ho hb hg hat; rw [← Ny174.out] at ho; have n0_ := Aside0.mk (blk_grown (g := gb163) (o := .cells #[.slice none 0 0, .slice none 0 0, .int .i64 x164002_1, .int .i64 x164003_1] 28 (0, 0)) (by (with_reducible repeat (first | refine blk_drewN ?_ _ | refine blk_drew ?_ | refine blk_alloc ?_ _)); refine blk_far ?_ NB163_164.out _; (with_reducible repeat (first | refine blk_drewN ?_ _ | refine blk_drew ?_ | refine blk_alloc ?_ _)); exact BK163.out) hg (Kd.R_ne HO_165001.out BK163.out (by decide))); have n1_ := Aside0.mk (blk_grown (g := gb164) (o := .cells #[.slice Ao74 y171.length co74, u165001, .int .i64 x165002_1, .int .i64 x165003_1] 28 (0, 0)) (by (with_reducible repeat (first | refine blk_drewN ?_ _ | refine blk_drew ?_ | refine blk_alloc ?_ _)); refine blk_put (cs := #[u165000, u165001, .int .i64 x165002_1, .int .i64 x165003_1]) ?_ 0 _ rfl; (with_reducible repeat (first | refine blk_drewN ?_ _ | refine blk_drew ?_ | refine blk_alloc ?_ _)); exact BK164.out) hg (Kd.R_ne HO_165001.out BK164.out (by decide))); have n2_ := Aside0.mk (Kd.R_over' (by (with_reducible repeat (first | apply Kd.R_alloc | apply Kd.R_drewN | apply Kd.R_drew)); exact (Kd.R_mono (Kd.R_far (p := ⟨gb164, 0, none⟩) (Kd.R_types HO173.out BK164.out (by decide)) (fun _ hk => hk.2) (.slice Ao74 y171.length co74)) (fun _ h_ => h_.1))) (Kd.R_typed (by (with_reducible repeat (first | apply Kd.R_alloc | apply Kd.R_drewN | apply Kd.R_drew)); exact (Kd.R_mono (Kd.R_far (p := ⟨gb164, 0, none⟩) (Kd.R_types HO_165001.out BK164.out (by decide)) (fun _ hk => hk.2) (.slice Ao74 y171.length co74)) (fun _ h_ => h_.1)))) (by decide) hg); have n3_ := Aside0.mk (hb); have n4_ := Aside0.mk (ho); clear BK163; clear BK164; clear HO173; clear HB; clear HO_165001; have BK163 := n0_; have BK164 := n1_; have HO173 := n2_; have HB := n3_; have HO176 := n4_; clear n0_ n1_ n2_ n3_ n4_; clear ho hb hg hat; obtain ⟨Ao77, co77, eo77⟩ := Kd.R_slice HO176.out; subst eo77; have hcz78_0 : w76.cell? ⟨gb164, 0, none⟩ = some (.slice Ao74 y171.length co74) := (blk_cell BK164.out 0).trans rfl; have hcz78_1 : w76.cell? ⟨gb164, 1, none⟩ = some (u165001) := (blk_cell BK164.out 1).trans rfl; have hcz78_2 : w76.cell? ⟨gb164, 2, none⟩ = some (.int .i64 x165002_1) := (blk_cell BK164.out 2).trans rfl; have hcz78_3 : w76.cell? ⟨gb164, 3, none⟩ = some (.int .i64 x165003_1) := (blk_cell BK164.out 3).trans rfl; have hfz78_0 := blk_frozen BK164.out 0; have hfz78_1 := blk_frozen BK164.out 1; have hfz78_2 := blk_frozen BK164.out 2; have hfz78_3 := blk_frozen BK164.out 3))
                                            go_roundg kj21
                                            case measure => have := HK1.out; have := HJ10.out; have := HJ21.out; omega
                                            case rel => exact ⟨(Int.tmod (wrap64 (x4_1 + 1)) 4), (x5_1), (wrap64 ((wrap64 ((Int.tmod x6_1 64) * 64)) + t168)), (wrap64 (x7_1 + 1)), (x164002_1), (x164003_1), (y171), (y174), (x165002_1), (x165003_1), (.slice Ao74 y171.length co74), (.slice Ao77 y174.length co77), (by first | rfl | (simp; done) | (simp [*]; done)), (by first | rfl | (simp; done) | (simp [*]; done)), (by first | rfl | (simp; done) | (simp [*]; done)), (by first | rfl | (simp; done) | (simp [*]; done)), H', ⟨by have := HK1.out; have := HJ10.out; have := HJ21.out; omega⟩, ⟨by (with_reducible repeat (first | apply Kd.R_alloc | apply Kd.R_drewN | apply Kd.R_drew)); exact Kd.R_mono (Kd.R_far (p := ⟨gb164, 1, none⟩) (Kd.R_types HO173.out BK164.out (by decide)) (fun _ hk => hk.2) (.slice Ao77 y174.length co77)) (fun _ hk => trivial)⟩, ⟨by (with_reducible repeat (first | apply Kd.R_alloc | apply Kd.R_drewN | apply Kd.R_drew)); exact Kd.R_mono (Kd.R_far (p := ⟨gb164, 1, none⟩) (Kd.R_types HO176.out BK164.out (by decide)) (fun _ hk => hk.2) (.slice Ao77 y174.length co77)) (fun _ hk => trivial)⟩, ⟨by (with_reducible repeat (first | refine blk_drewN ?_ _ | refine blk_drew ?_ | refine blk_alloc ?_ _)); refine blk_far ?_ NB163_164.out _; (with_reducible repeat (first | refine blk_drewN ?_ _ | refine blk_drew ?_ | refine blk_alloc ?_ _)); exact BK163.out⟩, ⟨by (with_reducible repeat (first | refine blk_drewN ?_ _ | refine blk_drew ?_ | refine blk_alloc ?_ _)); refine blk_put (cs := #[.slice Ao74 y171.length co74, u165001, .int .i64 x165002_1, .int .i64 x165003_1]) ?_ 1 _ rfl; (with_reducible repeat (first | refine blk_drewN ?_ _ | refine blk_drew ?_ | refine blk_alloc ?_ _)); exact BK164.out⟩, ⟨by repeat (first | (with_reducible first | exact HB.out | apply below_alloc | apply pw_below_drewN | apply below_drew1 | refine below_set ?_ GE163.out | refine below_set ?_ GE164.out) | exact HB.out)⟩⟩
                                          · rw [if_neg c70] at H
                                            have c70b0 : (x165002_1 == 0) = false := beq_eq_false_iff_ne.mpr c70
                                            have c70b1 : (x165002_1 != 0) = true := bne_iff_ne.mpr c70
                                            simp only [Option.some.injEq, Prod.mk.injEq] at H
                                            obtain ⟨rfl, rfl, rfl, rfl⟩ := H
                                            have p170 : 0 ≤ (x7_1 : Int) := of_decide_eq_true (by first | (with_reducible assumption) | assumption)
                                            have q170 : x7_1 < (l0.length : Int) := of_decide_eq_true (by first | (with_reducible assumption) | assumption)
                                            obtain ⟨ad170, e170, hx170_0⟩ := Kd.at_int HR0.out x7_1 p170 q170
                                            obtain rfl : ad165 = ad170 := (by injection e170)
                                            replace hx170_0 := (HB.out.cell (World.block_lt_of_cell? w _ hx170_0)).trans hx170_0
                                            replace p170 := eq_true p170
                                            replace q170 := eq_true q170
                                            have hnb79 := NB164_163.out
                                            have hnc79 := NB163_164.out
                                            have hcz80_0 : wc.cell? ⟨gb164, 0, none⟩ = some (u165000) := (blk_cell BK164.out 0).trans rfl
                                            have hcz80_1 : wc.cell? ⟨gb164, 1, none⟩ = some (u165001) := (blk_cell BK164.out 1).trans rfl
                                            have hcz80_2 : wc.cell? ⟨gb164, 2, none⟩ = some (.int .i64 x165002_1) := (blk_cell BK164.out 2).trans rfl
                                            have hcz80_3 : wc.cell? ⟨gb164, 3, none⟩ = some (.int .i64 x165003_1) := (blk_cell BK164.out 3).trans rfl
                                            have hfz80_0 := blk_frozen BK164.out 0
                                            have hfz80_1 := blk_frozen BK164.out 1
                                            have hfz80_2 := blk_frozen BK164.out 2
                                            have hfz80_3 := blk_frozen BK164.out 3
                                            go_wp2_with (first | ((with_reducible refine gate_builtin (b := .append) (xs := #[.tmp 36, .tmp 44]) rfl ?_); at_builtin; refine Kd.R_append (Kd.int .u8) (w0 := w) w.heap.size rfl (.tmp 36) (.tmp 44) 22 5 (.int .u8 0) 1 rfl Try.underlying22 info5 rfl (by decide) (by omega) u165000 x165000_1 ((ji67) % 256) [.int .u8 ((ji67) % 256)] (fun _ => True) (fun _ => False) rfl rfl ?aP (fun _ hk => hk.elim) ?aF ?aO ?aB ?aS ?aL ?_; (case aP => exact rfl); (case aB => exact (by repeat (first | (with_reducible first | exact HB.out | apply below_alloc | apply pw_below_drewN | apply below_drew1 | refine below_set ?_ GE163.out | refine below_set ?_ GE164.out) | exact HB.out))); (case aF => exact (fun _ _ => trivial)); (case aO => exact (by (with_reducible repeat (first | apply Kd.R_alloc | apply Kd.R_drewN | apply Kd.R_drew)); exact HO_165000.out)); (case aS => exact (below_size (by repeat (first | (with_reducible first | exact HB.out | apply below_alloc | apply pw_below_drewN | apply below_drew1 | refine below_set ?_ GE163.out | refine below_set ?_ GE164.out) | exact HB.out)))); (case aL => have := LMc68.out; omega); intro v172 w81 ho hb hg hat; rw [← Ny171.out] at ho; have n0_ := Aside0.mk (Kd.R_over' (by (with_reducible repeat (first | apply Kd.R_alloc | apply Kd.R_drewN | apply Kd.R_drew)); exact HO_165001.out) (Kd.R_typed (by (with_reducible repeat (first | apply Kd.R_alloc | apply Kd.R_drewN | apply Kd.R_drew)); exact HO_165000.out)) (by decide) hg); have n1_ := Aside0.mk (blk_grown (g := gb163) (o := .cells #[.slice none 0 0, .slice none 0 0, .int .i64 x164002_1, .int .i64 x164003_1] 28 (0, 0)) (by (with_reducible repeat (first | refine blk_drewN ?_ _ | refine blk_drew ?_ | refine blk_alloc ?_ _)); exact BK163.out) hg (Kd.R_ne HO_165000.out BK163.out (by decide))); have n2_ := Aside0.mk (blk_grown (g := gb164) (o := .cells #[u165000, u165001, .int .i64 x165002_1, .int .i64 x165003_1] 28 (0, 0)) (by (with_reducible repeat (first | refine blk_drewN ?_ _ | refine blk_drew ?_ | refine blk_alloc ?_ _)); exact BK164.out) hg (Kd.R_ne HO_165000.out BK164.out (by decide))); have n3_ := Aside0.mk (hb); have n4_ := Aside0.mk (ho); clear HO_165001; clear BK163; clear BK164; clear HB; clear HO_165000; have HO_165001 := n0_; have BK163 := n1_; have BK164 := n2_; have HB := n3_; have HO173 := n4_; clear n0_ n1_ n2_ n3_ n4_; clear ho hb hg hat; obtain ⟨Ao82, co82, eo82⟩ := Kd.R_slice HO173.out; subst eo82; have hcz83_0 : w81.cell? ⟨gb164, 0, none⟩ = some (u165000) := (blk_cell BK164.out 0).trans rfl; have hcz83_1 : w81.cell? ⟨gb164, 1, none⟩ = some (u165001) := (blk_cell BK164.out 1).trans rfl; have hcz83_2 : w81.cell? ⟨gb164, 2, none⟩ = some (.int .i64 x165002_1) := (blk_cell BK164.out 2).trans rfl; have hcz83_3 : w81.cell? ⟨gb164, 3, none⟩ = some (.int .i64 x165003_1) := (blk_cell BK164.out 3).trans rfl; have hfz83_0 := blk_frozen BK164.out 0; have hfz83_1 := blk_frozen BK164.out 1; have hfz83_2 := blk_frozen BK164.out 2; have hfz83_3 := blk_frozen BK164.out 3) | ((with_reducible refine gate_builtin (b := .append) (xs := #[.tmp 48, .tmp 50]) rfl ?_); at_builtin; refine Kd.R_append (Kd.int .i64) (w0 := w) w.heap.size rfl (.tmp 48) (.tmp 50) 26 3 (.int .i64 0) 8 rfl Try.underlying26 info3 rfl (by decide) (by omega) u165001 x165001_1 x7_1 [.int .i64 x7_1] (fun _ => True) (fun _ => False) rfl (by first | (go_simp; done) | (go_simp; rfl)) ?aP (fun _ hk => hk.elim) ?aF ?aO ?aB ?aS ?aL ?_; (case aP => exact rfl); (case aB => exact (by repeat (first | (with_reducible first | exact HB.out | apply below_alloc | apply pw_below_drewN | apply below_drew1 | refine below_set ?_ GE163.out | refine below_set ?_ GE164.out) | exact HB.out))); (case aF => exact (fun _ _ => trivial)); (case aO => exact (by (with_reducible repeat (first | apply Kd.R_alloc | apply Kd.R_drewN | apply Kd.R_drew)); exact Kd.R_mono (Kd.R_far (p := ⟨gb164, 0, none⟩) (Kd.R_types HO_165001.out BK164.out (by decide)) (fun _ hk => hk.2) (.slice Ao82 y171.length co82)) (fun _ hk => trivial))); (case aS => exact (below_size (by repeat (first | (with_reducible first | exact HB.out | apply below_alloc | apply pw_below_drewN | apply below_drew1 | refine below_set ?_ GE163.out | refine below_set ?_ GE164.out) | exact HB.out)))); (case aL => have := LMc69.out; omega); intro v175 w84 ho hb hg hat; rw [← Ny174.out] at ho; have n0_ := Aside0.mk (blk_grown (g := gb163) (o := .cells #[.slice none 0 0, .slice none 0 0, .int .i64 x164002_1, .int .i64 x164003_1] 28 (0, 0)) (by (with_reducible repeat (first | refine blk_drewN ?_ _ | refine blk_drew ?_ | refine blk_alloc ?_ _)); refine blk_far ?_ NB163_164.out _; (with_reducible repeat (first | refine blk_drewN ?_ _ | refine blk_drew ?_ | refine blk_alloc ?_ _)); exact BK163.out) hg (Kd.R_ne HO_165001.out BK163.out (by decide))); have n1_ := Aside0.mk (blk_grown (g := gb164) (o := .cells #[.slice Ao82 y171.length co82, u165001, .int .i64 x165002_1, .int .i64 x165003_1] 28 (0, 0)) (by (with_reducible repeat (first | refine blk_drewN ?_ _ | refine blk_drew ?_ | refine blk_alloc ?_ _)); refine blk_put (cs := #[u165000, u165001, .int .i64 x165002_1, .int .i64 x165003_1]) ?_ 0 _ rfl; (with_reducible repeat (first | refine blk_drewN ?_ _ | refine blk_drew ?_ | refine blk_alloc ?_ _)); exact BK164.out) hg (Kd.R_ne HO_165001.out BK164.out (by decide))); have n2_ := Aside0.mk (Kd.R_over' (by (with_reducible repeat (first | apply Kd.R_alloc | apply Kd.R_drewN | apply Kd.R_drew)); exact (Kd.R_mono (Kd.R_far (p := ⟨gb164, 0, none⟩) (Kd.R_types HO173.out BK164.out (by decide)) (fun _ hk => hk.2) (.slice Ao82 y171.length co82)) (fun _ h_ => h_.1))) (Kd.R_typed (by (with_reducible repeat (first | apply Kd.R_alloc | apply Kd.R_drewN | apply Kd.R_drew)); exact (Kd.R_mono (Kd.R_far (p := ⟨gb164, 0, none⟩) (Kd.R_types HO_165001.out BK164.out (by decide)) (fun _ hk => hk.2) (.slice Ao82 y171.length co82)) (fun _ h_ => h_.1)))) (by decide) hg); have n3_ := Aside0.mk (hb); have n4_ := Aside0.mk (ho); clear BK163; clear BK164; clear HO173; clear HB; clear HO_165001; have BK163 := n0_; have BK164 := n1_; have HO173 := n2_; have HB := n3_; have HO176 := n4_; clear n0_ n1_ n2_ n3_ n4_; clear ho hb hg hat; obtain ⟨Ao85, co85, eo85⟩ := Kd.R_slice HO176.out; subst eo85; have hcz86_0 : w84.cell? ⟨gb164, 0, none⟩ = some (.slice Ao82 y171.length co82) := (blk_cell BK164.out 0).trans rfl; have hcz86_1 : w84.cell? ⟨gb164, 1, none⟩ = some (u165001) := (blk_cell BK164.out 1).trans rfl; have hcz86_2 : w84.cell? ⟨gb164, 2, none⟩ = some (.int .i64 x165002_1) := (blk_cell BK164.out 2).trans rfl; have hcz86_3 : w84.cell? ⟨gb164, 3, none⟩ = some (.int .i64 x165003_1) := (blk_cell BK164.out 3).trans rfl; have hfz86_0 := blk_frozen BK164.out 0; have hfz86_1 := blk_frozen BK164.out 1; have hfz86_2 := blk_frozen BK164.out 2; have hfz86_3 := blk_frozen BK164.out 3; have hcz87_0 : w84.cell? ⟨gb163, 0, none⟩ = some (.slice none 0 0) := (blk_cell BK163.out 0).trans rfl; have hcz87_1 : w84.cell? ⟨gb163, 1, none⟩ = some (.slice none 0 0) := (blk_cell BK163.out 1).trans rfl; have hcz87_2 : w84.cell? ⟨gb163, 2, none⟩ = some (.int .i64 x164002_1) := (blk_cell BK163.out 2).trans rfl; have hcz87_3 : w84.cell? ⟨gb163, 3, none⟩ = some (.int .i64 x164003_1) := (blk_cell BK163.out 3).trans rfl; have hfz87_0 := blk_frozen BK163.out 0; have hfz87_1 := blk_frozen BK163.out 1; have hfz87_2 := blk_frozen BK163.out 2; have hfz87_3 := blk_frozen BK163.out 3))
                                            refine bodyPost_ret (results_cell_row rfl _ _ gb163 28 #[.slice Ao82 y171.length co82, .slice Ao85 y174.length co85, .int .i64 x165002_1, .int .i64 x7_1] (0, 0) _ rfl (by (with_reducible repeat (first | refine blk_drewN ?_ _ | refine blk_drew ?_ | refine blk_alloc ?_ _)); refine blk_put (cs := #[.slice Ao82 y171.length co82, .slice Ao85 y174.length co85, .int .i64 x165002_1, .int .i64 x164003_1]) ?_ 3 _ rfl; (with_reducible repeat (first | refine blk_drewN ?_ _ | refine blk_drew ?_ | refine blk_alloc ?_ _)); refine blk_put (cs := #[.slice Ao82 y171.length co82, .slice Ao85 y174.length co85, .int .i64 x164002_1, .int .i64 x164003_1]) ?_ 2 _ rfl; (with_reducible repeat (first | refine blk_drewN ?_ _ | refine blk_drew ?_ | refine blk_alloc ?_ _)); refine blk_put (cs := #[.slice Ao82 y171.length co82, .slice none 0 0, .int .i64 x164002_1, .int .i64 x164003_1]) ?_ 1 _ rfl; (with_reducible repeat (first | refine blk_drewN ?_ _ | refine blk_drew ?_ | refine blk_alloc ?_ _)); refine blk_put (cs := #[.slice none 0 0, .slice none 0 0, .int .i64 x164002_1, .int .i64 x164003_1]) ?_ 0 _ rfl; (with_reducible repeat (first | refine blk_drewN ?_ _ | refine blk_drew ?_ | refine blk_alloc ?_ _)); refine blk_far ?_ NB163_164.out _; (with_reducible repeat (first | refine blk_drewN ?_ _ | refine blk_drew ?_ | refine blk_alloc ?_ _)); refine blk_far ?_ NB163_164.out _; (with_reducible repeat (first | refine blk_drewN ?_ _ | refine blk_drew ?_ | refine blk_alloc ?_ _)); exact BK163.out) Try.underlying28 rfl (by kernel_rfl)) rfl ?_
                                            exact ⟨_, _, by first | rfl | (simp [errW_none, errW_some] <;> rfl) | (simp only [← hji65, ← hji67]; first | rfl | (simp [errW_none, errW_some] <;> rfl)) | (simp [*, errW_none, errW_some] <;> rfl), by (with_reducible repeat (first | apply Kd.R_alloc | apply Kd.R_drewN | apply Kd.R_drew)); exact Kd.R_mono (Kd.R_far (p := ⟨gb163, 3, none⟩) (Kd.R_far (p := ⟨gb163, 2, none⟩) (Kd.R_far (p := ⟨gb163, 1, none⟩) (Kd.R_far (p := ⟨gb163, 0, none⟩) (Kd.R_far (p := ⟨gb164, 3, none⟩) (Kd.R_far (p := ⟨gb164, 1, none⟩) (Kd.R_types (Kd.R_types HO173.out BK164.out (by decide)) BK163.out (by decide)) (fun _ hk => hk.1.2) (.slice Ao85 y174.length co85)) (fun _ hk => hk.1.2) (.int .i64 x7_1)) (fun _ hk => hk.2) (.slice Ao82 y171.length co82)) (fun _ hk => hk.2) (.slice Ao85 y174.length co85)) (fun _ hk => hk.2) (.int .i64 x165002_1)) (fun _ hk => hk.2) (.int .i64 x7_1)) (fun _ hk => trivial), by (with_reducible repeat (first | apply Kd.R_alloc | apply Kd.R_drewN | apply Kd.R_drew)); exact Kd.R_mono (Kd.R_far (p := ⟨gb163, 3, none⟩) (Kd.R_far (p := ⟨gb163, 2, none⟩) (Kd.R_far (p := ⟨gb163, 1, none⟩) (Kd.R_far (p := ⟨gb163, 0, none⟩) (Kd.R_far (p := ⟨gb164, 3, none⟩) (Kd.R_far (p := ⟨gb164, 1, none⟩) (Kd.R_types (Kd.R_types HO176.out BK164.out (by decide)) BK163.out (by decide)) (fun _ hk => hk.1.2) (.slice Ao85 y174.length co85)) (fun _ hk => hk.1.2) (.int .i64 x7_1)) (fun _ hk => hk.2) (.slice Ao82 y171.length co82)) (fun _ hk => hk.2) (.slice Ao85 y174.length co85)) (fun _ hk => hk.2) (.int .i64 x165002_1)) (fun _ hk => hk.2) (.int .i64 x7_1)) (fun _ hk => trivial), by repeat (first | (with_reducible first | exact HB.out | apply below_alloc | apply pw_below_drewN | apply below_drew1 | refine below_set ?_ GE163.out | refine below_set ?_ GE164.out) | exact HB.out)⟩
                                        · rw [if_neg c69] at H
                                          exact absurd H (by simp)
                                      · rw [if_neg c68] at H
                                        exact absurd H (by simp)
                                    · rw [if_neg c66] at H
                                      exact absurd H (by simp)
                                  · rw [if_neg c64] at H
                                    have c64b0 : decide (0 < x4_1) = false := decide_eq_false c64
                                    clear c64
                                    by_cases c88 : x165002_1 = 0
                                    · rw [if_pos c88] at H
                                      have c88b0 : (x165002_1 == 0) = true := beq_iff_eq.mpr c88
                                      have c88b1 : (x165002_1 != 0) = false := bne_eq_false_iff_eq.mpr c88
                                      clear c88
                                      have H' := Aside0.mk H
                                      clear H
                                      have p170 : 0 ≤ (x7_1 : Int) := of_decide_eq_true (by first | (with_reducible assumption) | assumption)
                                      have q170 : x7_1 < (l0.length : Int) := of_decide_eq_true (by first | (with_reducible assumption) | assumption)
                                      obtain ⟨ad170, e170, hx170_0⟩ := Kd.at_int HR0.out x7_1 p170 q170
                                      obtain rfl : ad165 = ad170 := (by injection e170)
                                      replace hx170_0 := (HB.out.cell (World.block_lt_of_cell? w _ hx170_0)).trans hx170_0
                                      replace p170 := eq_true p170
                                      replace q170 := eq_true q170
                                      have hnb89 := NB164_163.out
                                      have hnc89 := NB163_164.out
                                      have hcz90_0 : wc.cell? ⟨gb164, 0, none⟩ = some (u165000) := (blk_cell BK164.out 0).trans rfl
                                      have hcz90_1 : wc.cell? ⟨gb164, 1, none⟩ = some (u165001) := (blk_cell BK164.out 1).trans rfl
                                      have hcz90_2 : wc.cell? ⟨gb164, 2, none⟩ = some (.int .i64 x165002_1) := (blk_cell BK164.out 2).trans rfl
                                      have hcz90_3 : wc.cell? ⟨gb164, 3, none⟩ = some (.int .i64 x165003_1) := (blk_cell BK164.out 3).trans rfl
                                      have hfz90_0 := blk_frozen BK164.out 0
                                      have hfz90_1 := blk_frozen BK164.out 1
                                      have hfz90_2 := blk_frozen BK164.out 2
                                      have hfz90_3 := blk_frozen BK164.out 3
                                      go_wp2
                                      go_roundg kj21
                                      case measure => have := HK1.out; have := HJ10.out; have := HJ21.out; omega
                                      case rel => exact ⟨(Int.tmod (wrap64 (x4_1 + 1)) 4), (x5_1), (wrap64 ((wrap64 ((Int.tmod x6_1 64) * 64)) + t168)), (wrap64 (x7_1 + 1)), (x164002_1), (x164003_1), (x165000_1), (x165001_1), (x165002_1), (x165003_1), (u165000), (u165001), (by first | rfl | (simp; done) | (simp [*]; done)), (by first | rfl | (simp; done) | (simp [*]; done)), (by first | rfl | (simp; done) | (simp [*]; done)), (by first | rfl | (simp; done) | (simp [*]; done)), H', ⟨by have := HK1.out; have := HJ10.out; have := HJ21.out; omega⟩, ⟨by (with_reducible repeat (first | apply Kd.R_alloc | apply Kd.R_drewN | apply Kd.R_drew)); exact HO_165000.out⟩, ⟨by (with_reducible repeat (first | apply Kd.R_alloc | apply Kd.R_drewN | apply Kd.R_drew)); exact HO_165001.out⟩, ⟨by (with_reducible repeat (first | refine blk_drewN ?_ _ | refine blk_drew ?_ | refine blk_alloc ?_ _)); exact BK163.out⟩, ⟨by (with_reducible repeat (first | refine blk_drewN ?_ _ | refine blk_drew ?_ | refine blk_alloc ?_ _)); exact BK164.out⟩, ⟨by repeat (first | (with_reducible first | exact HB.out | apply below_alloc | apply pw_below_drewN | apply below_drew1 | refine below_set ?_ GE163.out | refine below_set ?_ GE164.out) | exact HB.out)⟩⟩
                                    · rw [if_neg c88] at H
                                      have c88b0 : (x165002_1 == 0) = false := beq_eq_false_iff_ne.mpr c88
                                      have c88b1 : (x165002_1 != 0) = true := bne_iff_ne.mpr c88
                                      simp only [Option.some.injEq, Prod.mk.injEq] at H
                                      obtain ⟨rfl, rfl, rfl, rfl⟩ := H
                                      have p170 : 0 ≤ (x7_1 : Int) := of_decide_eq_true (by first | (with_reducible assumption) | assumption)
                                      have q170 : x7_1 < (l0.length : Int) := of_decide_eq_true (by first | (with_reducible assumption) | assumption)
                                      obtain ⟨ad170, e170, hx170_0⟩ := Kd.at_int HR0.out x7_1 p170 q170
                                      obtain rfl : ad165 = ad170 := (by injection e170)
                                      replace hx170_0 := (HB.out.cell (World.block_lt_of_cell? w _ hx170_0)).trans hx170_0
                                      replace p170 := eq_true p170
                                      replace q170 := eq_true q170
                                      have hnb91 := NB164_163.out
                                      have hnc91 := NB163_164.out
                                      have hcz92_0 : wc.cell? ⟨gb164, 0, none⟩ = some (u165000) := (blk_cell BK164.out 0).trans rfl
                                      have hcz92_1 : wc.cell? ⟨gb164, 1, none⟩ = some (u165001) := (blk_cell BK164.out 1).trans rfl
                                      have hcz92_2 : wc.cell? ⟨gb164, 2, none⟩ = some (.int .i64 x165002_1) := (blk_cell BK164.out 2).trans rfl
                                      have hcz92_3 : wc.cell? ⟨gb164, 3, none⟩ = some (.int .i64 x165003_1) := (blk_cell BK164.out 3).trans rfl
                                      have hfz92_0 := blk_frozen BK164.out 0
                                      have hfz92_1 := blk_frozen BK164.out 1
                                      have hfz92_2 := blk_frozen BK164.out 2
                                      have hfz92_3 := blk_frozen BK164.out 3
                                      obtain ⟨Ao93, co93, eo93⟩ := Kd.R_slice HO_165000.out
                                      subst eo93
                                      have hcz94_0 : wc.cell? ⟨gb163, 0, none⟩ = some (.slice none 0 0) := (blk_cell BK163.out 0).trans rfl
                                      have hcz94_1 : wc.cell? ⟨gb163, 1, none⟩ = some (.slice none 0 0) := (blk_cell BK163.out 1).trans rfl
                                      have hcz94_2 : wc.cell? ⟨gb163, 2, none⟩ = some (.int .i64 x164002_1) := (blk_cell BK163.out 2).trans rfl
                                      have hcz94_3 : wc.cell? ⟨gb163, 3, none⟩ = some (.int .i64 x164003_1) := (blk_cell BK163.out 3).trans rfl
                                      have hfz94_0 := blk_frozen BK163.out 0
                                      have hfz94_1 := blk_frozen BK163.out 1
                                      have hfz94_2 := blk_frozen BK163.out 2
                                      have hfz94_3 := blk_frozen BK163.out 3
                                      obtain ⟨Ao95, co95, eo95⟩ := Kd.R_slice HO_165001.out
                                      subst eo95
                                      go_wp2
                                      refine bodyPost_ret (results_cell_row rfl _ _ gb163 28 #[.slice Ao93 x165000_1.length co93, .slice Ao95 x165001_1.length co95, .int .i64 x165002_1, .int .i64 x7_1] (0, 0) _ rfl (by (with_reducible repeat (first | refine blk_drewN ?_ _ | refine blk_drew ?_ | refine blk_alloc ?_ _)); refine blk_put (cs := #[.slice Ao93 x165000_1.length co93, .slice Ao95 x165001_1.length co95, .int .i64 x165002_1, .int .i64 x164003_1]) ?_ 3 _ rfl; (with_reducible repeat (first | refine blk_drewN ?_ _ | refine blk_drew ?_ | refine blk_alloc ?_ _)); refine blk_put (cs := #[.slice Ao93 x165000_1.length co93, .slice Ao95 x165001_1.length co95, .int .i64 x164002_1, .int .i64 x164003_1]) ?_ 2 _ rfl; (with_reducible repeat (first | refine blk_drewN ?_ _ | refine blk_drew ?_ | refine blk_alloc ?_ _)); refine blk_put (cs := #[.slice Ao93 x165000_1.length co93, .slice none 0 0, .int .i64 x164002_1, .int .i64 x164003_1]) ?_ 1 _ rfl; (with_reducible repeat (first | refine blk_drewN ?_ _ | refine blk_drew ?_ | refine blk_alloc ?_ _)); refine blk_put (cs := #[.slice none 0 0, .slice none 0 0, .int .i64 x164002_1, .int .i64 x164003_1]) ?_ 0 _ rfl; (with_reducible repeat (first | refine blk_drewN ?_ _ | refine blk_drew ?_ | refine blk_alloc ?_ _)); refine blk_far ?_ NB163_164.out _; (with_reducible repeat (first | refine blk_drewN ?_ _ | refine blk_drew ?_ | refine blk_alloc ?_ _)); exact BK163.out) Try.underlying28 rfl (by kernel_rfl)) rfl ?_
                                      exact ⟨_, _, by first | rfl | (simp [errW_none, errW_some] <;> rfl) | (simp [*, errW_none, errW_some] <;> rfl), by (with_reducible repeat (first | apply Kd.R_alloc | apply Kd.R_drewN | apply Kd.R_drew)); exact Kd.R_mono (Kd.R_far (p := ⟨gb163, 3, none⟩) (Kd.R_far (p := ⟨gb163, 2, none⟩) (Kd.R_far (p := ⟨gb163, 1, none⟩) (Kd.R_far (p := ⟨gb163, 0, none⟩) (Kd.R_far (p := ⟨gb164, 3, none⟩) (Kd.R_types (Kd.R_types HO_165000.out BK164.out (by decide)) BK163.out (by decide)) (fun _ hk => hk.1.2) (.int .i64 x7_1)) (fun _ hk => hk.2) (.slice Ao93 x165000_1.length co93)) (fun _ hk => hk.2) (.slice Ao95 x165001_1.length co95)) (fun _ hk => hk.2) (.int .i64 x165002_1)) (fun _ hk => hk.2) (.int .i64 x7_1)) (fun _ hk => trivial), by (with_reducible repeat (first | apply Kd.R_alloc | apply Kd.R_drewN | apply Kd.R_drew)); exact Kd.R_mono (Kd.R_far (p := ⟨gb163, 3, none⟩) (Kd.R_far (p := ⟨gb163, 2, none⟩) (Kd.R_far (p := ⟨gb163, 1, none⟩) (Kd.R_far (p := ⟨gb163, 0, none⟩) (Kd.R_far (p := ⟨gb164, 3, none⟩) (Kd.R_types (Kd.R_types HO_165001.out BK164.out (by decide)) BK163.out (by decide)) (fun _ hk => hk.1.2) (.int .i64 x7_1)) (fun _ hk => hk.2) (.slice Ao93 x165000_1.length co93)) (fun _ hk => hk.2) (.slice Ao95 x165001_1.length co95)) (fun _ hk => hk.2) (.int .i64 x165002_1)) (fun _ hk => hk.2) (.int .i64 x7_1)) (fun _ hk => trivial), by repeat (first | (with_reducible first | exact HB.out | apply below_alloc | apply pw_below_drewN | apply below_drew1 | refine below_set ?_ GE163.out | refine below_set ?_ GE164.out) | exact HB.out)⟩
                          · rw [if_neg c36] at H
                            exact absurd H (by simp)
                        · rw [if_neg c35] at H
                          exact absurd H (by simp)
        · rw [if_neg c7] at H
          exact absurd H (by simp)
      · rw [if_neg c6] at H
        have c6b0 : decide (x7_1 < (l0.length : Int)) = false := decide_eq_false c6
        clear c6
        by_cases c96 : x4_1 = 0
        · rw [if_pos c96] at H
          have c96b0 : (x4_1 == 0) = true := beq_iff_eq.mpr c96
          have c96b1 : (x4_1 != 0) = false := bne_eq_false_iff_eq.mpr c96
          clear c96
          simp only [Option.some.injEq, Prod.mk.injEq] at H
          obtain ⟨rfl, rfl, rfl, rfl⟩ := H
          have hnb97 := NB164_163.out
          have hnc97 := NB163_164.out
          have hcz98_0 : wr.cell? ⟨gb164, 0, none⟩ = some (u165000) := (blk_cell BK164.out 0).trans rfl
          have hcz98_1 : wr.cell? ⟨gb164, 1, none⟩ = some (u165001) := (blk_cell BK164.out 1).trans rfl
          have hcz98_2 : wr.cell? ⟨gb164, 2, none⟩ = some (.int .i64 x165002_1) := (blk_cell BK164.out 2).trans rfl
          have hcz98_3 : wr.cell? ⟨gb164, 3, none⟩ = some (.int .i64 x165003_1) := (blk_cell BK164.out 3).trans rfl
          have hfz98_0 := blk_frozen BK164.out 0
          have hfz98_1 := blk_frozen BK164.out 1
          have hfz98_2 := blk_frozen BK164.out 2
          have hfz98_3 := blk_frozen BK164.out 3
          obtain ⟨Ao99, co99, eo99⟩ := Kd.R_slice HO_165000.out
          subst eo99
          have hcz100_0 : wr.cell? ⟨gb163, 0, none⟩ = some (.slice none 0 0) := (blk_cell BK163.out 0).trans rfl
          have hcz100_1 : wr.cell? ⟨gb163, 1, none⟩ = some (.slice none 0 0) := (blk_cell BK163.out 1).trans rfl
          have hcz100_2 : wr.cell? ⟨gb163, 2, none⟩ = some (.int .i64 x164002_1) := (blk_cell BK163.out 2).trans rfl
          have hcz100_3 : wr.cell? ⟨gb163, 3, none⟩ = some (.int .i64 x164003_1) := (blk_cell BK163.out 3).trans rfl
          have hfz100_0 := blk_frozen BK163.out 0
          have hfz100_1 := blk_frozen BK163.out 1
          have hfz100_2 := blk_frozen BK163.out 2
          have hfz100_3 := blk_frozen BK163.out 3
          obtain ⟨Ao101, co101, eo101⟩ := Kd.R_slice HO_165001.out
          subst eo101
          go_wp2
          refine bodyPost_ret (results_cell_row rfl _ _ gb163 28 #[.slice Ao99 x165000_1.length co99, .slice Ao101 x165001_1.length co101, .int .i64 x165002_1, .int .i64 x165003_1] (0, 0) _ rfl (by (with_reducible repeat (first | refine blk_drewN ?_ _ | refine blk_drew ?_ | refine blk_alloc ?_ _)); refine blk_put (cs := #[.slice Ao99 x165000_1.length co99, .slice Ao101 x165001_1.length co101, .int .i64 x165002_1, .int .i64 x164003_1]) ?_ 3 _ rfl; (with_reducible repeat (first | refine blk_drewN ?_ _ | refine blk_drew ?_ | refine blk_alloc ?_ _)); refine blk_put (cs := #[.slice Ao99 x165000_1.length co99, .slice Ao101 x165001_1.length co101, .int .i64 x164002_1, .int .i64 x164003_1]) ?_ 2 _ rfl; (with_reducible repeat (first | refine blk_drewN ?_ _ | refine blk_drew ?_ | refine blk_alloc ?_ _)); refine blk_put (cs := #[.slice Ao99 x165000_1.length co99, .slice none 0 0, .int .i64 x164002_1, .int .i64 x164003_1]) ?_ 1 _ rfl; (with_reducible repeat (first | refine blk_drewN ?_ _ | refine blk_drew ?_ | refine blk_alloc ?_ _)); refine blk_put (cs := #[.slice none 0 0, .slice none 0 0, .int .i64 x164002_1, .int .i64 x164003_1]) ?_ 0 _ rfl; (with_reducible repeat (first | refine blk_drewN ?_ _ | refine blk_drew ?_ | refine blk_alloc ?_ _)); exact BK163.out) Try.underlying28 rfl (by kernel_rfl)) rfl ?_
          exact ⟨_, _, by first | rfl | (simp [errW_none, errW_some] <;> rfl) | (simp [*, errW_none, errW_some] <;> rfl), by (with_reducible repeat (first | apply Kd.R_alloc | apply Kd.R_drewN | apply Kd.R_drew)); exact Kd.R_mono (Kd.R_far (p := ⟨gb163, 3, none⟩) (Kd.R_far (p := ⟨gb163, 2, none⟩) (Kd.R_far (p := ⟨gb163, 1, none⟩) (Kd.R_far (p := ⟨gb163, 0, none⟩) (Kd.R_types HO_165000.out BK163.out (by decide)) (fun _ hk => hk.2) (.slice Ao99 x165000_1.length co99)) (fun _ hk => hk.2) (.slice Ao101 x165001_1.length co101)) (fun _ hk => hk.2) (.int .i64 x165002_1)) (fun _ hk => hk.2) (.int .i64 x165003_1)) (fun _ hk => trivial), by (with_reducible repeat (first | apply Kd.R_alloc | apply Kd.R_drewN | apply Kd.R_drew)); exact Kd.R_mono (Kd.R_far (p := ⟨gb163, 3, none⟩) (Kd.R_far (p := ⟨gb163, 2, none⟩) (Kd.R_far (p := ⟨gb163, 1, none⟩) (Kd.R_far (p := ⟨gb163, 0, none⟩) (Kd.R_types HO_165001.out BK163.out (by decide)) (fun _ hk => hk.2) (.slice Ao99 x165000_1.length co99)) (fun _ hk => hk.2) (.slice Ao101 x165001_1.length co101)) (fun _ hk => hk.2) (.int .i64 x165002_1)) (fun _ hk => hk.2) (.int .i64 x165003_1)) (fun _ hk => trivial), by repeat (first | (with_reducible first | exact HB.out | apply below_alloc | apply pw_below_drewN | apply below_drew1 | refine below_set ?_ GE163.out | refine below_set ?_ GE164.out) | exact HB.out)⟩
        · rw [if_neg c96] at H
          have c96b0 : (x4_1 == 0) = false := beq_eq_false_iff_ne.mpr c96
          have c96b1 : (x4_1 != 0) = true := bne_iff_ne.mpr c96
          simp only [Option.some.injEq, Prod.mk.injEq] at H
          obtain ⟨rfl, rfl, rfl, rfl⟩ := H
          have hnb102 := NB164_163.out
          have hnc102 := NB163_164.out
          have hcz103_0 : wr.cell? ⟨gb164, 0, none⟩ = some (u165000) := (blk_cell BK164.out 0).trans rfl
          have hcz103_1 : wr.cell? ⟨gb164, 1, none⟩ = some (u165001) := (blk_cell BK164.out 1).trans rfl
          have hcz103_2 : wr.cell? ⟨gb164, 2, none⟩ = some (.int .i64 x165002_1) := (blk_cell BK164.out 2).trans rfl
          have hcz103_3 : wr.cell? ⟨gb164, 3, none⟩ = some (.int .i64 x165003_1) := (blk_cell BK164.out 3).trans rfl
          have hfz103_0 := blk_frozen BK164.out 0
          have hfz103_1 := blk_frozen BK164.out 1
          have hfz103_2 := blk_frozen BK164.out 2
          have hfz103_3 := blk_frozen BK164.out 3
          obtain ⟨Ao104, co104, eo104⟩ := Kd.R_slice HO_165000.out
          subst eo104
          have hcz105_0 : wr.cell? ⟨gb163, 0, none⟩ = some (.slice none 0 0) := (blk_cell BK163.out 0).trans rfl
          have hcz105_1 : wr.cell? ⟨gb163, 1, none⟩ = some (.slice none 0 0) := (blk_cell BK163.out 1).trans rfl
          have hcz105_2 : wr.cell? ⟨gb163, 2, none⟩ = some (.int .i64 x164002_1) := (blk_cell BK163.out 2).trans rfl
          have hcz105_3 : wr.cell? ⟨gb163, 3, none⟩ = some (.int .i64 x164003_1) := (blk_cell BK163.out 3).trans rfl
          have hfz105_0 := blk_frozen BK163.out 0
          have hfz105_1 := blk_frozen BK163.out 1
          have hfz105_2 := blk_frozen BK163.out 2
          have hfz105_3 := blk_frozen BK163.out 3
          obtain ⟨Ao106, co106, eo106⟩ := Kd.R_slice HO_165001.out
          subst eo106
          go_wp2
          refine bodyPost_ret (results_cell_row rfl _ _ gb163 28 #[.slice Ao104 x165000_1.length co104, .slice Ao106 x165001_1.length co106, .int .i64 1, .int .i64 x165003_1] (0, 0) _ rfl (by (with_reducible repeat (first | refine blk_drewN ?_ _ | refine blk_drew ?_ | refine blk_alloc ?_ _)); refine blk_put (cs := #[.slice Ao104 x165000_1.length co104, .slice Ao106 x165001_1.length co106, .int .i64 1, .int .i64 x164003_1]) ?_ 3 _ rfl; (with_reducible repeat (first | refine blk_drewN ?_ _ | refine blk_drew ?_ | refine blk_alloc ?_ _)); refine blk_put (cs := #[.slice Ao104 x165000_1.length co104, .slice Ao106 x165001_1.length co106, .int .i64 x164002_1, .int .i64 x164003_1]) ?_ 2 _ rfl; (with_reducible repeat (first | refine blk_drewN ?_ _ | refine blk_drew ?_ | refine blk_alloc ?_ _)); refine blk_put (cs := #[.slice Ao104 x165000_1.length co104, .slice none 0 0, .int .i64 x164002_1, .int .i64 x164003_1]) ?_ 1 _ rfl; (with_reducible repeat (first | refine blk_drewN ?_ _ | refine blk_drew ?_ | refine blk_alloc ?_ _)); refine blk_put (cs := #[.slice none 0 0, .slice none 0 0, .int .i64 x164002_1, .int .i64 x164003_1]) ?_ 0 _ rfl; (with_reducible repeat (first | refine blk_drewN ?_ _ | refine blk_drew ?_ | refine blk_alloc ?_ _)); refine blk_far ?_ NB163_164.out _; (with_reducible repeat (first | refine blk_drewN ?_ _ | refine blk_drew ?_ | refine blk_alloc ?_ _)); exact BK163.out) Try.underlying28 rfl (by kernel_rfl)) rfl ?_
          exact ⟨_, _, by first | rfl | (simp [errW_none, errW_some] <;> rfl) | (simp [*, errW_none, errW_some] <;> rfl), by (with_reducible repeat (first | apply Kd.R_alloc | apply Kd.R_drewN | apply Kd.R_drew)); exact Kd.R_mono (Kd.R_far (p := ⟨gb163, 3, none⟩) (Kd.R_far (p := ⟨gb163, 2, none⟩) (Kd.R_far (p := ⟨gb163, 1, none⟩) (Kd.R_far (p := ⟨gb163, 0, none⟩) (Kd.R_far (p := ⟨gb164, 2, none⟩) (Kd.R_types (Kd.R_types HO_165000.out BK164.out (by decide)) BK163.out (by decide)) (fun _ hk => hk.1.2) (.int .i64 1)) (fun _ hk => hk.2) (.slice Ao104 x165000_1.length co104)) (fun _ hk => hk.2) (.slice Ao106 x165001_1.length co106)) (fun _ hk => hk.2) (.int .i64 1)) (fun _ hk => hk.2) (.int .i64 x165003_1)) (fun _ hk => trivial), by (with_reducible repeat (first | apply Kd.R_alloc | apply Kd.R_drewN | apply Kd.R_drew)); exact Kd.R_mono (Kd.R_far (p := ⟨gb163, 3, none⟩) (Kd.R_far (p := ⟨gb163, 2, none⟩) (Kd.R_far (p := ⟨gb163, 1, none⟩) (Kd.R_far (p := ⟨gb163, 0, none⟩) (Kd.R_far (p := ⟨gb164, 2, none⟩) (Kd.R_types (Kd.R_types HO_165001.out BK164.out (by decide)) BK163.out (by decide)) (fun _ hk => hk.1.2) (.int .i64 1)) (fun _ hk => hk.2) (.slice Ao104 x165000_1.length co104)) (fun _ hk => hk.2) (.slice Ao106 x165001_1.length co106)) (fun _ hk => hk.2) (.int .i64 1)) (fun _ hk => hk.2) (.int .i64 x165003_1)) (fun _ hk => trivial), by repeat (first | (with_reducible first | exact HB.out | apply below_alloc | apply pw_below_drewN | apply below_drew1 | refine below_set ?_ GE163.out | refine below_set ?_ GE164.out) | exact HB.out)⟩

end Go.Proofs.Ytgapacibhagicaa.PAll
