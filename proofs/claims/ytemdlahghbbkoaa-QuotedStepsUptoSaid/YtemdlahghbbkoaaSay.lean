/- The document's run: what is said, and when; its methods say and stop. -/
import Derived.Test.YtemdlahghbbkoaaOwn
import Derived.Test.YtemdlahghbbkoaaDrain
import Derived.Test.YtemdlahghbbkoaaPAllx1
namespace Go.Proofs.Ytemdlahghbbkoaa.PAll
open Go.RowKit Go.Proofs.YtemdlahghbbkoaaW.PrintWords Go.Proofs.YtemdlahghbbkoaaW.PrintLast Go.Proofs.YtemdlahghbbkoaaW.PrintMore
attribute [local go_sem] max2_int min2_int max_two min_two max_three min_three max_four min_four   -- for this text's walks alone
set_option linter.unusedVariables false
set_option linter.unusedSimpArgs false
theorem info3' : (Try.prog.info? 3).map (fun i => (i.zero, i.size, i.bytes)) = some (some (.int .i64 0), 1, 8) := by kernel_rfl
/-- a run in memory. -/
def RNv (w W : World) (g : Nat) (v0 v1 : Value) (out times : List Int) (why at_ : Int) : Prop :=
  W.heap[g]? = some (.cells #[v0, v1, .int .i64 why, .int .i64 at_] 28 (0, 0)) ∧ w.heap.size ≤ g ∧ W.ownsRow w.heap.size 5 1 v0 out.length (encs (Value.int .u8) out) ∧ W.ownsRow w.heap.size 3 1 v1 times.length (encs (Value.int .i64) times) ∧ Below w.heap.size w W
def RN (w W : World) (g : Nat) (out times : List Int) (why at_ : Int) : Prop := ∃ v0 v1, RNv w W g v0 v1 out times why at_
section
variable {w W W' : World} {g : Nat} {v0 v1 : Value} {out times : List Int} {why at_ : Int}
theorem rn_c0 (h : Aside0 (RNv w W g v0 v1 out times why at_)) : W.cell? ⟨g, 0, none⟩ = some v0 := (blk_cell h.out.1 0).trans rfl
theorem rn_c1 (h : Aside0 (RNv w W g v0 v1 out times why at_)) : W.cell? ⟨g, 1, none⟩ = some v1 := (blk_cell h.out.1 1).trans rfl
theorem rn_c2 (h : Aside0 (RNv w W g v0 v1 out times why at_)) : W.cell? ⟨g, 2, none⟩ = some (.int .i64 why) := (blk_cell h.out.1 2).trans rfl
theorem rn_c3 (h : Aside0 (RNv w W g v0 v1 out times why at_)) : W.cell? ⟨g, 3, none⟩ = some (.int .i64 at_) := (blk_cell h.out.1 3).trans rfl
theorem rn_f (h : Aside0 (RNv w W g v0 v1 out times why at_)) (i : Nat) : W.frozen? ⟨g, i, none⟩ = false := blk_frozen h.out.1 i
theorem rnc2 (h : Aside0 (RN w W g out times why at_)) : W.cell? ⟨g, 2, none⟩ = some (.int .i64 why) := by obtain ⟨v0, v1, h⟩ := h.out; exact rn_c2 ⟨h⟩
theorem rn_below (h : RNv w W g v0 v1 out times why at_) (hb : Below W.heap.size W W') : RNv w W' g v0 v1 out times why at_ :=
  ⟨Own.below_blk h.1 hb, h.2.1, Own.own_below h.2.2.1 hb, Own.own_below h.2.2.2.1 hb, below_step h.2.2.2.2 hb⟩
theorem rn_belowE (h : RN w W g out times why at_) (hb : Below W.heap.size W W') : RN w W' g out times why at_ := by obtain ⟨v0, v1, h⟩ := h; exact ⟨v0, v1, rn_below h hb⟩
theorem rn_s2 (h : Aside0 (RNv w W g v0 v1 out times why at_)) (x : Int) : Aside0 (RNv w (W.setCell ⟨g, 2, none⟩ (.int .i64 x)) g v0 v1 out times x at_) :=
  ⟨blk_put h.out.1 2 _ rfl, h.out.2.1, own_setCell h.out.2.2.1 (own_ne h.out.2.2.1 h.out.1 (by decide)) _, own_setCell h.out.2.2.2.1 (own_ne h.out.2.2.2.1 h.out.1 (by decide)) _, h.out.2.2.2.2.setCell h.out.2.1 _⟩
theorem rn_s3 (h : Aside0 (RNv w W g v0 v1 out times why at_)) (x : Int) : Aside0 (RNv w (W.setCell ⟨g, 3, none⟩ (.int .i64 x)) g v0 v1 out times why x) :=
  ⟨blk_put h.out.1 3 _ rfl, h.out.2.1, own_setCell h.out.2.2.1 (own_ne h.out.2.2.1 h.out.1 (by decide)) _, own_setCell h.out.2.2.2.1 (own_ne h.out.2.2.2.1 h.out.1 (by decide)) _, h.out.2.2.2.2.setCell h.out.2.1 _⟩
theorem lit_i64 (W : World) (x : Int) : ReadsOf (Value.int .i64) (0 : Int) (W.alloc (.cells #[.int .i64 x] 3)) (some ⟨W.heap.size, 0, none⟩) 1 [x] := by
  refine ⟨rfl, by omega, fun _ => ⟨_, rfl, fun j hj => ?_⟩⟩
  obtain rfl : j = 0 := by omega
  have hA : (⟨W.heap.size, 0, none⟩ : Addr).add 0 = ⟨W.heap.size, 0, none⟩ := Addr.add_mid W.heap.size 0 0
  rw [hA, blk_cell (heap_alloc_new W _)]
  rfl
/-- out is one more: ahead of the store, and behind it. -/
theorem rn_g0 {b : Int} {w1 : World} (h : Aside0 (RNv w W g v0 v1 out times why at_)) (hg : (W.alloc (.cells #[.int .u8 b] 5)).grownBy w1 v0.ownBlock) : w1.heap[g]? = some (.cells #[v0, v1, .int .i64 why, .int .i64 at_] 28 (0, 0)) := by
  have hb := rn_below h.out (below_alloc (Below.refl W.heap.size W) (.cells #[.int .u8 b] 5))
  exact Own.grown_blk hb.2.2.1 hg hb.1 (by decide)
theorem rn_ga {b : Int} {w1 : World} (h : Aside0 (RNv w W g v0 v1 out times why at_)) (hg : (W.alloc (.cells #[.int .u8 b] 5)).grownBy w1 v0.ownBlock) : w1.cell? ⟨g, 0, none⟩ = some v0 := (blk_cell (rn_g0 h hg) 0).trans rfl
theorem rn_gc {b : Int} {w1 : World} (h : Aside0 (RNv w W g v0 v1 out times why at_)) (hg : (W.alloc (.cells #[.int .u8 b] 5)).grownBy w1 v0.ownBlock) : w1.cell? ⟨g, 1, none⟩ = some v1 := (blk_cell (rn_g0 h hg) 1).trans rfl
theorem lit_i64' (W : World) (x : Int) {k : Nat} (hk : W.heap.size = k) : ReadsOf (Value.int .i64) (0 : Int) (W.alloc (.cells #[.int .i64 x] 3)) (some ⟨k, 0, none⟩) 1 [x] := by subst hk; exact lit_i64 W x
theorem rn_app0 {b : Int} {v : Value} {w1 : World} (h : Aside0 (RNv w W g v0 v1 out times why at_)) (hown : w1.ownsRow w.heap.size 5 1 v (out ++ [b]).length (encs (Value.int .u8) (out ++ [b]))) (hg : (W.alloc (.cells #[.int .u8 b] 5)).grownBy w1 v0.ownBlock) :
    RNv w (w1.setCell ⟨g, 0, none⟩ v) g v v1 (out ++ [b]) times why at_ := by
  have hb := rn_below h.out (below_alloc (Below.refl W.heap.size W) (.cells #[.int .u8 b] 5))
  have hG := rn_g0 h hg
  have hT := own_other hb.2.2.2.1 hg (own_type_ne hb.2.2.2.1 hb.2.2.1 (by decide))
  have hB := hb.2.2.2.2.grown hg hb.2.2.2.2.size (own_base hb.2.2.1)
  exact ⟨blk_put hG 0 _ rfl, hb.2.1, own_setCell hown (own_ne hown hG (by decide)) _, own_setCell hT (own_ne hT hG (by decide)) _, hB.setCell hb.2.1 _⟩
theorem rn_g1 {b : Int} {w1 : World} (h : Aside0 (RNv w W g v0 v1 out times why at_)) (hg : (W.alloc (.cells #[.int .i64 b] 3)).grownBy w1 v1.ownBlock) : w1.heap[g]? = some (.cells #[v0, v1, .int .i64 why, .int .i64 at_] 28 (0, 0)) := by
  have hb := rn_below h.out (below_alloc (Below.refl W.heap.size W) (.cells #[.int .i64 b] 3))
  exact Own.grown_blk hb.2.2.2.1 hg hb.1 (by decide)
theorem rn_gb {b : Int} {w1 : World} (h : Aside0 (RNv w W g v0 v1 out times why at_)) (hg : (W.alloc (.cells #[.int .i64 b] 3)).grownBy w1 v1.ownBlock) : w1.cell? ⟨g, 1, none⟩ = some v1 := (blk_cell (rn_g1 h hg) 1).trans rfl
theorem rn_app1 {b : Int} {v : Value} {w1 : World} (h : Aside0 (RNv w W g v0 v1 out times why at_)) (hown : w1.ownsRow w.heap.size 3 1 v (times ++ [b]).length (encs (Value.int .i64) (times ++ [b]))) (hg : (W.alloc (.cells #[.int .i64 b] 3)).grownBy w1 v1.ownBlock) :
    RNv w (w1.setCell ⟨g, 1, none⟩ v) g v0 v out (times ++ [b]) why at_ := by
  have hb := rn_below h.out (below_alloc (Below.refl W.heap.size W) (.cells #[.int .i64 b] 3))
  have hG := rn_g1 h hg
  have hT := own_other hb.2.2.1 hg (own_type_ne hb.2.2.1 hb.2.2.2.1 (by decide))
  have hB := hb.2.2.2.2.grown hg hb.2.2.2.2.size (own_base hb.2.2.2.1)
  exact ⟨blk_put hG 1 _ rfl, hb.2.1, own_setCell hT (own_ne hT hG (by decide)) _, own_setCell hown (own_ne hown hG (by decide)) _, hB.setCell hb.2.1 _⟩
set_option maxHeartbeats 8000000 in
set_option maxRecDepth 100000 in
theorem rn_say (b t : Int) (h : Aside0 (RN w W g out times why at_)) (hl : Aside0 (out.length + 1 ≤ 1048576 * 1048576 ∧ times.length + 1 ≤ 1048576 * 1048576)) :
    Calls Try.prog 25 #[.pointer (some ⟨g, 0, none⟩), .int .u8 b, .int .i64 t] W fun e W' => e = .returned (.tuple #[]) ∧ RN w W' g (out ++ [b]) (times ++ [t]) why at_ := by
  obtain ⟨v0, v1, hv⟩ := h.out
  have HV := Aside0.mk hv
  have hc := rn_c0 HV
  have HL0 := Aside0.mk (show (out.length + [b].length) * 1 ≤ 140737488355328 by have := hl.out; simp; omega)
  have HL1 := Aside0.mk (show (times.length + [t].length) * 8 ≤ 140737488355328 by have := hl.out; simp; omega)
  have HB0 := Aside0.mk (rn_below hv (below_alloc (Below.refl W.heap.size W) (.cells #[.int .u8 b] 5)))
  clear h hv
  have hls : (out ++ [b]).length = out.length + 1 := by simp
  have HLS := Aside0.mk hls
  clear hls
  go_enter Try.func25, Try.ntmps25
  go_wp2_with (first
    | (at_builtin; refine Own.app_rows (W := W.alloc (.cells #[.int .u8 b] 5)) (enc := Value.int .u8) (fun _ => rfl) 0 w.heap.size rfl (.tmp 10) (.tmp 12) 22 5 (.int .u8 0) 1 rfl Try.underlying22 info5' rfl (by decide) v0 out [b] (some ⟨W.heap.size, 0, none⟩) 1 1 rfl rfl rfl HB0.out.2.2.1 (lit_one W b) HB0.out.2.2.2.2.size HL0.out ?_; intro v2 w2 hown hgrow hat; obtain ⟨A5, c5, hv2⟩ := own_slice hown; rw [HLS.out] at hv2; subst hv2; have HW := Aside0.mk (rn_app0 HV hown hgrow); have hca := rn_ga HV hgrow; have hcb := rn_gc HV hgrow; have hfa := blk_frozen (rn_g0 HV hgrow) 0; have hfb := blk_frozen (rn_g0 HV hgrow) 1; have HB1 := Aside0.mk (rn_below HW.out (below_alloc (Below.refl (w2.setCell ⟨g, 0, none⟩ (.slice A5 (out.length + 1) c5)).heap.size (w2.setCell ⟨g, 0, none⟩ (.slice A5 (out.length + 1) c5))) (.cells #[.int .i64 t] 3))); clear hown hgrow hat HB0 HV hc)
    | (at_builtin; refine Own.app_rows (W := (w2.setCell ⟨g, 0, none⟩ (.slice A5 (out.length + 1) c5)).alloc (.cells #[.int .i64 t] 3)) (enc := Value.int .i64) (fun _ => rfl) 0 w.heap.size rfl (.tmp 20) (.tmp 22) 26 3 (.int .i64 0) 8 rfl Try.underlying26 info3' rfl (by decide) v1 times [t] (some ⟨w2.heap.size, 0, none⟩) 1 1 rfl rfl rfl HB1.out.2.2.2.1 (lit_i64' _ t (by simp)) HB1.out.2.2.2.2.size HL1.out ?_; intro v2 w4 hown hgrow hat; obtain ⟨A6, c6, rfl⟩ := own_slice hown; have HW4 := Aside0.mk (rn_app1 HW hown hgrow); have hcc := rn_gb HW hgrow; have hfc := blk_frozen (rn_g1 HW hgrow) 1; clear hown hgrow hat HB1 HW hca hcb hfa hfb))
  go_end0
  exact ⟨rfl, by have := HW4.out; rw [show (times ++ [t]).length = times.length + 1 by simp] at this; exact ⟨_, _, this⟩⟩
set_option maxHeartbeats 8000000 in
set_option maxRecDepth 100000 in
theorem rn_stop (x t : Int) (h : Aside0 (RN w W g out times why at_)) :
    Calls Try.prog 38 #[.pointer (some ⟨g, 0, none⟩), .int .i64 x, .int .i64 t] W fun e W' => e = .returned (.tuple #[]) ∧ RN w W' g out times x t := by
  obtain ⟨v0, v1, hv⟩ := h.out
  have HV := Aside0.mk hv
  have hc2 := rn_c2 HV
  have hf2 := rn_f HV 2
  have HV2 := rn_s2 HV x
  have hc3 := rn_c3 HV2
  have hf3 := rn_f HV2 3
  have HV3 := rn_s3 HV2 t
  clear h hv HV HV2
  go_enter Try.func38, Try.ntmps38
  go_wp2
  go_end0
  exact ⟨rfl, _, _, HV3.out⟩
end
end Go.Proofs.Ytemdlahghbbkoaa.PAll
