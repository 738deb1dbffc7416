/- The document's window: a size and a queue of bytes. -/
import Derived.Test.YtcpijkckjahfdaaRep
namespace Go.Proofs.Ytcpijkckjahfdaa.PAll
open Go.RowKit Go.Proofs.YtcpijkckjahfdaaW.PrintWords Go.Proofs.YtcpijkckjahfdaaW.PrintLast Go.Proofs.YtcpijkckjahfdaaW.PrintMore
attribute [local go_sem] max2_int min2_int max_two min_two max_three min_three max_four min_four   -- for this text's walks alone
set_option linter.unusedVariables false
set_option linter.unusedSimpArgs false
def RQ (w W : World) (gq N : Nat) (ok : Nat → Prop) (q : List Int) : Prop :=
  ∃ v, W.heap[gq]? = some (.cells #[.int .i64 (N : Int), v] 48 (0, 0)) ∧ w.heap.size ≤ gq ∧ (Kd.int .u8).Q 5 W w.heap.size ok v q ∧ Below w.heap.size w W
theorem info5q : (Try.prog.info? 5).map (fun i => (i.zero, i.size, i.bytes)) = some (some (.int .u8 0), 1, 1) := by kernel_rfl
section
variable {w W W' : World} {gq N : Nat} {ok ok' : Nat → Prop} {q : List Int}
theorem rq_mono (h : RQ w W gq N ok q) (hok : ∀ k, ok k → ok' k) : RQ w W gq N ok' q := by
  obtain ⟨v, h1, h2, h3, h4⟩ := h
  exact ⟨v, h1, h2, Kd.Q_mono h3 hok, h4⟩
theorem rq_bound (h : RQ w W gq N ok q) : RQ w W gq N (fun k => ok k ∧ k < W.heap.size) q := by
  obtain ⟨v, h1, h2, h3, h4⟩ := h
  exact ⟨v, h1, h2, Kd.Q_mono (Kd.Q_bound h3) (fun k hk => ⟨hk.1, hk.2.2.1⟩), h4⟩
/-- what leaves the queue's blocks as they were leaves the window as it was. -/
theorem rq_kept (h : RQ w W gq N ok q) {S : Nat → Prop} (hk : Kept W W' S) (h0 : ¬ S gq) (hs : ∀ k, ok k → ¬ S k) (hB : Below w.heap.size w W') : RQ w W' gq N ok q := by
  obtain ⟨v, h1, h2, h3, h4⟩ := h
  exact ⟨v, blk_kept h1 hk h0, h2, Kd.Q_kept h3 hk hs, hB⟩
theorem rq_below (h : RQ w W gq N ok q) (hb : Below W.heap.size W W') : RQ w W' gq N ok q := by
  obtain ⟨v, h1, h2, h3, h4⟩ := h
  exact ⟨v, blk_below h1 hb, h2, Kd.Q_below h3 hb, below_step h4 hb⟩
theorem rq_cells (h : RQ w W gq N ok q) : ∃ A c, W.cell? ⟨gq, 0, none⟩ = some (.int .i64 (N : Int)) ∧ W.cell? ⟨gq, 1, none⟩ = some (.slice A q.length c) ∧ q.length ≤ c ∧ (Kd.int .u8).C W A q.length q ∧ W.frozen? ⟨gq, 1, none⟩ = false := by
  obtain ⟨v, h1, h2, h3, h4⟩ := h
  obtain ⟨A, c, rfl, hc, hC⟩ := Kd.Q_reads h3
  exact ⟨A, c, (blk_cell h1 0).trans rfl, (blk_cell h1 1).trans rfl, hc, hC, blk_frozen h1 1⟩
theorem rq_set {v v' : Value} {q' : List Int} (h1 : W.heap[gq]? = some (.cells #[.int .i64 (N : Int), v] 48 (0, 0))) (h2 : w.heap.size ≤ gq) (h3 : (Kd.int .u8).Q 5 W w.heap.size ok v' q') (h4 : Below w.heap.size w W) :
    RQ w (W.setCell ⟨gq, 1, none⟩ v') gq N ok q' :=
  ⟨v', blk_put h1 1 v' rfl, h2, Kd.Q_set h3 h1 (by intro t ht; simp [Kd.int, Kd.scalar] at ht; omega) 1 v', h4.setCell h2 _⟩
theorem rq_far {b : Nat} {v v0 : Value} (h1 : W.heap[gq]? = some (.cells #[v0, v] 48 (0, 0))) (h : (Kd.int .u8).Q 5 W b ok v q) (hg : W.grownBy W' v.ownBlock) : W'.heap[gq]? = some (.cells #[v0, v] 48 (0, 0)) := by
  rw [hg.block gq (blk_lt h1) (fun e => ?_)]; · exact h1
  obtain ⟨h2, inner, h3, h4⟩ := h
  obtain ⟨_, cells, hc⟩ := q_typed h3 gq e.symm
  rw [h1] at hc
  simp at hc
theorem kept_grown {v : Value} (hg : W.grownBy W' v.ownBlock) (hv : ∀ k, v.ownBlock = some k → ok k) : Kept W W' (fun k => k = gq ∨ ok k) :=
  ⟨hg.size, fun i hi hn => hg.block i hi (fun e => hn (.inr (hv i e.symm)))⟩
theorem kept_set {S : Nat → Prop} (h : Kept W W' S) (hS : S gq) (i : Nat) (u : Value) : Kept W (W'.setCell ⟨gq, i, none⟩ u) S :=
  ⟨by simpa using h.1, fun j hj hn => by rw [Below.heap_setCell W' ⟨gq, i, none⟩ u j (by show j ≠ gq; intro e; exact hn (e ▸ hS))]; exact h.2 j hj hn⟩
theorem rq_cut {b n : Nat} {A : Option Addr} {c : Nat} (hQ : (Kd.int .u8).Q 5 W b ok (.slice A (n + 1) c) q) : ∃ A2 c2, (∀ W : World, (Instr.slice 22 (.slice A (n + 1) c) (some (.int .i64 1)) none none).run Try.prog W = .ok (.slice A2 n c2) W) ∧ (Kd.int .u8).Q 5 W b ok (.slice A2 n c2) (q.drop 1) := by
  obtain ⟨i0, hi0, _, hsz, _⟩ := info_parts info5q
  have hcut := cut_from (P := Try.prog) 22 5 .i64 Try.underlying22 hi0 1 hsz A (n + 1) c 1 (by omega) (by omega)
  have hr := Kd.Q_drop (k := 1) hQ (by have := (Kd.Q_reads' hQ).1; omega)
  exact ⟨_, _, hcut, hr⟩
theorem blk_c {t g i : Nat} {v : Value} {cs : Array Value} (h : W.heap[g]? = some (.cells cs t (0, 0))) (hv : cs[i]? = some v) : W.cell? ⟨g, i, none⟩ = some v := (blk_cell h i).trans hv
theorem kept_drew {S : Nat → Prop} (h : Kept W W' S) : Kept W W'.drew S := h
end
set_option maxHeartbeats 8000000 in
set_option maxRecDepth 100000 in
theorem rq_put {w W : World} {gq N : Nat} {ok : Nat → Prop} {q : List Int} (x : Int) (h : Aside0 (RQ w W gq N ok q)) (hfresh : ∀ k, W.heap.size ≤ k → ok k) (hqN : q.length ≤ N) (hN : N ≤ 32768) :
    Calls Try.prog 16 #[.pointer (some ⟨gq, 0, none⟩), .int .u8 x] W fun e W' => e = .returned (.tuple #[]) ∧ RQ w W' gq N ok ((q ++ [x]).drop (q.length + 1 - N)) ∧ Kept W W' (fun k => k = gq ∨ ok k) := by
  obtain ⟨v, HG0, hg, HQ0, HB0⟩ := h.out
  obtain ⟨A, c, rfl, hlc⟩ := Kd.Q_slice HQ0
  have HQ := Aside0.mk HQ0
  have HG := Aside0.mk HG0
  have HB := Aside0.mk HB0
  have HF := Aside0.mk hfresh
  have HLN := Aside0.mk (show (q.length + 1) * 1 ≤ 140737488355328 by omega)
  have HQN := Aside0.mk (show q.length ≤ N ∧ N ≤ 32768 from ⟨hqN, hN⟩)
  have hc0 : W.cell? ⟨gq, 1, none⟩ = some (.slice A q.length c) := (blk_cell HG0 1).trans rfl
  clear h HG0 HQ0 HB0 hfresh hlc hqN hN
  go_enter Try.func16, Try.ntmps16
  go_upto_region 1 with ((refine Kd.Q_append (P := Try.prog) (Kd.int .u8) (w0 := w) (W := W) w.heap.size ?_ (.tmp 8) (.tmp 10) 22 5 (.int .u8 0) 1 ?_ Try.underlying22 info5q rfl (by decide) (by decide) (.slice A q.length c) q x [.int .u8 x] ok (fun k => False) ?_ ?_ (show (Kd.int .u8).M W w.heap.size (fun k => False) x [.int .u8 x] from rfl) (fun k hk => hk.elim) HF.out HQ.out HB.out HB.out.size HLN.out ?_); (· rfl); (· rfl); (· rfl); (· rfl); intro v1 w1 hq hb hgr hat; obtain ⟨A1, c1, hv1, hlc1⟩ := Kd.Q_slice hq; subst hv1; rw [show (q ++ [x]).length = q.length + 1 by simp] at *; have hbq := rq_far HG.out HQ.out hgr; have hcq : w1.cell? ⟨gq, 1, none⟩ = some (.slice A q.length c) := (blk_cell hbq 1).trans rfl; have hfq := blk_frozen hbq 1; have HB2 := Aside0.mk (blk_put hbq 1 (.slice A1 (q.length + 1) c1) rfl); have HQ2 := Aside0.mk (Kd.Q_set hq hbq (by intro t ht; simp [Kd.int, Kd.scalar] at ht; omega) 1 (.slice A1 (q.length + 1) c1)); have HBe := Aside0.mk (hb.setCell hg (.slice A1 (q.length + 1) c1) (p := ⟨gq, 1, none⟩)); have HK := Aside0.mk (kept_set (kept_grown (gq := gq) hgr HQ.out.1) (.inl rfl) 1 (.slice A1 (q.length + 1) c1)); clear hq hb hgr hat hbq hlc1 HQ HG HB HF HLN)
  go_upto_region 1 with (fail)
  replace HB2 : Aside0 ((w1.setCell ⟨gq, 1, none⟩ (.slice A1 (q.length + 1) c1)).drew.heap[gq]? = some (.cells #[.int .i64 (N : Int), .slice A1 (q.length + 1) c1] 48 (0, 0))) := ⟨HB2.out⟩
  replace HQ2 : Aside0 ((Kd.int .u8).Q 5 (w1.setCell ⟨gq, 1, none⟩ (.slice A1 (q.length + 1) c1)).drew w.heap.size ok (.slice A1 (q.length + 1) c1) (q ++ [x])) := ⟨HQ2.out⟩
  replace HBe := Aside0.mk (below_drew HBe.out)
  replace HK := Aside0.mk (kept_drew HK.out)
  have hd0 := blk_c (i := 0) (v := .int .i64 (N : Int)) HB2.out rfl
  have hd1 := blk_c (i := 1) (v := .slice A1 (q.length + 1) c1) HB2.out rfl
  clear hcq hfq
  refine start_ (n := 10) (S := fun w' => w'.cell? ⟨gq, 1, none⟩ = some (.slice A1 (q.length + 1) c1) ∧ w'.cell? ⟨gq, 0, none⟩ = some (.int .i64 (N : Int))) (ds := []) #[false, false, false, false, false, false, false, false, false, false] (by kernel_rfl) rfl rfl ⟨hd1, hd0⟩ (fun hHeld => ?_)
  generalize (w1.setCell ⟨gq, 1, none⟩ (.slice A1 (q.length + 1) c1)).drew = W2 at HB2 HQ2 HBe HK hd0 hd1 hHeld ⊢
  refine pure_ (i := 0) (N := some 14) (v := ?_) (a' := ?_) #[true, false, false, false, false, false, false, false, false, false] rfl rfl (by kernel_rfl) (fun _ _ _ h => h) (Or.inl ⟨by rfl, ?_⟩) ?_ ?_
  rotate_left
  · intro w'
    go_simp
    with_reducible rfl
  rotate_left
  · simp only [Act.put, List.setIfInBounds_toArray, List.set_cons_zero, List.set_cons_succ, i64_w, i32_w]
    rfl
  refine pure_ (i := 1) (N := some 15) (v := ?_) (a' := ?_) #[true, true, false, false, false, false, false, false, false, false] rfl rfl (by kernel_rfl) (fun _ _ _ h => h) (Or.inl ⟨by rfl, ?_⟩) ?_ ?_
  rotate_left
  · intro w'
    go_simp
    with_reducible rfl
  rotate_left
  · simp only [Act.put, List.setIfInBounds_toArray, List.set_cons_zero, List.set_cons_succ, i64_w, i32_w]
    rfl
  refine pure_ (i := 2) (N := some 16) (v := ?_) (a' := ?_) #[true, true, true, false, false, false, false, false, false, false] rfl rfl (by kernel_rfl) (fun _ _ _ h => h) (Or.inl ⟨by rfl, ?_⟩) ?_ ?_
  rotate_left
  · intro w'
    go_simp
    with_reducible rfl
  rotate_left
  · simp only [Act.put, List.setIfInBounds_toArray, List.set_cons_zero, List.set_cons_succ, i64_w, i32_w]
    rfl
  refine pure_ (i := 5) (N := some 19) (v := ?_) (a' := ?_) #[true, true, true, false, false, true, false, false, false, false] rfl rfl (by kernel_rfl) (fun _ _ _ h => h) (Or.inl ⟨by rfl, ?_⟩) ?_ ?_
  rotate_left
  · intro w'
    go_simp
    with_reducible rfl
  rotate_left
  · simp only [Act.put, List.setIfInBounds_toArray, List.set_cons_zero, List.set_cons_succ, i64_w, i32_w]
    rfl
  refine pure_ (i := 6) (N := some 20) (v := ?_) (a' := ?_) #[true, true, true, false, false, true, true, false, false, false] rfl rfl (by kernel_rfl) (fun _ _ _ h => h) (Or.inl ⟨by rfl, ?_⟩) ?_ ?_
  rotate_left
  · intro w'
    go_simp
    with_reducible rfl
  rotate_left
  · simp only [Act.put, List.setIfInBounds_toArray, List.set_cons_zero, List.set_cons_succ, i64_w, i32_w]
    rfl
  refine pure_ (i := 7) (N := some 21) (v := ?_) (a' := ?_) #[true, true, true, false, false, true, true, true, false, false] rfl rfl (by kernel_rfl) (fun _ _ _ h => h) (Or.inl ⟨by rfl, ?_⟩) ?_ ?_
  rotate_left
  · intro w'
    go_simp
    with_reducible rfl
  rotate_left
  · simp only [Act.put, List.setIfInBounds_toArray, List.set_cons_zero, List.set_cons_succ, i64_w, i32_w]
    rfl
  refine take_ (i := 3) (N := some 17) (v := ?_) (a' := ?_) #[true, true, true, true, false, true, true, true, false, false] rfl rfl (by kernel_rfl) (fun _ _ _ h => h) (Or.inl ⟨by rfl, ?_⟩) hHeld ?_ ?_
  rotate_left
  · rintro w' ⟨s0, s1⟩
    go_simp
    with_reducible rfl
  rotate_left
  · simp only [Act.put, List.setIfInBounds_toArray, List.set_cons_zero, List.set_cons_succ, i64_w, i32_w]
    rfl
  refine pure_ (i := 4) (N := some 18) (v := ?_) (a' := ?_) #[true, true, true, true, true, true, true, true, false, false] rfl rfl (by kernel_rfl) (fun _ _ _ h => h) (Or.inl ⟨by rfl, ?_⟩) ?_ ?_
  rotate_left
  · intro w'
    go_simp
    with_reducible rfl
  rotate_left
  · simp only [Act.put, List.setIfInBounds_toArray, List.set_cons_zero, List.set_cons_succ, i64_w, i32_w]
    rfl
  refine take_ (i := 8) (N := some 22) (v := ?_) (a' := ?_) #[true, true, true, true, true, true, true, true, true, false] rfl rfl (by kernel_rfl) (fun _ _ _ h => h) (Or.inl ⟨by rfl, ?_⟩) hHeld ?_ ?_
  rotate_left
  · rintro w' ⟨s0, s1⟩
    go_simp
    with_reducible rfl
  rotate_left
  · simp only [Act.put, List.setIfInBounds_toArray, List.set_cons_zero, List.set_cons_succ, i64_w, i32_w]
    rfl
  refine pure_ (i := 9) (N := some 23) (v := ?_) (a' := ?_) #[true, true, true, true, true, true, true, true, true, true] rfl rfl (by kernel_rfl) (fun _ _ _ h => h) (Or.inl ⟨by rfl, ?_⟩) ?_ ?_
  rotate_left
  · intro w'
    go_simp
    with_reducible rfl
  rotate_left
  · simp only [Act.put, List.setIfInBounds_toArray, List.set_cons_zero, List.set_cons_succ, i64_w, i32_w]
    rfl
  refine done_ (by kernel_rfl) ?_
  by_cases ht : N < q.length + 1
  · have htb : decide ((N : Int) < ((q.length + 1 : Nat) : Int)) = true := decide_eq_true (by omega)
    have htc : decide (N < q.length + 1) = true := decide_eq_true ht
    obtain ⟨A2, c2, hcut, hr2⟩ := rq_cut HQ2.out
    have hf1 := blk_frozen HB2.out 1
    have HR2 := Aside0.mk hr2
    clear hr2
    go_wp2
    go_end0
    exact ⟨rfl, by rw [show q.length + 1 - N = 1 by have := HQN.out; omega]; exact rq_set HB2.out hg HR2.out HBe.out, kept_set HK.out (.inl rfl) 1 _⟩
  · have htb : decide ((N : Int) < ((q.length + 1 : Nat) : Int)) = false := decide_eq_false (by omega)
    have htc : decide (N < q.length + 1) = false := decide_eq_false ht
    go_wp2
    go_end0
    exact ⟨rfl, by rw [show q.length + 1 - N = 0 by omega]; exact ⟨_, HB2.out, hg, HQ2.out, HBe.out⟩, HK.out⟩
end Go.Proofs.Ytcpijkckjahfdaa.PAll
