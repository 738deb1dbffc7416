/- The document's Join: rows of 32 numbers that are squared; it answers what the program's Join answers. -/
import Derived.Test.YtlinaloemppniaaThr
import Derived.Test.YtlinaloemppniaaJoin
import Derived.Deep.MidRow
namespace Go.Proofs.Ytlinaloemppniaa.PAll
open Go.RowKit Go.Proofs.Ytlinaloemppniaa.Crc Go.Proofs.Ytlinaloemppniaa.CrcMath Go.Proofs.YtlinaloemppniaaW.PrintWords Go.Proofs.YtlinaloemppniaaW.PrintLast Go.Proofs.YtlinaloemppniaaW.PrintMore
attribute [local go_sem] max2_int min2_int max_two min_two max_three min_three max_four min_four   -- for this text's walks alone
set_option linter.unusedVariables false
set_option linter.unusedSimpArgs false
theorem infoC : (Try.prog.info? 27).map (·.size) = some 32 := by kernel_rfl
theorem infoR {F : Nat → B} : (Try.prog.info? 27).map (·.size) = some (rowA F).size := by rw [rowA_size]; exact infoC
theorem infoL {F : Nat → B} : (Try.prog.info? 27).map (·.size) = some (rowA F).toList.length := by rw [Array.length_toList, rowA_size]; exact infoC
theorem ra_keep {W W' : World} {g : Nat} {F : Nat → B} (h : RA W g F) (hb : Below W.heap.size W W') : RA W' g F := (hb.block g (blk_lt h)).trans h
theorem ra_range {W : World} {g : Nat} {F : Nat → B} (h : RA W g F) : W.rangeAt g 0 (rowA F).toList := by
  intro j v hj
  rw [Nat.zero_add, blk_cell h j]
  simpa using hj
theorem ra_alloc {W : World} {g : Nat} {F : Nat → B} (h : RA W g F) (o : Obj) : RA (W.alloc o) g F := ra_keep h (below_alloc (Below.refl _ _) o)
theorem ra_at {W : World} {g : Nat} {F : Nat → B} {i : Nat} {X : B} (h : Aside0 (RA W g (upd F i X))) (hi : i < 32) : W.cell? ⟨g, i, none⟩ = some (.int .u32 (I X)) := by
  have := ra_cell h hi
  rwa [show upd F i X i = X from if_pos rfl] at this
theorem upd_upd (F : Nat → B) (i : Nat) (X Y : B) : upd (upd F i X) i Y = upd F i Y := by
  funext j
  unfold upd
  split <;> rfl
theorem ra_other {W : World} {g g' : Nat} {F : Nat → B} (h : RA W g F) (hne : g ≠ g') (i : Nat) (v : Value) : RA (W.setCell ⟨g', i, none⟩ v) g F := (Below.heap_setCell W ⟨g', i, none⟩ v g hne).trans h
theorem ra_copy {W : World} {g : Nat} {F : Nat → B} (h : RA W g F) (G : Nat → B) : RA (W.setCells g 0 (rowA G).toList) g G := by
  obtain ⟨cur', h3, h4, h5⟩ := setCells_row (rowA G).toList 0 W (rowA F) h (by rw [Array.length_toList, rowA_size, rowA_size]; decide)
  have e : cur' = rowA G := by
    apply Array.toList_inj.1
    rw [h5, List.take_zero, List.nil_append, List.drop_of_length_le (by rw [Array.length_toList, Array.length_toList, rowA_size, rowA_size]; decide), List.append_nil]
  rw [e] at h3
  exact h3
theorem ra_there {W : World} {g : Nat} {F : Nat → B} (h : RA W g F) (G : Nat → B) : W.there g 0 (rowA G).size := by
  intro j hj
  rw [rowA_size] at hj
  rw [Nat.zero_add]
  exact ⟨by rw [ra_cell ⟨h⟩ hj]; rfl, ra_frozen ⟨h⟩ j⟩
theorem rowA_one (F : Nat → B) : (rowA F).all (·.oneCell') = true := by
  refine Array.all_eq_true_iff_forall_mem.2 fun v hv => ?_
  unfold rowA at hv
  obtain ⟨i, _, rfl⟩ := List.mem_map.1 (List.mem_toArray.1 hv)
  rfl
theorem below_cells {B0 g : Nat} {a W : World} (h : Below B0 a W) (hg : B0 ≤ g) (vs : List Value) (o : Nat) : Below B0 a (W.setCells g o vs) := by
  induction vs generalizing o W with
  | nil => exact h
  | cons v r ih => exact ih (h.setCell (p := ⟨g, o, none⟩) hg v) (o + 1)
theorem pow_I : ∀ k : Fin 32, (2 : Int) ^ k.1 % 4294967296 = I (1#32 <<< k.1) := by decide
/-- the rows below j are what n moves make of each bit. -/
def Mv (n j : Nat) (R : Nat → B) : Prop := ∀ i, i < j → R i = mvn n (1#32 <<< i)
theorem mv_put {n j : Nat} {R : Nat → B} (h : Mv n j R) {X : B} (hX : X = mvn n (1#32 <<< j)) : Mv n (j + 1) (upd R j X) := by
  intro i hi
  unfold upd
  by_cases h1 : i = j
  · rw [if_pos h1, hX, h1]
  · rw [if_neg h1]; exact h i (by omega)
theorem mv_thr {m : Nat} {R : Nat → B} (h : Mv m 32 R) (x : B) : thr R x 32 = mvn m x := thr_all m R h x
theorem mv_twice {m : Nat} {R : Nat → B} (h : Mv m 32 R) {j : Nat} (hj : j < 32) : thr R (R j) 32 = mvn (m + m) (1#32 <<< j) := by rw [mv_thr h, h j hj, ← mvn_add]
set_option maxHeartbeats 8000000 in
set_option maxRecDepth 100000 in
theorem rjoin_calls (a b : B) (n : Int) (hn : n ≤ 9223372036854775807) (w : World) : Calls Try.prog 5 #[.int .u32 (I a), .int .u32 (I b), .int .i64 n] w fun e w' => e = .returned (.int .u32 (I (joinB a b n))) ∧ Below w.heap.size w w' := by
  have HS0 : Aside0 (RA (w.alloc (.cells (rowA fun _ => 0#32) 27)) w.heap.size (fun _ => 0#32)) := ⟨heap_alloc_new w _⟩
  have HB := Aside0.mk (below_alloc (Below.refl w.heap.size w) (.cells (rowA fun _ => 0#32) 27))
  obtain ⟨N, hN, hNl⟩ : ∃ N : Nat, N = n.toNat ∧ N < 9223372036854775808 := ⟨_, rfl, by omega⟩
  have HN := Aside0.mk hN
  clear hN
  go_enter Try.func5, Try.ntmps5
  go_wp2
  go_loopg [8] 33 (fun kq v8 w' => ∃ (i : Nat) (R : Nat → B), v8 = .int .i64 (i : Int) ∧ i + kq = 33 ∧ i ≤ 32 ∧ Aside0 (Mv 8 i R) ∧ Aside0 (RA w' w.heap.size R) ∧ Aside0 (Below w.heap.size w w'))
  case atStart => exact ⟨0, _, rfl, by omega, by omega, ⟨fun j hj => absurd hj (by omega)⟩, HS0, HB⟩
  case round =>
    clear HS0 HB
    obtain ⟨i, R, rfl, hik, hi32, HM, HR, HB⟩ := hrel
    cases gk with
    | zero => exact absurd hik (by omega)
    | succ k1 =>
    by_cases hi : i < 32
    · have hib : decide ((i : Int) < 32) = true := decide_eq_true (by omega)
      have hc := ra_cell HR hi
      have hf := ra_frozen HR i
      have hpw := pow_I ⟨i, hi⟩
      simp only at hpw
      have hi0 : (0 : Int) ≤ (i : Int) := by omega
      have HR1 := Aside0.mk (ra_put HR.out hi (1#32 <<< i))
      have HB1 := Aside0.mk (HB.out.setCell (p := ⟨w.heap.size, i, none⟩) (Nat.le_refl _) (.int .u32 (I (1#32 <<< i))))
      clear HR HB
      go_wp2
      go_loopg [9] 9 (fun kq v9 w' => ∃ (k : Nat), v9 = .int .i64 (k : Int) ∧ k + kq = 9 ∧ k ≤ 8 ∧ Aside0 (RA w' w.heap.size (upd R i (mvn k (1#32 <<< i)))) ∧ Aside0 (Below w.heap.size w w'))
      case atStart => exact ⟨0, rfl, by omega, by omega, HR1, HB1⟩
      case round =>
        clear HR1 HB1 hc hf hpw
        obtain ⟨k, rfl, hkk, hk8, HR, HB⟩ := hrel
        cases gk with
        | zero => exact absurd hkk (by omega)
        | succ k2 =>
        by_cases hk : k < 8
        · have hkb : decide ((k : Int) < 8) = true := decide_eq_true (by omega)
          have hc := ra_at HR hi
          have hmv := Aside0.mk (mvn_succ k (1#32 <<< i))
          generalize mvn k (1#32 <<< i) = X at *
          go_wp2_with (go_at_call 8; (with_reducible refine (moved_calls X _).mono ?_); rintro e w1 ⟨rfl, hd⟩; have HR1 := Aside0.mk (ra_drawn HR.out hd); have HB1 := Aside0.mk (jn_drawn HB hd); have hc1 := ra_at HR1 hi; have hf1 := ra_frozen HR1 i; clear hd HR HB hc)
          go_roundg k2
          case measure => omega
          case rel => exact ⟨k + 1, by first | rfl | (congr 1; omega), by omega, by omega, ⟨by have := ra_put HR1.out hi (mv X); rw [upd_upd] at this; rw [hmv.out]; exact this⟩, ⟨by have := HB1.out.setCell (p := ⟨w.heap.size, i, none⟩) (Nat.le_refl _) (.int .u32 (I (mv X))); exact this⟩⟩
        · obtain rfl : k = 8 := by omega
          go_wp2
          go_roundg k1
          case measure => omega
          case rel => exact ⟨i + 1, upd R i (mvn 8 (1#32 <<< i)), by first | rfl | (congr 1; omega), by omega, by omega, ⟨mv_put HM.out rfl⟩, HR, HB⟩
    · obtain rfl : i = 32 := by omega
      have hmx : (if n < 0 then (0 : Int) else n) = (N : Int) := by have := HN.out; split <;> omega
      clear hi hi32 hik
      go_wp2
      go_loopg [0, 2] (N + 1) (fun kq v0 v2 w' => ∃ (x : B) (k m : Nat) (R : Nat → B), v0 = .int .u32 (I x) ∧ v2 = .int .i64 (if n < 0 ∧ k = 0 then n else (k : Int)) ∧ k + 1 ≤ kq ∧ kq ≤ N + 1 ∧ Aside0 (mvn (m * k) x = mvn (8 * N) a) ∧ Aside0 (Mv m 32 R) ∧ Aside0 (RA w' w.heap.size R) ∧ Aside0 (Below w.heap.size w w'))
      case atStart => exact ⟨a, N, 8, R, rfl, by have := HN.out; congr 1; split <;> omega, by omega, by omega, ⟨rfl⟩, HM, HR, HB⟩
      case round =>
        clear HR HB HM hmx
        obtain ⟨x, k, m, R, rfl, rfl, hk, hkN, HE, HM, HR, HB⟩ := hrel
        cases gk with
        | zero => exact absurd hk (by omega)
        | succ k1 =>
        by_cases hp : 0 < k
        · have hb : decide ((0 : Int) < (k : Int)) = true := decide_eq_true (by omega)
          have hsel : (if n < 0 ∧ k = 0 then n else (k : Int)) = (k : Int) := if_neg (by omega)
          rw [hsel]
          clear hsel
          have hk0 : (0 : Int) ≤ (k : Int) := by omega
          have hnn : 0 ≤ n := by have := HN.out; omega
          have hsel2 : (if n < 0 ∧ k / 2 = 0 then n else ((k / 2 : Nat) : Int)) = ((k / 2 : Nat) : Int) := if_neg (by omega)
          have HSEL := Aside0.mk hsel2
          clear hsel2
          have hk2 : (k : Int) < 9223372036854775808 := by omega
          rcases Nat.mod_two_eq_zero_or_one k with h2 | h2
          · have han : Int.tmod (k : Int) 2 = 0 := by rw [Int.tmod_eq_emod_of_nonneg hk0]; omega
            have HE2 : Aside0 (mvn ((m + m) * (k / 2)) x = mvn (8 * N) a) := ⟨(join_even m k x h2).trans HE.out⟩
            clear h2 HE
            go_wp2
            have hgl : w.heap.size < wr.heap.size := blk_lt HR.out
            have HRT := Aside0.mk (ra_alloc HR.out (.cells (rowA fun _ => 0#32) 27))
            have HGT : Aside0 (RA (wr.alloc (.cells (rowA fun _ => 0#32) 27)) wr.heap.size (fun _ => 0#32)) := ⟨heap_alloc_new wr _⟩
            have HBT := Aside0.mk (HB.out.alloc (Nat.le_of_lt hgl) (.cells (rowA fun _ => 0#32) 27))
            clear HR HB
            have hne : w.heap.size ≠ wr.heap.size := by omega
            generalize wr.heap.size = g2 at *
            go_loopg [11] 33 (fun kq v11 w' => ∃ (j : Nat) (G : Nat → B), v11 = .int .i64 (j : Int) ∧ j + kq = 33 ∧ j ≤ 32 ∧ Aside0 (Mv (m + m) j G) ∧ Aside0 (RA w' w.heap.size R) ∧ Aside0 (RA w' g2 G) ∧ Aside0 (Below w.heap.size w w'))
            case atStart => exact ⟨0, _, rfl, by omega, by omega, ⟨fun j hj => absurd hj (by omega)⟩, HRT, HGT, HBT⟩
            case round =>
              clear HRT HGT HBT
              obtain ⟨j, G, rfl, hjk, hj32, HMG, HR, HG, HB⟩ := hrel
              cases gk with
              | zero => exact absurd hjk (by omega)
              | succ k2 =>
              by_cases hj : j < 32
              · have hjb : decide ((j : Int) < 32) = true := decide_eq_true (by omega)
                have hc0 : wr.drew.cell? ⟨w.heap.size, j, none⟩ = some (.int .u32 (I (R j))) := ra_cell HR hj
                have hr0 : wr.drew.rangeAt w.heap.size 0 (rowA R).toList := ra_range HR.out
                have hj0 : (0 : Int) ≤ (j : Int) := by omega
                have hj1 : (j : Int) < 32 := by omega
                replace HR : Aside0 (RA wr.drew w.heap.size R) := ⟨HR.out⟩
                replace HG : Aside0 (RA wr.drew g2 G) := ⟨HG.out⟩
                replace HB : Aside0 (Below w.heap.size w wr.drew) := ⟨below_drew HB.out⟩
                go_wp2
                refine start_ (n := 8) (S := fun w' => w'.cell? ⟨w.heap.size, j, none⟩ = some (.int .u32 (I (R j))) ∧ w'.rangeAt w.heap.size 0 (rowA R).toList) (ds := [7]) #[false, false, false, false, false, false, false, false] (by kernel_rfl) rfl rfl ⟨hc0, hr0⟩ (fun hHeld => ?_)
                generalize wr.drew = W2 at HR HG HB hc0 hr0 hHeld ⊢
                refine pure_ (i := 0) (N := some 43) (v := ?_) (a' := ?_) #[true, false, false, false, false, false, false, false] rfl rfl (by kernel_rfl) (fun _ _ _ h => h) (Or.inl ⟨by rfl, ?_⟩) ?_ ?_
                rotate_left
                · intro w'
                  go_simp
                  with_reducible rfl
                rotate_left
                · simp only [Act.put, List.setIfInBounds_toArray, List.set_cons_zero, List.set_cons_succ, i64_w, i32_w]
                  rfl
                refine pure_ (i := 2) (N := some 45) (v := ?_) (a' := ?_) #[true, false, true, false, false, false, false, false] rfl rfl (by kernel_rfl) (fun _ _ _ h => h) (Or.inl ⟨by rfl, ?_⟩) ?_ ?_
                rotate_left
                · intro w'
                  go_simp
                  with_reducible rfl
                rotate_left
                · simp only [Act.put, List.setIfInBounds_toArray, List.set_cons_zero, List.set_cons_succ, i64_w, i32_w]
                  rfl
                refine pure_ (i := 3) (N := some 46) (v := ?_) (a' := ?_) #[true, false, true, true, false, false, false, false] rfl rfl (by kernel_rfl) (fun _ _ _ h => h) (Or.inl ⟨by rfl, ?_⟩) ?_ ?_
                rotate_left
                · intro w'
                  go_simp
                  with_reducible rfl
                rotate_left
                · simp only [Act.put, List.setIfInBounds_toArray, List.set_cons_zero, List.set_cons_succ, i64_w, i32_w]
                  rfl
                refine take_ (i := 1) (N := some 44) (v := .agg (rowA R)) (a' := ?_) #[true, true, true, true, false, false, false, false] rfl rfl (by kernel_rfl) (fun _ _ _ h => h) (yieldsIf_load_mid (by rfl) 27 (.tmp 7) rfl w.heap.size 0 (by rfl) (rowA R).toList _ (fun _ s => s.2) Try.underlying27 rfl infoL) hHeld ?_ ?_
                rotate_left
                · simp only [Act.put, List.setIfInBounds_toArray, List.set_cons_zero, List.set_cons_succ, i64_w, i32_w]
                  rfl
                refine take_ (i := 4) (N := some 47) (v := ?_) (a' := ?_) #[true, true, true, true, true, false, false, false] rfl rfl (by kernel_rfl) (fun _ _ _ h => h) (Or.inl ⟨by rfl, ?_⟩) hHeld ?_ ?_
                rotate_left
                · rintro w' ⟨s0, s1⟩
                  go_simp
                  with_reducible rfl
                rotate_left
                · simp only [Act.put, List.setIfInBounds_toArray, List.set_cons_zero, List.set_cons_succ, i64_w, i32_w]
                  rfl
                refine one_ (i := 5) (N := some 48) #[true, true, true, true, true, true, false, false] rfl rfl (by kernel_rfl) (by decide) (fun K hK => ?_)
                refine goes_ Try.func9 (by kernel_rfl) rfl #[.agg (rowA R), .int .u32 (I (R j))] (by rfl) rfl rfl (by simp only [List.map_toArray, List.map_cons, List.map_nil]; rfl) ?_
                with_reducible refine (through_calls R (R j) _).mono ?_
                rintro e w1 ⟨rfl, hb⟩
                refine ⟨_, rfl, ?_⟩
                have HR1 := Aside0.mk (ra_keep HR.out hb)
                have HG1 := Aside0.mk (ra_keep HG.out hb)
                have HB1 := Aside0.mk (below_step HB.out hb)
                have hc1 := ra_cell HG1 hj
                have hf1 := ra_frozen HG1 j
                clear HR HG HB hc0 hr0 hb
                refine hK.out _ _ ⟨(ra_cell HR1 hj), (ra_range HR1.out)⟩ (fun hHeld => ?_)
                clear hK K
                refine norm_ (a' := ?_) ?_ ?_
                rotate_left
                · show Act.put _ (some 48) _ = _
                  simp only [Act.put, List.setIfInBounds_toArray, List.set_cons_zero, List.set_cons_succ, i64_w, i32_w]
                  rfl
                refine pure_ (i := 6) (N := some 49) (v := ?_) (a' := ?_) #[true, true, true, true, true, true, true, false] rfl rfl (by kernel_rfl) (fun _ _ _ h => h) (Or.inl ⟨by rfl, ?_⟩) ?_ ?_
                rotate_left
                · intro w'
                  go_simp
                  with_reducible rfl
                rotate_left
                · simp only [Act.put, List.setIfInBounds_toArray, List.set_cons_zero, List.set_cons_succ, i64_w, i32_w]
                  rfl
                refine last_ (i := 7) (N := none) #[true, true, true, true, true, true, true, true] rfl rfl (by kernel_rfl) (by decide) (fun K hK => ?_)
                refine skip_ (w1 := ?_) (by rfl) rfl ?_ ?_
                rotate_left
                · go_simp
                  rfl
                refine hK.out _ _ ?_
                clear hK K
                refine done_ (by kernel_rfl) ?_
                have HTW := Aside0.mk (mv_twice HM.out hj)
                go_wp2
                go_roundg k2
                case measure => omega
                case rel => exact ⟨j + 1, upd G j (thr R (R j) 32), by first | rfl | (congr 1; omega), by omega, by omega, ⟨mv_put HMG.out HTW.out⟩, ⟨ra_other HR1.out hne _ _⟩, ⟨ra_put HG1.out hj _⟩, ⟨HB1.out.setCell (by show w.heap.size ≤ g2; omega) _⟩⟩
              · obtain rfl : j = 32 := by omega
                have HGH : Aside0 (wr.heap[g2]? = some (.cells (rowA G) 27 (0, 0))) := ⟨HG.out⟩
                have HTH : Aside0 (wr.there w.heap.size 0 (rowA G).size) := ⟨ra_there HR.out G⟩
                go_wp2_with (first
                  | ((with_reducible refine wpList_load_row ?_ 27 (.tmp 10) ?_ g2 ?_ 27 (rowA G) (0, 0) _ HGH.out Try.underlying27 ?_ infoR ?_); (· rfl); (· rfl); (· rfl); (· rfl))
                  | ((with_reducible refine wpList_store_mid ?_ 27 (.tmp 7) (.tmp 50) ?_ w.heap.size 0 (rowA G) ?_ ?_ HTH.out infoR (rowA_one G) ?_); (· rfl); (· rfl); (· rfl); (· rfl)))
                go_roundg k1
                case measure => omega
                case rel => exact ⟨x, k / 2, m + m, G, rfl, (by rw [HSEL.out]; first | rfl | (congr 1; omega)), by omega, by omega, HE2, HMG, ⟨ra_copy HR.out G⟩, ⟨below_cells HB.out (Nat.le_refl _) _ _⟩⟩
          · have han : Int.tmod (k : Int) 2 = 1 := by rw [Int.tmod_eq_emod_of_nonneg hk0]; omega
            have HE2 : Aside0 (mvn ((m + m) * (k / 2)) (mvn m x) = mvn (8 * N) a) := ⟨(join_odd m k x h2).trans HE.out⟩
            clear h2 HE
            have HRH : Aside0 (wr.heap[w.heap.size]? = some (.cells (rowA R) 27 (0, 0))) := ⟨HR.out⟩
            go_wp2_with (first
              | ((with_reducible refine wpList_load_row ?_ 27 (.tmp 7) ?_ w.heap.size ?_ 27 (rowA R) (0, 0) _ HRH.out Try.underlying27 ?_ infoR ?_); (· rfl); (· rfl); (· rfl); (· rfl))
              | (go_at_call 9; (with_reducible refine (through_calls R x _).mono ?_); rintro e w1 ⟨rfl, hd⟩; have HR1 := Aside0.mk (ra_keep HR.out hd); have HB1 := Aside0.mk (below_step HB.out hd); clear hd HR HB HRH; rw [mv_thr HM.out x]))
            have hgl : w.heap.size < w1.heap.size := blk_lt HR1.out
            have HRT := Aside0.mk (ra_alloc HR1.out (.cells (rowA fun _ => 0#32) 27))
            have HGT : Aside0 (RA (w1.alloc (.cells (rowA fun _ => 0#32) 27)) w1.heap.size (fun _ => 0#32)) := ⟨heap_alloc_new w1 _⟩
            have HBT := Aside0.mk (HB1.out.alloc (Nat.le_of_lt hgl) (.cells (rowA fun _ => 0#32) 27))
            clear HR1 HB1
            have hne : w.heap.size ≠ w1.heap.size := by omega
            generalize w1.heap.size = g2 at *
            go_loopg [11] 33 (fun kq v11 w' => ∃ (j : Nat) (G : Nat → B), v11 = .int .i64 (j : Int) ∧ j + kq = 33 ∧ j ≤ 32 ∧ Aside0 (Mv (m + m) j G) ∧ Aside0 (RA w' w.heap.size R) ∧ Aside0 (RA w' g2 G) ∧ Aside0 (Below w.heap.size w w'))
            case atStart => exact ⟨0, _, rfl, by omega, by omega, ⟨fun j hj => absurd hj (by omega)⟩, HRT, HGT, HBT⟩
            case round =>
              clear HRT HGT HBT
              obtain ⟨j, G, rfl, hjk, hj32, HMG, HR, HG, HB⟩ := hrel
              cases gk with
              | zero => exact absurd hjk (by omega)
              | succ k2 =>
              by_cases hj : j < 32
              · have hjb : decide ((j : Int) < 32) = true := decide_eq_true (by omega)
                have hc0 : wr.drew.cell? ⟨w.heap.size, j, none⟩ = some (.int .u32 (I (R j))) := ra_cell HR hj
                have hr0 : wr.drew.rangeAt w.heap.size 0 (rowA R).toList := ra_range HR.out
                have hj0 : (0 : Int) ≤ (j : Int) := by omega
                have hj1 : (j : Int) < 32 := by omega
                replace HR : Aside0 (RA wr.drew w.heap.size R) := ⟨HR.out⟩
                replace HG : Aside0 (RA wr.drew g2 G) := ⟨HG.out⟩
                replace HB : Aside0 (Below w.heap.size w wr.drew) := ⟨below_drew HB.out⟩
                go_wp2
                refine start_ (n := 8) (S := fun w' => w'.cell? ⟨w.heap.size, j, none⟩ = some (.int .u32 (I (R j))) ∧ w'.rangeAt w.heap.size 0 (rowA R).toList) (ds := [7]) #[false, false, false, false, false, false, false, false] (by kernel_rfl) rfl rfl ⟨hc0, hr0⟩ (fun hHeld => ?_)
                generalize wr.drew = W2 at HR HG HB hc0 hr0 hHeld ⊢
                refine pure_ (i := 0) (N := some 43) (v := ?_) (a' := ?_) #[true, false, false, false, false, false, false, false] rfl rfl (by kernel_rfl) (fun _ _ _ h => h) (Or.inl ⟨by rfl, ?_⟩) ?_ ?_
                rotate_left
                · intro w'
                  go_simp
                  with_reducible rfl
                rotate_left
                · simp only [Act.put, List.setIfInBounds_toArray, List.set_cons_zero, List.set_cons_succ, i64_w, i32_w]
                  rfl
                refine pure_ (i := 2) (N := some 45) (v := ?_) (a' := ?_) #[true, false, true, false, false, false, false, false] rfl rfl (by kernel_rfl) (fun _ _ _ h => h) (Or.inl ⟨by rfl, ?_⟩) ?_ ?_
                rotate_left
                · intro w'
                  go_simp
                  with_reducible rfl
                rotate_left
                · simp only [Act.put, List.setIfInBounds_toArray, List.set_cons_zero, List.set_cons_succ, i64_w, i32_w]
                  rfl
                refine pure_ (i := 3) (N := some 46) (v := ?_) (a' := ?_) #[true, false, true, true, false, false, false, false] rfl rfl (by kernel_rfl) (fun _ _ _ h => h) (Or.inl ⟨by rfl, ?_⟩) ?_ ?_
                rotate_left
                · intro w'
                  go_simp
                  with_reducible rfl
                rotate_left
                · simp only [Act.put, List.setIfInBounds_toArray, List.set_cons_zero, List.set_cons_succ, i64_w, i32_w]
                  rfl
                refine take_ (i := 1) (N := some 44) (v := .agg (rowA R)) (a' := ?_) #[true, true, true, true, false, false, false, false] rfl rfl (by kernel_rfl) (fun _ _ _ h => h) (yieldsIf_load_mid (by rfl) 27 (.tmp 7) rfl w.heap.size 0 (by rfl) (rowA R).toList _ (fun _ s => s.2) Try.underlying27 rfl infoL) hHeld ?_ ?_
                rotate_left
                · simp only [Act.put, List.setIfInBounds_toArray, List.set_cons_zero, List.set_cons_succ, i64_w, i32_w]
                  rfl
                refine take_ (i := 4) (N := some 47) (v := ?_) (a' := ?_) #[true, true, true, true, true, false, false, false] rfl rfl (by kernel_rfl) (fun _ _ _ h => h) (Or.inl ⟨by rfl, ?_⟩) hHeld ?_ ?_
                rotate_left
                · rintro w' ⟨s0, s1⟩
                  go_simp
                  with_reducible rfl
                rotate_left
                · simp only [Act.put, List.setIfInBounds_toArray, List.set_cons_zero, List.set_cons_succ, i64_w, i32_w]
                  rfl
                refine one_ (i := 5) (N := some 48) #[true, true, true, true, true, true, false, false] rfl rfl (by kernel_rfl) (by decide) (fun K hK => ?_)
                refine goes_ Try.func9 (by kernel_rfl) rfl #[.agg (rowA R), .int .u32 (I (R j))] (by rfl) rfl rfl (by simp only [List.map_toArray, List.map_cons, List.map_nil]; rfl) ?_
                with_reducible refine (through_calls R (R j) _).mono ?_
                rintro e w1 ⟨rfl, hb⟩
                refine ⟨_, rfl, ?_⟩
                have HR1 := Aside0.mk (ra_keep HR.out hb)
                have HG1 := Aside0.mk (ra_keep HG.out hb)
                have HB1 := Aside0.mk (below_step HB.out hb)
                have hc1 := ra_cell HG1 hj
                have hf1 := ra_frozen HG1 j
                clear HR HG HB hc0 hr0 hb
                refine hK.out _ _ ⟨(ra_cell HR1 hj), (ra_range HR1.out)⟩ (fun hHeld => ?_)
                clear hK K
                refine norm_ (a' := ?_) ?_ ?_
                rotate_left
                · show Act.put _ (some 48) _ = _
                  simp only [Act.put, List.setIfInBounds_toArray, List.set_cons_zero, List.set_cons_succ, i64_w, i32_w]
                  rfl
                refine pure_ (i := 6) (N := some 49) (v := ?_) (a' := ?_) #[true, true, true, true, true, true, true, false] rfl rfl (by kernel_rfl) (fun _ _ _ h => h) (Or.inl ⟨by rfl, ?_⟩) ?_ ?_
                rotate_left
                · intro w'
                  go_simp
                  with_reducible rfl
                rotate_left
                · simp only [Act.put, List.setIfInBounds_toArray, List.set_cons_zero, List.set_cons_succ, i64_w, i32_w]
                  rfl
                refine last_ (i := 7) (N := none) #[true, true, true, true, true, true, true, true] rfl rfl (by kernel_rfl) (by decide) (fun K hK => ?_)
                refine skip_ (w1 := ?_) (by rfl) rfl ?_ ?_
                rotate_left
                · go_simp
                  rfl
                refine hK.out _ _ ?_
                clear hK K
                refine done_ (by kernel_rfl) ?_
                have HTW := Aside0.mk (mv_twice HM.out hj)
                go_wp2
                go_roundg k2
                case measure => omega
                case rel => exact ⟨j + 1, upd G j (thr R (R j) 32), by first | rfl | (congr 1; omega), by omega, by omega, ⟨mv_put HMG.out HTW.out⟩, ⟨ra_other HR1.out hne _ _⟩, ⟨ra_put HG1.out hj _⟩, ⟨HB1.out.setCell (by show w.heap.size ≤ g2; omega) _⟩⟩
              · obtain rfl : j = 32 := by omega
                have HGH : Aside0 (wr.heap[g2]? = some (.cells (rowA G) 27 (0, 0))) := ⟨HG.out⟩
                have HTH : Aside0 (wr.there w.heap.size 0 (rowA G).size) := ⟨ra_there HR.out G⟩
                go_wp2_with (first
                  | ((with_reducible refine wpList_load_row ?_ 27 (.tmp 10) ?_ g2 ?_ 27 (rowA G) (0, 0) _ HGH.out Try.underlying27 ?_ infoR ?_); (· rfl); (· rfl); (· rfl); (· rfl))
                  | ((with_reducible refine wpList_store_mid ?_ 27 (.tmp 7) (.tmp 50) ?_ w.heap.size 0 (rowA G) ?_ ?_ HTH.out infoR (rowA_one G) ?_); (· rfl); (· rfl); (· rfl); (· rfl)))
                go_roundg k1
                case measure => omega
                case rel => exact ⟨mvn m x, k / 2, m + m, G, rfl, (by rw [HSEL.out]; first | rfl | (congr 1; omega)), by omega, by omega, HE2, HMG, ⟨ra_copy HR.out G⟩, ⟨below_cells HB.out (Nat.le_refl _) _ _⟩⟩
        · have hb : decide ((0 : Int) < (if n < 0 ∧ k = 0 then n else (k : Int))) = false := decide_eq_false (by split <;> omega)
          have hx := HE.out
          rw [show m * k = 0 by rw [show k = 0 by omega, Nat.mul_zero]] at hx
          have hx2 : Aside0 (x ^^^ b = joinB a b n) := ⟨by unfold joinB; rw [← HN.out, ← hx]; rfl⟩
          have hxo := xorI x b
          clear hx HE
          generalize (if n < 0 ∧ k = 0 then n else (k : Int)) = z at *
          go_wp2
          go_ret
          exact ⟨by first | rfl | (rw [hx2.out]; rfl), HB.out⟩
end Go.Proofs.Ytlinaloemppniaa.PAll
