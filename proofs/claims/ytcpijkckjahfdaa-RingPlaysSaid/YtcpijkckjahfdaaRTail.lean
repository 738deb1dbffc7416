/- RingTail: the window has the last bytes of what was put in, each as far back as it stands. -/
import Derived.Test.YtcpijkckjahfdaaWin
namespace Go.Proofs.Ytcpijkckjahfdaa.PAll
open Go.RowKit Go.Proofs.YtcpijkckjahfdaaW.PrintWords Go.Proofs.YtcpijkckjahfdaaW.PrintLast Go.Proofs.YtcpijkckjahfdaaW.PrintMore
attribute [local go_sem] max2_int min2_int max_two min_two max_three min_three max_four min_four   -- for this text's walks alone
set_option linter.unusedVariables false
set_option linter.unusedSimpArgs false
theorem same_l (l : List Int) (hm : l.length ≤ 9223372036854775806) : ∀ (j i r : Nat), i + j = l.length → winkleref03_Same.l0 (j + 1 + r) l l (i : Int) = some true := by
  intro j
  induction j with
  | zero =>
    intro i r h
    rw [Nat.zero_add, Nat.add_comm]
    simp only [winkleref03_Same.l0]
    rw [if_neg (by omega)]
  | succ j ih =>
    intro i r h
    rw [show j + 1 + 1 + r = (j + 1 + r) + 1 by omega]
    simp only [winkleref03_Same.l0]
    have hw : wrap64 ((i : Int) + 1) = ((i + 1 : Nat) : Int) := by unfold wrap64; omega
    rw [if_pos (by omega), if_pos (by omega), if_pos (by omega), if_pos trivial, hw]
    exact ih (i + 1) r (by omega)
theorem same_f (l : List Int) (hm : l.length ≤ 9223372036854775806) : winkleref03_Same.f (l.length + 1) l l = some true := by
  unfold winkleref03_Same.f
  rw [if_pos rfl]
  exact same_l l hm l.length 0 0 (by omega)
theorem blk_rd {W : World} {gd : Nat} {q : List Int} (h : W.heap[gd]? = some (.cells (bytesA q) 5 (0, 0))) (hm : q.length ≤ 9223372036854775806) : ReadsOf (Value.int .u8) (0 : Int) W (some ⟨gd, 0, none⟩) q.length q := by
  refine ⟨rfl, by omega, fun _ => ⟨_, rfl, fun j hj => ?_⟩⟩
  have hA : (⟨gd, 0, none⟩ : Addr).add j = ⟨gd, j, none⟩ := (Addr.add_mid gd 0 j).trans (by rw [Nat.zero_add])
  rw [hA, blk_cell h]
  simp [bytesA, nums, hj, List.getD]
theorem same_tail {w W : World} {gd : Nat} {q q2 : List Int} {A2 : Option Addr} {m2 c2 : Nat} (hz : Aside0 (W.heap[gd]? = some (.cells (bytesA q) 5 (0, 0)))) (hB : Aside0 (Below w.heap.size w W)) (hr : Aside0 (ReadsOf (Value.int .u8) (0 : Int) w A2 m2 q2 ∧ m2 ≤ c2)) (hq : Aside0 (q2 = q ∧ q.length ≤ 9223372036854775806)) :
    Calls Try.prog 10 #[.slice (some ⟨gd, 0, none⟩) q.length q.length, .slice A2 m2 c2] W fun e W' => e = .returned (.bool true) ∧ Drawn0 W W' := by
  obtain ⟨rfl, hm⟩ := hq.out
  have hl := hr.out.1.1
  have := winkleref03_Same.calls (q2.length + 1) (some ⟨gd, 0, none⟩) q2.length q2 A2 c2 q2 true W (Kd.C_of_reads (d := (0 : Int)) (h1 := fun _ => rfl) (blk_rd hz.out hm)) (Nat.le_refl _) (Kd.C_of_reads (d := (0 : Int)) (h1 := fun _ => rfl) (by rw [hl]; exact hr.out.1.below hB.out)) (by rw [hl]; exact hr.out.2) (same_f q2 hm)
  rw [hl] at this
  rw [hl]
  exact this
theorem win_lenK {W : World} {g gb N K : Nat} {q : List Int} (h : Aside0 (Win W g gb N q)) (hk : Aside0 (q.length = K)) : Calls Try.prog 12 #[.pointer (some ⟨g, 0, none⟩)] W fun e W' => e = .returned (.int .i64 (K : Int)) ∧ Drawn0 W W' := by
  have := win_len h
  rw [hk.out] at this; exact this
theorem win_tailK {W : World} {g gb N K : Nat} {q : List Int} (h : Aside0 (Win W g gb N q)) (hk : Aside0 (q.length = K)) : Calls Try.prog 11 #[.pointer (some ⟨g, 0, none⟩)] W fun e W' => e = .returned (.slice (some ⟨W.heap.size, 0, none⟩) K K) ∧ Win W' g gb N q ∧ W'.heap[W.heap.size]? = some (.cells (bytesA q) 5 (0, 0)) ∧ Below W.heap.size W W' := by
  have := win_tail h
  rw [hk.out] at this; exact this
theorem win_backX {W : World} {g gb N K : Nat} {q : List Int} {X : Int} (d : Nat) (h : Aside0 (Win W g gb N q)) (hk : Aside0 (q.length = K)) (h1 : 1 ≤ d) (hd : d ≤ K) (hx : q.getD (K - d) 0 = X) : Calls Try.prog 13 #[.pointer (some ⟨g, 0, none⟩), .int .i64 (d : Int)] W fun e W' => e = .returned (.tuple #[.int .u8 X, .bool true]) ∧ Drawn0 W W' := by
  have := win_back d h h1 (by rw [hk.out]; exact hd)
  rw [hk.out, hx] at this; exact this
theorem same_tailK {w W : World} {gd K : Nat} {q q2 : List Int} {A2 : Option Addr} {m2 c2 : Nat} (hz : Aside0 (W.heap[gd]? = some (.cells (bytesA q) 5 (0, 0)))) (hB : Aside0 (Below w.heap.size w W)) (hr : Aside0 (ReadsOf (Value.int .u8) (0 : Int) w A2 m2 q2 ∧ m2 ≤ c2)) (hq : Aside0 (q2 = q ∧ q.length ≤ 9223372036854775806)) (hk : Aside0 (q.length = K)) :
    Calls Try.prog 10 #[.slice (some ⟨gd, 0, none⟩) K K, .slice A2 m2 c2] W fun e W' => e = .returned (.bool true) ∧ Drawn0 W W' := by
  have := same_tail hz hB hr hq
  rw [hk.out] at this; exact this
theorem rk_win {w W W' : World} {g gb : Nat} (h : Below w.heap.size w W) (hk : RK W W' g gb) (h1 : w.heap.size ≤ g) (h2 : w.heap.size ≤ gb) : Below w.heap.size w W' := hk.2.1 w h h1 h2
theorem lastN_take (N : Nat) (l : List Int) (i : Nat) (h : i < l.length) : (lastN N (l.take i) ++ [l.getD i 0]).drop ((lastN N (l.take i)).length + 1 - N) = lastN N (l.take (i + 1)) := by
  rw [lastN_put, List.take_succ_eq_append_getElem h]
  congr 2
  simp [List.getD, h]
theorem lastN_len (N : Nat) (l : List Int) : (lastN N l).length = min N l.length := by unfold lastN; rw [List.length_drop]; omega
theorem lastN_back (N : Nat) (l : List Int) (d : Nat) (h1 : 1 ≤ d) (h2 : d ≤ min N l.length) : (lastN N l).getD (min N l.length - d) 0 = l.getD (l.length - d) 0 := by
  unfold lastN
  rw [List.getD_eq_getElem?_getD, List.getD_eq_getElem?_getD, List.getElem?_drop]
  congr 2; omega
theorem kn_facts {N L Kn d : Nat} (h : Kn = min N L) (h1 : 1 ≤ d) (h2 : d ≤ Kn) (hN : N ≤ 256) (hm : L ≤ 140737488351232) : ∃ j : Nat, (L : Int) - (d : Int) = (j : Int) ∧ j = L - d ∧ (0 : Int) ≤ (j : Int) ∧ (j : Int) < (L : Int) ∧ Aside0 (wrap64 (j : Int) = (j : Int)) ∧ Aside0 (wrap64 ((d : Int) + 1) = (d : Int) + 1) := by
  have e : L - d < L := by omega
  refine ⟨L - d, by omega, rfl, by omega, by omega, ⟨?_⟩, ⟨?_⟩⟩ <;> (unfold wrap64; omega)
set_option maxHeartbeats 8000000 in
set_option maxRecDepth 100000 in
theorem tail_bits (s : Nat) (A : Option Addr) (c : Nat) (l : List Int) (w : World) (hs : s ≤ 255) (hR : Aside0 (ReadsOf (Value.int .u8) (0 : Int) w A l.length l)) (hc : l.length ≤ c) (hm : l.length ≤ 140737488351232) :
    Calls Try.prog 4 #[.int .u8 (s : Int), .slice A l.length c] w fun e w' => e = .returned (.bool true) ∧ Below w.heap.size w w' := by
  obtain ⟨N, hN, hNs⟩ : ∃ N : Nat, (s : Int) + 1 = (N : Int) ∧ N = s + 1 := ⟨s + 1, by omega, rfl⟩
  have HNEW := Aside0.mk (fun W => win_new W N (by omega) (by omega))
  have hN1 : 1 ≤ N := by omega
  have hN2 : N ≤ 256 := by omega
  clear hNs
  obtain ⟨Kn, hK, hKm⟩ : ∃ Kn : Nat, (if (l.length : Int) < (N : Int) then (l.length : Int) else (N : Int)) = (Kn : Int) ∧ Kn = min N l.length := ⟨min N l.length, by split <;> omega, rfl⟩
  have HKL := Aside0.mk (show (lastN N l).length = Kn by rw [lastN_len, hKm])
  obtain ⟨M, hLM, hM⟩ : ∃ M : Nat, (l.length : Int) - (Kn : Int) = (M : Int) ∧ M = l.length - N := ⟨l.length - N, by omega, rfl⟩
  obtain ⟨i0, hi, _, hsz, _⟩ := info_parts info5'
  obtain ⟨A2, hcut, hrd⟩ := print_cut_of (P := Try.prog) (Value.int .u8) (0 : Int) 22 5 .i64 Try.underlying22 hi hsz A l.length c M (by omega)
  obtain ⟨m2, hm2⟩ : ∃ m2, l.length - M = m2 := ⟨_, rfl⟩
  obtain ⟨c2, hc2⟩ : ∃ c2, c - M = c2 := ⟨_, rfl⟩
  have HRD := Aside0.mk (show ReadsOf (Value.int .u8) (0 : Int) w A2 m2 (l.drop M) ∧ m2 ≤ c2 from ⟨by rw [← hm2]; exact hrd w l hc hR.out, by omega⟩)
  rw [hm2, hc2] at hcut
  have HLQ : Aside0 (l.drop M = lastN N l ∧ (lastN N l).length ≤ 9223372036854775806) := ⟨by rw [hM]; rfl, by rw [HKL.out]; omega⟩
  have HBK := Aside0.mk (fun d h1 h2 => lastN_back N l d h1 h2)
  rw [← hKm] at HBK
  have HKM := Aside0.mk hKm
  have hwM : wrap64 (M : Int) = (M : Int) := by unfold wrap64; omega
  clear hrd hi hsz hM hm2 hc2 hKm
  go_enter Try.func4, Try.ntmps4
  go_wp2_with (go_at_call 8; (with_reducible refine (HNEW.out _).mono ?_); rintro e w1 ⟨rfl, hw, hb⟩; have HW := Aside0.mk hw; have HB := Aside0.mk hb; clear hw hb)
  go_loopg [8] (l.length + 1) (fun kq v8 w' => ∃ (i : Nat), v8 = .int .i64 (i : Int) ∧ i + kq = l.length + 1 ∧ i ≤ l.length ∧ Aside0 (Win w' (w.heap.size + 1) w.heap.size N (lastN N (l.take i))) ∧ Aside0 (Below w.heap.size w w'))
  case atStart => exact ⟨0, rfl, by omega, by omega, ⟨by have := HW.out; rw [List.take_zero, show lastN N ([] : List Int) = [] from List.drop_nil]; exact this⟩, HB⟩
  case round =>
    clear HW HB HNEW
    obtain ⟨i, rfl, hk, hil, HW, HB⟩ := hrel
    cases gk with
    | zero => exact absurd hk (by omega)
    | succ k1 =>
    by_cases hp : i < l.length
    · have hpb : decide ((i : Int) < (l.length : Int)) = true := decide_eq_true (by omega)
      obtain ⟨ad, rfl, hx⟩ := ReadsOf.at_ hR.out (i : Int) (by omega) (by omega)
      rw [Int.toNat_natCast] at hx
      replace hx := pw_cell_below HB.out hx
      have hrd : rdOf (0 : Int) l (i : Int) = l.getD i 0 := by simp [rdOf]
      rw [hrd] at hx
      have HL := Aside0.mk (lastN_take N l i hp)
      have hi0 : (0 : Int) ≤ (i : Int) := by omega
      have hi1 : (i : Int) < (l.length : Int) := by omega
      generalize l.getD i 0 = X at *
      clear hrd
      go_wp2_with (go_at_call 9; (with_reducible refine (win_put X HW).mono ?_); rintro e w2 ⟨rfl, hw, hk⟩; have HW2 := Aside0.mk hw; have HB2 := Aside0.mk (rk_win HB.out hk (Nat.le_succ _) (Nat.le_refl _)); clear hw hk HW HB hx)
      go_roundg k1
      case measure => omega
      case rel => exact ⟨i + 1, by first | rfl | (congr 1; omega), by omega, by omega, ⟨by have := HW2.out; rw [HL.out] at this; exact this⟩, HB2⟩
    · obtain rfl : i = l.length := by omega
      have hpb : decide ((l.length : Int) < (l.length : Int)) = false := decide_eq_false (by omega)
      rw [List.take_length] at HW
      replace HW : Aside0 (Win wr.drew (w.heap.size + 1) w.heap.size N (lastN N l)) := ⟨win_drawn HW.out ⟨⟨1, rfl⟩⟩⟩
      replace HB : Aside0 (Below w.heap.size w wr.drew) := ⟨below_drew HB.out⟩
      have hkk : ((Kn : Int) != (Kn : Int)) = false := bne_self_eq_false _
      rcases Nat.lt_or_ge l.length N with hLN | hLN
      · have hlt : (l.length : Int) < (N : Int) := by omega
        have e : (l.length : Int) = (Kn : Int) := by have := HKM.out; omega
        clear hK
        go_wp2
        try rw [e]
        clear e hlt hLN
        refine start_ (n := 16) (S := fun w' => True) (ds := []) #[false, false, false, false, false, false, false, false, false, false, false, false, false, false, false, false] (by kernel_rfl) rfl rfl trivial (fun hHeld => ?_)
        generalize wr.drew = W9 at HW HB hHeld ⊢
        refine pure_ (i := 0) (N := some 47) (v := ?_) (a' := ?_) #[true, false, false, false, false, false, false, false, false, false, false, false, false, false, false, false] rfl rfl (by kernel_rfl) (fun _ _ _ h => h) (Or.inl ⟨by rfl, ?_⟩) ?_ ?_
        rotate_left
        · intro w'
          go_simp
          with_reducible rfl
        rotate_left
        · simp only [Act.put, List.setIfInBounds_toArray, List.set_cons_zero, List.set_cons_succ, i64_w, i32_w]
          rfl
        refine pure_ (i := 2) (N := some 49) (v := ?_) (a' := ?_) #[true, false, true, false, false, false, false, false, false, false, false, false, false, false, false, false] rfl rfl (by kernel_rfl) (fun _ _ _ h => h) (Or.inl ⟨by rfl, ?_⟩) ?_ ?_
        rotate_left
        · intro w'
          go_simp
          with_reducible rfl
        rotate_left
        · simp only [Act.put, List.setIfInBounds_toArray, List.set_cons_zero, List.set_cons_succ, i64_w, i32_w]
          rfl
        refine one_ (i := 1) (N := some 48) #[true, true, true, false, false, false, false, false, false, false, false, false, false, false, false, false] rfl rfl (by kernel_rfl) (by decide) (fun K hK => ?_)
        refine goes_ Try.func12 (by kernel_rfl) rfl #[.pointer (some ⟨w.heap.size + 1, 0, none⟩)] (by rfl) rfl rfl (by simp only [List.map_toArray, List.map_cons, List.map_nil]; rfl) ?_
        with_reducible refine (win_lenK HW HKL).mono ?_
        rintro e w1 ⟨rfl, hd⟩
        refine ⟨_, rfl, ?_⟩
        have HW1 := Aside0.mk (win_drawn HW.out hd)
        have HB1 := Aside0.mk (below_step HB.out hd.below)
        clear HW HB hd
        refine hK.out _ _ trivial (fun hHeld => ?_)
        clear hK K
        refine norm_ (a' := ?_) ?_ ?_
        rotate_left
        · show Act.put _ (some 48) _ = _
          simp only [Act.put, List.setIfInBounds_toArray, List.set_cons_zero, List.set_cons_succ, i64_w, i32_w]
          rfl
        refine pure_ (i := 3) (N := some 50) (v := ?_) (a' := ?_) #[true, true, true, true, false, false, false, false, false, false, false, false, false, false, false, false] rfl rfl (by kernel_rfl) (fun _ _ _ h => h) (Or.inl ⟨by rfl, ?_⟩) ?_ ?_
        rotate_left
        · intro w'
          go_simp
          with_reducible rfl
        rotate_left
        · simp only [Act.put, List.setIfInBounds_toArray, List.set_cons_zero, List.set_cons_succ, i64_w, i32_w]
          rfl
        refine pure_ (i := 4) (N := some 51) (v := ?_) (a' := ?_) #[true, true, true, true, true, false, false, false, false, false, false, false, false, false, false, false] rfl rfl (by kernel_rfl) (fun _ _ _ h => h) (Or.inl ⟨by rfl, ?_⟩) ?_ ?_
        rotate_left
        · intro w'
          go_simp
          with_reducible rfl
        rotate_left
        · simp only [Act.put, List.setIfInBounds_toArray, List.set_cons_zero, List.set_cons_succ, i64_w, i32_w]
          rfl
        refine pure_ (i := 5) (N := some 52) (v := ?_) (a' := ?_) #[true, true, true, true, true, true, false, false, false, false, false, false, false, false, false, false] rfl rfl (by kernel_rfl) (fun _ _ _ h => h) (Or.inl ⟨by rfl, ?_⟩) ?_ ?_
        rotate_left
        · intro w'
          go_simp
          with_reducible rfl
        rotate_left
        · simp only [Act.put, List.setIfInBounds_toArray, List.set_cons_zero, List.set_cons_succ, i64_w, i32_w]
          rfl
        refine pure_ (i := 7) (N := some 54) (v := ?_) (a' := ?_) #[true, true, true, true, true, true, false, true, false, false, false, false, false, false, false, false] rfl rfl (by kernel_rfl) (fun _ _ _ h => h) (Or.inl ⟨by rfl, ?_⟩) ?_ ?_
        rotate_left
        · intro w'
          go_simp
          with_reducible rfl
        rotate_left
        · simp only [Act.put, List.setIfInBounds_toArray, List.set_cons_zero, List.set_cons_succ, i64_w, i32_w]
          rfl
        refine pure_ (i := 8) (N := some 55) (v := ?_) (a' := ?_) #[true, true, true, true, true, true, false, true, true, false, false, false, false, false, false, false] rfl rfl (by kernel_rfl) (fun _ _ _ h => h) (Or.inl ⟨by rfl, ?_⟩) ?_ ?_
        rotate_left
        · intro w'
          go_simp
          with_reducible rfl
        rotate_left
        · simp only [Act.put, List.setIfInBounds_toArray, List.set_cons_zero, List.set_cons_succ, i64_w, i32_w]
          rfl
        refine pure_ (i := 9) (N := some 56) (v := ?_) (a' := ?_) #[true, true, true, true, true, true, false, true, true, true, false, false, false, false, false, false] rfl rfl (by kernel_rfl) (fun _ _ _ h => h) (Or.inl ⟨by rfl, ?_⟩) ?_ ?_
        rotate_left
        · intro w'
          go_simp
          with_reducible rfl
        rotate_left
        · simp only [Act.put, List.setIfInBounds_toArray, List.set_cons_zero, List.set_cons_succ, i64_w, i32_w]
          rfl
        refine pure_ (i := 10) (N := some 57) (v := ?_) (a' := ?_) #[true, true, true, true, true, true, false, true, true, true, true, false, false, false, false, false] rfl rfl (by kernel_rfl) (fun _ _ _ h => h) (Or.inl ⟨by rfl, ?_⟩) ?_ ?_
        rotate_left
        · intro w'
          go_simp
          with_reducible rfl
        rotate_left
        · simp only [Act.put, List.setIfInBounds_toArray, List.set_cons_zero, List.set_cons_succ, i64_w, i32_w]
          rfl
        refine pure_ (i := 11) (N := some 58) (v := ?_) (a' := ?_) #[true, true, true, true, true, true, false, true, true, true, true, true, false, false, false, false] rfl rfl (by kernel_rfl) (fun _ _ _ h => h) (Or.inl ⟨by rfl, ?_⟩) ?_ ?_
        rotate_left
        · intro w'
          go_simp
          with_reducible rfl
        rotate_left
        · simp only [Act.put, List.setIfInBounds_toArray, List.set_cons_zero, List.set_cons_succ, i64_w, i32_w]
          rfl
        refine pure_ (i := 12) (N := some 59) (v := ?_) (a' := ?_) #[true, true, true, true, true, true, false, true, true, true, true, true, true, false, false, false] rfl rfl (by kernel_rfl) (fun _ _ _ h => h) (Or.inl ⟨by rfl, ?_⟩) ?_ ?_
        rotate_left
        · intro w'
          go_simp
          with_reducible rfl
        rotate_left
        · simp only [Act.put, List.setIfInBounds_toArray, List.set_cons_zero, List.set_cons_succ, i64_w, i32_w]
          rfl
        refine one_ (i := 6) (N := some 53) #[true, true, true, true, true, true, true, true, true, true, true, true, true, false, false, false] rfl rfl (by kernel_rfl) (by decide) (fun K hK => ?_)
        refine goes_ Try.func11 (by kernel_rfl) rfl #[.pointer (some ⟨w.heap.size + 1, 0, none⟩)] (by rfl) rfl rfl (by simp only [List.map_toArray, List.map_cons, List.map_nil]; rfl) ?_
        with_reducible refine (win_tailK HW1 HKL).mono ?_
        rintro e w2 ⟨rfl, hw, hz, hb⟩
        refine ⟨_, rfl, ?_⟩
        have HW2 := Aside0.mk hw
        have HB2 := Aside0.mk (below_step HB1.out hb)
        have HZ := Aside0.mk hz
        clear HW1 HB1 hw hb hz
        refine hK.out _ _ trivial (fun hHeld => ?_)
        clear hK K
        refine norm_ (a' := ?_) ?_ ?_
        rotate_left
        · show Act.put _ (some 53) _ = _
          simp only [Act.put, List.setIfInBounds_toArray, List.set_cons_zero, List.set_cons_succ, i64_w, i32_w]
          rfl
        refine one_ (i := 13) (N := some 60) #[true, true, true, true, true, true, true, true, true, true, true, true, true, true, false, false] rfl rfl (by kernel_rfl) (by decide) (fun K hK => ?_)
        refine goes_ Try.func10 (by kernel_rfl) rfl #[.slice (some ⟨w1.heap.size, 0, none⟩) Kn Kn, .slice A2 m2 c2] (by rfl) rfl rfl (by simp only [List.map_toArray, List.map_cons, List.map_nil]; rfl) ?_
        with_reducible refine (same_tailK HZ HB2 HRD HLQ HKL).mono ?_
        rintro e w3 ⟨rfl, hd⟩
        refine ⟨_, rfl, ?_⟩
        have HW3 := Aside0.mk (win_drawn HW2.out hd)
        have HB3 := Aside0.mk (below_step HB2.out hd.below)
        clear HW2 HB2 hd HZ
        refine hK.out _ _ trivial (fun hHeld => ?_)
        clear hK K
        refine norm_ (a' := ?_) ?_ ?_
        rotate_left
        · show Act.put _ (some 60) _ = _
          simp only [Act.put, List.setIfInBounds_toArray, List.set_cons_zero, List.set_cons_succ, i64_w, i32_w]
          rfl
        refine pure_ (i := 14) (N := some 61) (v := ?_) (a' := ?_) #[true, true, true, true, true, true, true, true, true, true, true, true, true, true, true, false] rfl rfl (by kernel_rfl) (fun _ _ _ h => h) (Or.inl ⟨by rfl, ?_⟩) ?_ ?_
        rotate_left
        · intro w'
          go_simp
          with_reducible rfl
        rotate_left
        · simp only [Act.put, List.setIfInBounds_toArray, List.set_cons_zero, List.set_cons_succ, i64_w, i32_w]
          rfl
        refine pure_ (i := 15) (N := some 62) (v := ?_) (a' := ?_) #[true, true, true, true, true, true, true, true, true, true, true, true, true, true, true, true] rfl rfl (by kernel_rfl) (fun _ _ _ h => h) (Or.inl ⟨by rfl, ?_⟩) ?_ ?_
        rotate_left
        · intro w'
          go_simp
          with_reducible rfl
        rotate_left
        · simp only [Act.put, List.setIfInBounds_toArray, List.set_cons_zero, List.set_cons_succ, i64_w, i32_w]
          rfl
        refine done_ (by kernel_rfl) ?_
        have HM := Aside0.mk hm
        clear hcut hLM hHeld hwM HRD HLQ hkk hpb hp hil hk hm hc hs hN
        go_wp2
        go_loopg [10] (Kn + 1) (fun kq v10 w' => ∃ (d : Nat), v10 = .int .i64 (d : Int) ∧ 1 ≤ d ∧ d + kq = Kn + 2 ∧ d ≤ Kn + 1 ∧ Aside0 (Win w' (w.heap.size + 1) w.heap.size N (lastN N l)) ∧ Aside0 (Below w.heap.size w w'))
        case atStart => exact ⟨1, rfl, by omega, by omega, by omega, HW3, HB3⟩
        case round =>
          clear HW3 HB3
          obtain ⟨d, rfl, hd1, hdk, hdK, HW, HB⟩ := hrel
          cases gk with
          | zero => exact absurd hdk (by omega)
          | succ k2 =>
          have hKn : Kn ≤ 256 := by have := HKM.out; omega
          by_cases hdp : d ≤ Kn
          · have hdb : decide ((d : Int) ≤ (Kn : Int)) = true := decide_eq_true (by omega)
            have hHX := HBK.out d hd1 hdp
            obtain ⟨j, hj, hjj, hj0, hj1, HWJ, HWD⟩ := kn_facts HKM.out hd1 hdp hN2 HM.out
            rw [← hjj] at hHX
            clear hjj
            obtain ⟨ad, hAe, hx⟩ := ReadsOf.at_ hR.out (j : Int) hj0 hj1
            have HAE := Aside0.mk hAe
            clear hAe
            rw [Int.toNat_natCast] at hx
            replace hx := pw_cell_below HB.out hx
            have hrd : rdOf (0 : Int) l (j : Int) = l.getD j 0 := by simp [rdOf]
            rw [hrd] at hx
            generalize l.getD j 0 = X at hx hHX
            have HBKd := Aside0.mk (win_backX d HW HKL hd1 hdp hHX)
            have hxx : (X != X) = false := bne_self_eq_false _
            clear hrd
            obtain rfl := HAE.out
            clear hHX HBK HAE
            have hwj := HWJ.out
            have hwd := HWD.out
            go_wp2_with (go_at_call 13; (with_reducible refine (HBKd.out).mono ?_); rintro e w4 ⟨rfl, hd⟩; have HW4 := Aside0.mk (win_drawn HW.out hd); have HB4 := Aside0.mk (below_step HB.out hd.below); have HX4 := Aside0.mk (pw_cell_below hd.below hx); replace hx := HX4.out; clear hd HW HB HBKd HX4)
            clear hwj HWJ hx
            go_roundg k2
            case measure => omega
            case rel => exact ⟨d + 1, rfl, by omega, by omega, by omega, HW4, HB4⟩
          · obtain rfl : d = Kn + 1 := by omega
            have hdb : decide (((Kn + 1 : Nat) : Int) ≤ (Kn : Int)) = false := decide_eq_false (by omega)
            have hdb2 : decide ((Kn : Int) + 1 ≤ (Kn : Int)) = false := decide_eq_false (by omega)
            have HWD := Aside0.mk (show wrap64 ((Kn : Int) + 1) = (Kn : Int) + 1 by unfold wrap64; omega)
            have HF1 := Aside0.mk (fun W (hw : Aside0 (Win W (w.heap.size + 1) w.heap.size N (lastN N l))) => win_back_no ((Kn : Int) + 1) hw (.inr (by rw [HKL.out]; omega)))
            have HF2 := Aside0.mk (fun W (hw : Aside0 (Win W (w.heap.size + 1) w.heap.size N (lastN N l))) => win_back_no 0 hw (.inl (by omega)))
            have hwd := HWD.out
            clear hdK hd1 hdk hdp
            go_wp2_with (first
              | (go_at_call 13; (with_reducible refine (HF1.out _ HW).mono ?_); rintro e w4 ⟨rfl, hd⟩; have HW4 := Aside0.mk (win_drawn HW.out hd); have HB4 := Aside0.mk (below_step HB.out hd.below); clear hd HW HB HF1)
              | (go_at_call 13; (with_reducible refine (HF2.out _ HW4).mono ?_); rintro e w5 ⟨rfl, hd⟩; have HB5 := Aside0.mk (below_step HB4.out hd.below); clear hd HB4 HF2))
            go_ret
            exact ⟨rfl, HB5.out⟩
      · have hlt : ¬ (l.length : Int) < (N : Int) := by omega
        have e : (N : Int) = (Kn : Int) := by have := HKM.out; omega
        clear hK
        go_wp2
        try rw [e]
        clear e hlt hLN
        refine start_ (n := 16) (S := fun w' => True) (ds := []) #[false, false, false, false, false, false, false, false, false, false, false, false, false, false, false, false] (by kernel_rfl) rfl rfl trivial (fun hHeld => ?_)
        generalize wr.drew = W9 at HW HB hHeld ⊢
        refine pure_ (i := 0) (N := some 47) (v := ?_) (a' := ?_) #[true, false, false, false, false, false, false, false, false, false, false, false, false, false, false, false] rfl rfl (by kernel_rfl) (fun _ _ _ h => h) (Or.inl ⟨by rfl, ?_⟩) ?_ ?_
        rotate_left
        · intro w'
          go_simp
          with_reducible rfl
        rotate_left
        · simp only [Act.put, List.setIfInBounds_toArray, List.set_cons_zero, List.set_cons_succ, i64_w, i32_w]
          rfl
        refine pure_ (i := 2) (N := some 49) (v := ?_) (a' := ?_) #[true, false, true, false, false, false, false, false, false, false, false, false, false, false, false, false] rfl rfl (by kernel_rfl) (fun _ _ _ h => h) (Or.inl ⟨by rfl, ?_⟩) ?_ ?_
        rotate_left
        · intro w'
          go_simp
          with_reducible rfl
        rotate_left
        · simp only [Act.put, List.setIfInBounds_toArray, List.set_cons_zero, List.set_cons_succ, i64_w, i32_w]
          rfl
        refine one_ (i := 1) (N := some 48) #[true, true, true, false, false, false, false, false, false, false, false, false, false, false, false, false] rfl rfl (by kernel_rfl) (by decide) (fun K hK => ?_)
        refine goes_ Try.func12 (by kernel_rfl) rfl #[.pointer (some ⟨w.heap.size + 1, 0, none⟩)] (by rfl) rfl rfl (by simp only [List.map_toArray, List.map_cons, List.map_nil]; rfl) ?_
        with_reducible refine (win_lenK HW HKL).mono ?_
        rintro e w1 ⟨rfl, hd⟩
        refine ⟨_, rfl, ?_⟩
        have HW1 := Aside0.mk (win_drawn HW.out hd)
        have HB1 := Aside0.mk (below_step HB.out hd.below)
        clear HW HB hd
        refine hK.out _ _ trivial (fun hHeld => ?_)
        clear hK K
        refine norm_ (a' := ?_) ?_ ?_
        rotate_left
        · show Act.put _ (some 48) _ = _
          simp only [Act.put, List.setIfInBounds_toArray, List.set_cons_zero, List.set_cons_succ, i64_w, i32_w]
          rfl
        refine pure_ (i := 3) (N := some 50) (v := ?_) (a' := ?_) #[true, true, true, true, false, false, false, false, false, false, false, false, false, false, false, false] rfl rfl (by kernel_rfl) (fun _ _ _ h => h) (Or.inl ⟨by rfl, ?_⟩) ?_ ?_
        rotate_left
        · intro w'
          go_simp
          with_reducible rfl
        rotate_left
        · simp only [Act.put, List.setIfInBounds_toArray, List.set_cons_zero, List.set_cons_succ, i64_w, i32_w]
          rfl
        refine pure_ (i := 4) (N := some 51) (v := ?_) (a' := ?_) #[true, true, true, true, true, false, false, false, false, false, false, false, false, false, false, false] rfl rfl (by kernel_rfl) (fun _ _ _ h => h) (Or.inl ⟨by rfl, ?_⟩) ?_ ?_
        rotate_left
        · intro w'
          go_simp
          with_reducible rfl
        rotate_left
        · simp only [Act.put, List.setIfInBounds_toArray, List.set_cons_zero, List.set_cons_succ, i64_w, i32_w]
          rfl
        refine pure_ (i := 5) (N := some 52) (v := ?_) (a' := ?_) #[true, true, true, true, true, true, false, false, false, false, false, false, false, false, false, false] rfl rfl (by kernel_rfl) (fun _ _ _ h => h) (Or.inl ⟨by rfl, ?_⟩) ?_ ?_
        rotate_left
        · intro w'
          go_simp
          with_reducible rfl
        rotate_left
        · simp only [Act.put, List.setIfInBounds_toArray, List.set_cons_zero, List.set_cons_succ, i64_w, i32_w]
          rfl
        refine pure_ (i := 7) (N := some 54) (v := ?_) (a' := ?_) #[true, true, true, true, true, true, false, true, false, false, false, false, false, false, false, false] rfl rfl (by kernel_rfl) (fun _ _ _ h => h) (Or.inl ⟨by rfl, ?_⟩) ?_ ?_
        rotate_left
        · intro w'
          go_simp
          with_reducible rfl
        rotate_left
        · simp only [Act.put, List.setIfInBounds_toArray, List.set_cons_zero, List.set_cons_succ, i64_w, i32_w]
          rfl
        refine pure_ (i := 8) (N := some 55) (v := ?_) (a' := ?_) #[true, true, true, true, true, true, false, true, true, false, false, false, false, false, false, false] rfl rfl (by kernel_rfl) (fun _ _ _ h => h) (Or.inl ⟨by rfl, ?_⟩) ?_ ?_
        rotate_left
        · intro w'
          go_simp
          with_reducible rfl
        rotate_left
        · simp only [Act.put, List.setIfInBounds_toArray, List.set_cons_zero, List.set_cons_succ, i64_w, i32_w]
          rfl
        refine pure_ (i := 9) (N := some 56) (v := ?_) (a' := ?_) #[true, true, true, true, true, true, false, true, true, true, false, false, false, false, false, false] rfl rfl (by kernel_rfl) (fun _ _ _ h => h) (Or.inl ⟨by rfl, ?_⟩) ?_ ?_
        rotate_left
        · intro w'
          go_simp
          with_reducible rfl
        rotate_left
        · simp only [Act.put, List.setIfInBounds_toArray, List.set_cons_zero, List.set_cons_succ, i64_w, i32_w]
          rfl
        refine pure_ (i := 10) (N := some 57) (v := ?_) (a' := ?_) #[true, true, true, true, true, true, false, true, true, true, true, false, false, false, false, false] rfl rfl (by kernel_rfl) (fun _ _ _ h => h) (Or.inl ⟨by rfl, ?_⟩) ?_ ?_
        rotate_left
        · intro w'
          go_simp
          with_reducible rfl
        rotate_left
        · simp only [Act.put, List.setIfInBounds_toArray, List.set_cons_zero, List.set_cons_succ, i64_w, i32_w]
          rfl
        refine pure_ (i := 11) (N := some 58) (v := ?_) (a' := ?_) #[true, true, true, true, true, true, false, true, true, true, true, true, false, false, false, false] rfl rfl (by kernel_rfl) (fun _ _ _ h => h) (Or.inl ⟨by rfl, ?_⟩) ?_ ?_
        rotate_left
        · intro w'
          go_simp
          with_reducible rfl
        rotate_left
        · simp only [Act.put, List.setIfInBounds_toArray, List.set_cons_zero, List.set_cons_succ, i64_w, i32_w]
          rfl
        refine pure_ (i := 12) (N := some 59) (v := ?_) (a' := ?_) #[true, true, true, true, true, true, false, true, true, true, true, true, true, false, false, false] rfl rfl (by kernel_rfl) (fun _ _ _ h => h) (Or.inl ⟨by rfl, ?_⟩) ?_ ?_
        rotate_left
        · intro w'
          go_simp
          with_reducible rfl
        rotate_left
        · simp only [Act.put, List.setIfInBounds_toArray, List.set_cons_zero, List.set_cons_succ, i64_w, i32_w]
          rfl
        refine one_ (i := 6) (N := some 53) #[true, true, true, true, true, true, true, true, true, true, true, true, true, false, false, false] rfl rfl (by kernel_rfl) (by decide) (fun K hK => ?_)
        refine goes_ Try.func11 (by kernel_rfl) rfl #[.pointer (some ⟨w.heap.size + 1, 0, none⟩)] (by rfl) rfl rfl (by simp only [List.map_toArray, List.map_cons, List.map_nil]; rfl) ?_
        with_reducible refine (win_tailK HW1 HKL).mono ?_
        rintro e w2 ⟨rfl, hw, hz, hb⟩
        refine ⟨_, rfl, ?_⟩
        have HW2 := Aside0.mk hw
        have HB2 := Aside0.mk (below_step HB1.out hb)
        have HZ := Aside0.mk hz
        clear HW1 HB1 hw hb hz
        refine hK.out _ _ trivial (fun hHeld => ?_)
        clear hK K
        refine norm_ (a' := ?_) ?_ ?_
        rotate_left
        · show Act.put _ (some 53) _ = _
          simp only [Act.put, List.setIfInBounds_toArray, List.set_cons_zero, List.set_cons_succ, i64_w, i32_w]
          rfl
        refine one_ (i := 13) (N := some 60) #[true, true, true, true, true, true, true, true, true, true, true, true, true, true, false, false] rfl rfl (by kernel_rfl) (by decide) (fun K hK => ?_)
        refine goes_ Try.func10 (by kernel_rfl) rfl #[.slice (some ⟨w1.heap.size, 0, none⟩) Kn Kn, .slice A2 m2 c2] (by rfl) rfl rfl (by simp only [List.map_toArray, List.map_cons, List.map_nil]; rfl) ?_
        with_reducible refine (same_tailK HZ HB2 HRD HLQ HKL).mono ?_
        rintro e w3 ⟨rfl, hd⟩
        refine ⟨_, rfl, ?_⟩
        have HW3 := Aside0.mk (win_drawn HW2.out hd)
        have HB3 := Aside0.mk (below_step HB2.out hd.below)
        clear HW2 HB2 hd HZ
        refine hK.out _ _ trivial (fun hHeld => ?_)
        clear hK K
        refine norm_ (a' := ?_) ?_ ?_
        rotate_left
        · show Act.put _ (some 60) _ = _
          simp only [Act.put, List.setIfInBounds_toArray, List.set_cons_zero, List.set_cons_succ, i64_w, i32_w]
          rfl
        refine pure_ (i := 14) (N := some 61) (v := ?_) (a' := ?_) #[true, true, true, true, true, true, true, true, true, true, true, true, true, true, true, false] rfl rfl (by kernel_rfl) (fun _ _ _ h => h) (Or.inl ⟨by rfl, ?_⟩) ?_ ?_
        rotate_left
        · intro w'
          go_simp
          with_reducible rfl
        rotate_left
        · simp only [Act.put, List.setIfInBounds_toArray, List.set_cons_zero, List.set_cons_succ, i64_w, i32_w]
          rfl
        refine pure_ (i := 15) (N := some 62) (v := ?_) (a' := ?_) #[true, true, true, true, true, true, true, true, true, true, true, true, true, true, true, true] rfl rfl (by kernel_rfl) (fun _ _ _ h => h) (Or.inl ⟨by rfl, ?_⟩) ?_ ?_
        rotate_left
        · intro w'
          go_simp
          with_reducible rfl
        rotate_left
        · simp only [Act.put, List.setIfInBounds_toArray, List.set_cons_zero, List.set_cons_succ, i64_w, i32_w]
          rfl
        refine done_ (by kernel_rfl) ?_
        have HM := Aside0.mk hm
        clear hcut hLM hHeld hwM HRD HLQ hkk hpb hp hil hk hm hc hs hN
        go_wp2
        go_loopg [10] (Kn + 1) (fun kq v10 w' => ∃ (d : Nat), v10 = .int .i64 (d : Int) ∧ 1 ≤ d ∧ d + kq = Kn + 2 ∧ d ≤ Kn + 1 ∧ Aside0 (Win w' (w.heap.size + 1) w.heap.size N (lastN N l)) ∧ Aside0 (Below w.heap.size w w'))
        case atStart => exact ⟨1, rfl, by omega, by omega, by omega, HW3, HB3⟩
        case round =>
          clear HW3 HB3
          obtain ⟨d, rfl, hd1, hdk, hdK, HW, HB⟩ := hrel
          cases gk with
          | zero => exact absurd hdk (by omega)
          | succ k2 =>
          have hKn : Kn ≤ 256 := by have := HKM.out; omega
          by_cases hdp : d ≤ Kn
          · have hdb : decide ((d : Int) ≤ (Kn : Int)) = true := decide_eq_true (by omega)
            have hHX := HBK.out d hd1 hdp
            obtain ⟨j, hj, hjj, hj0, hj1, HWJ, HWD⟩ := kn_facts HKM.out hd1 hdp hN2 HM.out
            rw [← hjj] at hHX
            clear hjj
            obtain ⟨ad, hAe, hx⟩ := ReadsOf.at_ hR.out (j : Int) hj0 hj1
            have HAE := Aside0.mk hAe
            clear hAe
            rw [Int.toNat_natCast] at hx
            replace hx := pw_cell_below HB.out hx
            have hrd : rdOf (0 : Int) l (j : Int) = l.getD j 0 := by simp [rdOf]
            rw [hrd] at hx
            generalize l.getD j 0 = X at hx hHX
            have HBKd := Aside0.mk (win_backX d HW HKL hd1 hdp hHX)
            have hxx : (X != X) = false := bne_self_eq_false _
            clear hrd
            obtain rfl := HAE.out
            clear hHX HBK HAE
            have hwj := HWJ.out
            have hwd := HWD.out
            go_wp2_with (go_at_call 13; (with_reducible refine (HBKd.out).mono ?_); rintro e w4 ⟨rfl, hd⟩; have HW4 := Aside0.mk (win_drawn HW.out hd); have HB4 := Aside0.mk (below_step HB.out hd.below); have HX4 := Aside0.mk (pw_cell_below hd.below hx); replace hx := HX4.out; clear hd HW HB HBKd HX4)
            clear hwj HWJ hx
            go_roundg k2
            case measure => omega
            case rel => exact ⟨d + 1, rfl, by omega, by omega, by omega, HW4, HB4⟩
          · obtain rfl : d = Kn + 1 := by omega
            have hdb : decide (((Kn + 1 : Nat) : Int) ≤ (Kn : Int)) = false := decide_eq_false (by omega)
            have hdb2 : decide ((Kn : Int) + 1 ≤ (Kn : Int)) = false := decide_eq_false (by omega)
            have HWD := Aside0.mk (show wrap64 ((Kn : Int) + 1) = (Kn : Int) + 1 by unfold wrap64; omega)
            have HF1 := Aside0.mk (fun W (hw : Aside0 (Win W (w.heap.size + 1) w.heap.size N (lastN N l))) => win_back_no ((Kn : Int) + 1) hw (.inr (by rw [HKL.out]; omega)))
            have HF2 := Aside0.mk (fun W (hw : Aside0 (Win W (w.heap.size + 1) w.heap.size N (lastN N l))) => win_back_no 0 hw (.inl (by omega)))
            have hwd := HWD.out
            clear hdK hd1 hdk hdp
            go_wp2_with (first
              | (go_at_call 13; (with_reducible refine (HF1.out _ HW).mono ?_); rintro e w4 ⟨rfl, hd⟩; have HW4 := Aside0.mk (win_drawn HW.out hd); have HB4 := Aside0.mk (below_step HB.out hd.below); clear hd HW HB HF1)
              | (go_at_call 13; (with_reducible refine (HF2.out _ HW4).mono ?_); rintro e w5 ⟨rfl, hd⟩; have HB5 := Aside0.mk (below_step HB4.out hd.below); clear hd HB4 HF2))
            go_ret
            exact ⟨rfl, HB5.out⟩
theorem tail_row (a : Int) (a0 : Option Addr) (len0 cap0 : Nat) (z0 : List Int) (w : World) (wa : (Lit.int .u8 a).wf = true) (w0 : (a0 = none ∧ len0 = 0 ∧ cap0 = 0 ∧ z0 = []) ∨ ∃ x, a0 = some x ∧ len0 ≤ cap0 ∧ cap0 ≤ maxLen ∧ z0.length = cap0 ∧ (∀ i, i < z0.length → w.cell? (x.add i) = some (.int .u8 (z0.getD i 0))) ∧ ∀ n ∈ z0, (Lit.int .u8 n).wf = true) (y0 : len0 * 1 ≤ 140737488351232) :
    Calls Try.prog 4 #[.int .u8 a, .slice a0 len0 cap0] w fun e w' => e = .returned (.bool true) ∧ Below w.heap.size w w' := by
  obtain ⟨l0, rfl, hr0, hm0, hw0, hc0⟩ := ReadsInt.ofRowC w0
  have h : 0 ≤ a ∧ a ≤ 255 := by simpa [Lit.wf, IntKind.min, IntKind.max, IntKind.signed, IntKind.bits] using wa
  obtain ⟨s, rfl⟩ : ∃ s : Nat, a = (s : Int) := ⟨a.toNat, by omega⟩
  exact tail_bits s a0 cap0 l0 w (by omega) ⟨hr0⟩ hc0 (by omega)
end Go.Proofs.Ytcpijkckjahfdaa.PAll
