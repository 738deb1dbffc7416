/- RingRepeat: what is repeated are the bytes at the end, again and again, and they stand behind the others. -/
import Derived.Test.YtcpijkckjahfdaaRep
namespace Go.Proofs.Ytcpijkckjahfdaa.PAll
open Go.RowKit Go.Proofs.YtcpijkckjahfdaaW.PrintWords Go.Proofs.YtcpijkckjahfdaaW.PrintLast Go.Proofs.YtcpijkckjahfdaaW.PrintMore
attribute [local go_sem] max2_int min2_int max_two min_two max_three min_three max_four min_four   -- for this text's walks alone
set_option linter.unusedVariables false
set_option linter.unusedSimpArgs false
theorem win_drew {W : World} {g gb N : Nat} {q : List Int} (h : Win W g gb N q) : Win W.drew g gb N q := h
theorem lastN_short (N : Nat) (l : List Int) (h : l.length ≤ N) : lastN N l = l := by unfold lastN; rw [show l.length - N = 0 by omega, List.drop_zero]
theorem win300 (W : World) : Calls Try.prog 8 #[.int .i64 300] W fun e W' => e = .returned (.tuple #[.pointer (some ⟨W.heap.size + 1, 0, none⟩), .int .i64 0]) ∧ Win W' (W.heap.size + 1) W.heap.size 300 [] ∧ Below W.heap.size W W' := win_new W 300 (by omega) (by omega)
theorem take300 (w : World) (A : Option Addr) (c : Nat) (l : List Int) (hR : ReadsOf (Value.int .u8) (0 : Int) w A l.length l) (hc : l.length ≤ c) (hm : l.length ≤ 140737488351232) :
    ∃ (L : Nat) (q : List Int), L ≤ 300 ∧ L ≤ c ∧ (300 < l.length → L = 300) ∧ (l.length ≤ 300 → L = l.length) ∧ q.length = L ∧ ReadsOf (Value.int .u8) (0 : Int) w A L q ∧
      (300 < l.length → ∀ W : World, (Instr.slice 22 (.slice A l.length c) none (some (.int .i64 300)) none).run Try.prog W = .ok (.slice A 300 c) W) := by
  by_cases h8 : 300 < l.length
  · obtain ⟨i0, hi, _, hsz, _⟩ := info_parts info5'
    obtain ⟨htk, htR, htC⟩ := print_take_of (P := Try.prog) (Value.int .u8) (0 : Int) 22 5 .i64 Try.underlying22 hi hsz A c l 300 (by omega) (by omega) hc
    have e1 : (l.take 300).length = 300 := by rw [List.length_take]; omega
    have e0 : (300 : Int).toNat = 300 := rfl
    rw [e0, e1] at htk htR
    exact ⟨300, l.take 300, by omega, by omega, fun _ => rfl, fun h => by omega, e1, htR w hR, fun _ => htk⟩
  · exact ⟨l.length, l, by omega, hc, fun h => absurd h h8, fun _ => rfl, rfl, hR, fun h => absurd h h8⟩
theorem rr_facts {q : List Int} {d i j n : Nat} (h : 1 ≤ d ∧ d ≤ i) (hq : q.length = i) (hi : i ≤ 300) (hd : d ≤ 255) (hj : j < n) : ∃ a b t : Nat, (i : Int) - (d : Int) = (a : Int) ∧ Int.tmod (j : Int) (d : Int) = (b : Int) ∧ (a : Int) + (b : Int) = (t : Int) ∧ ((0 : Int) ≤ (t : Int) ∧ (t : Int) < (i : Int)) ∧ Aside0 (wrap64 (a : Int) = (a : Int)) ∧ Aside0 (wrap64 (b : Int) = (b : Int)) ∧ Aside0 (wrap64 (t : Int) = (t : Int)) ∧ Aside0 (wrap64 (d : Int) = (d : Int)) ∧ q.getD t 0 = (rep q d n).getD j 0 := by
  have hb : j % d < d := Nat.mod_lt _ (by omega)
  refine ⟨i - d, j % d, i - d + j % d, by omega, ?_, by omega, ⟨by omega, by omega⟩, ⟨?_⟩, ⟨?_⟩, ⟨?_⟩, ⟨by unfold wrap64; omega⟩, ?_⟩
  · rw [Int.tmod_eq_emod_of_nonneg (by omega)]; rfl
  · unfold wrap64; omega
  · generalize j % d = y at *
    unfold wrap64; omega
  · generalize j % d = y at *
    unfold wrap64; omega
  · rw [rep_get _ _ _ _ hj, hq]
theorem rr_end {q : List Int} {d i n : Nat} (hq : q.length = i) (hd : d ≤ 255) (hn : n ≤ 255) (hi : i ≤ 300) : ∃ (T : Nat) (x : Int) (M : Nat), (q ++ rep q d n).length = T ∧ M = T - 300 ∧ (T : Int) - 300 = x ∧ (if (0 : Int) < x then x else 0) = (M : Int) ∧ Aside0 (wrap64 x = x) ∧ Aside0 (wrap64 (M : Int) = (M : Int)) ∧ Aside0 ((q ++ rep q d n).drop M = lastN 300 (q ++ rep q d n) ∧ (lastN 300 (q ++ rep q d n)).length ≤ 9223372036854775806) ∧ M ≤ T := by
  have hl : (q ++ rep q d n).length = i + n := by rw [List.length_append, rep_len, hq]
  refine ⟨i + n, (((i + n : Nat)) : Int) - 300, i + n - 300, hl, rfl, rfl, ?_, ⟨by unfold wrap64; omega⟩, ⟨by unfold wrap64; omega⟩, ⟨?_, ?_⟩, by omega⟩
  · split <;> omega
  · unfold lastN; rw [hl]
  · rw [lastN_len, hl]; omega
set_option maxHeartbeats 8000000 in
set_option maxRecDepth 100000 in
theorem repeat_bits (A : Option Addr) (c : Nat) (l : List Int) (d n : Nat) (w : World) (hd : d ≤ 255) (hn : n ≤ 255) (hR : ReadsOf (Value.int .u8) (0 : Int) w A l.length l) (hc : l.length ≤ c) (hm : l.length ≤ 140737488351232) :
    Calls Try.prog 5 #[.slice A l.length c, .int .u8 (d : Int), .int .u8 (n : Int)] w fun e w' => e = .returned (.bool true) ∧ Below w.heap.size w w' := by
  obtain ⟨L, q, hL8, hLc, hLa, hLb, hql, hRq, hsl⟩ := take300 w A c l hR hc hm
  have HR := Aside0.mk hRq
  have HQL := Aside0.mk hql
  clear hR hm hc hql hRq
  go_enter Try.func5, Try.ntmps5
  go_upto_if 26 with (go_at_call 8; (with_reducible refine (win300 _).mono ?_); rintro e w1 ⟨rfl, hw, hb⟩; have HW := Aside0.mk hw; have HB := Aside0.mk hb; clear hw hb)
  go_cut [0] (fun v0 wc => v0 = .slice A L c ∧ Aside0 (Win wc (w.heap.size + 1) w.heap.size 300 []) ∧ Aside0 (Below w.heap.size w wc))
  case first =>
    by_cases h8 : 300 < l.length
    · have hb8 : decide ((300 : Int) < (l.length : Int)) = true := decide_eq_true (by omega)
      have hct := hsl h8
      have hLe := hLa h8
      subst hLe
      clear hsl hLa hLb h8
      rw [hb8]
      go_wp2
      go_meet
      case rel => exact ⟨rfl, HW, HB⟩
    · have hb8 : decide ((300 : Int) < (l.length : Int)) = false := decide_eq_false (by omega)
      have hLe := hLb (by omega)
      subst hLe
      clear hsl hLa hLb h8
      rw [hb8]
      go_wp2
      go_meet
      case rel => exact ⟨rfl, HW, HB⟩
  case rest =>
    clear HW HB hLa hLb hsl
    obtain ⟨rfl, HW, HB⟩ := hcut
    go_wp2
    go_loopg [9] (L + 1) (fun kq v9 w' => ∃ (i : Nat), v9 = .int .i64 (i : Int) ∧ i + kq = L + 1 ∧ i ≤ L ∧ Aside0 (Win w' (w.heap.size + 1) w.heap.size 300 (lastN 300 (q.take i))) ∧ Aside0 (Below w.heap.size w w'))
    case atStart => exact ⟨0, rfl, by omega, by omega, ⟨by have := HW.out; rw [List.take_zero, show lastN 300 ([] : List Int) = [] from List.drop_nil]; exact this⟩, HB⟩
    case round =>
      clear HW HB
      obtain ⟨i, rfl, hk, hil, HW, HB⟩ := hrel
      cases gk with
      | zero => exact absurd hk (by omega)
      | succ k1 =>
      by_cases hp : i < L
      · have hpb : decide ((i : Int) < (L : Int)) = true := decide_eq_true (by omega)
        obtain ⟨ad, hAe, hx⟩ := ReadsOf.at_ HR.out (i : Int) (by omega) (by omega)
        have HAE := Aside0.mk hAe
        clear hAe
        rw [Int.toNat_natCast] at hx
        replace hx := pw_cell_below HB.out hx
        have hrd : rdOf (0 : Int) q (i : Int) = q.getD i 0 := by simp [rdOf]
        rw [hrd] at hx
        have HL := Aside0.mk (lastN_take 300 q i (by rw [HQL.out]; exact hp))
        have hi0 : (0 : Int) ≤ (i : Int) := by omega
        have hi1 : (i : Int) < (L : Int) := by omega
        obtain ⟨X, HX⟩ : ∃ X, Aside0 (q.getD i 0 = X) := ⟨_, ⟨rfl⟩⟩
        rw [HX.out] at hx
        obtain rfl := HAE.out
        clear hrd HAE
        go_wp2_with (go_at_call 9; (with_reducible refine (win_put X HW).mono ?_); rintro e w2 ⟨rfl, hw, hk⟩; have HW2 := Aside0.mk hw; have HB2 := Aside0.mk (rk_win HB.out hk (Nat.le_succ _) (Nat.le_refl _)); clear hw hk HW HB hx)
        go_roundg k1
        case measure => omega
        case rel => exact ⟨i + 1, by first | rfl | (congr 1; omega), by omega, by omega, ⟨by have := HW2.out; rw [← HX.out, HL.out] at this; exact this⟩, HB2⟩
      · obtain rfl : i = L := by omega
        have hpb : decide ((i : Int) < (i : Int)) = false := decide_eq_false (by omega)
        have HTK : Aside0 (q.take i = q) := ⟨List.take_of_length_le (by rw [HQL.out]; exact Nat.le_refl _)⟩
        rw [HTK.out] at HW
        clear hil hk hp HTK
        obtain ⟨W1, hW1⟩ : ∃ W1, W1 = wr := ⟨_, rfl⟩
        subst hW1
        by_cases hdd : 1 ≤ d ∧ d ≤ i
        · have HD := Aside0.mk hdd
          have hd1 : (((d : Int) == 0)) = false := beq_eq_false_iff_ne.2 (by omega)
          have hd2 : decide (i < d) = false := decide_eq_false (by omega)
          have HLN := Aside0.mk (lastN_short 300 q (by rw [HQL.out]; omega))
          have HDM := Aside0.mk (show d ≤ min 300 q.length by rw [HQL.out]; omega)
          have hnn : ((n : Int) != (n : Int)) = false := bne_self_eq_false _
          have hnn2 : (n != n) = false := bne_self_eq_false _
          clear hdd
          go_wp2_with (go_at_call 14; (with_reducible refine (win_repeat q d n HW HD.out.1 HDM.out (by omega)).mono ?_); rintro e w3 ⟨rfl, hs⟩; have HS := Aside0.mk hs; clear hs)
          go_loopg [12] (n + 1) (fun kq v12 w' => ∃ (j : Nat), v12 = .int .i64 (j : Int) ∧ j + kq = n + 1 ∧ j ≤ n ∧ Aside0 (RS W1 w' (w.heap.size + 1) w.heap.size W1.heap.size 300 (lastN 300 (q ++ rep q d n)) (rep q d n)))
          case atStart => exact ⟨0, rfl, by omega, by omega, HS⟩
          case round =>
            clear HS
            obtain ⟨j, rfl, hjk, hjn, HS⟩ := hrel
            cases gk with
            | zero => exact absurd hjk (by omega)
            | succ k2 =>
            by_cases hjp : j < n
            · have hjb : decide ((j : Int) < (n : Int)) = true := decide_eq_true (by omega)
              have hjb2 : decide (j < n) = true := decide_eq_true (by omega)
              obtain ⟨a, b, t, ha, hb, ht, ⟨ht0, hti'⟩, HWA, HWB, HWT, HWD, hg⟩ := rr_facts (q := q) (n := n) HD.out HQL.out hL8 hd hjp
              have hj0 : (0 : Int) ≤ (j : Int) := by omega
              have hj1 : (j : Int) < (n : Int) := by omega
              obtain ⟨ad, hAe, hx2⟩ := ReadsOf.at_ HR.out (t : Int) ht0 hti'
              have HAE := Aside0.mk hAe
              clear hAe
              rw [Int.toNat_natCast] at hx2
              have HBS := Aside0.mk ((HS.out.2.2.2.2.1).2.1 w HB.out (Nat.le_succ _) (Nat.le_refl _))
              replace hx2 := pw_cell_below HBS.out hx2
              have hrd : rdOf (0 : Int) q (t : Int) = q.getD t 0 := by simp [rdOf]
              rw [hrd] at hx2
              have hx1 := rs_cell HS (i := j) (by rw [rep_len]; exact hjp)
              rw [← hg] at hx1
              obtain ⟨X, HX⟩ : ∃ X, Aside0 (q.getD t 0 = X) := ⟨_, ⟨rfl⟩⟩
              rw [HX.out] at hx1 hx2
              obtain rfl := HAE.out
              have hd0 : ((d : Int) == 0) = false := hd1
              have hd3 : ¬ (d : Int) = 0 := by have := HD.out; omega
              have hd4 : ¬ d = 0 := by have := HD.out; omega
              have hxx : (X != X) = false := bne_self_eq_false _
              clear hrd HAE hg HBS
              have hwa := HWA.out
              have hwb := HWB.out
              have hwt := HWT.out
              have hwd := HWD.out
              go_wp2
              refine start_ (n := 18) (S := fun w' => w'.cell? ⟨W1.heap.size, j, none⟩ = some (.int .u8 X) ∧ w'.cell? (ad.add t) = some (.int .u8 X)) (ds := []) #[false, false, false, false, false, false, false, false, false, false, false, false, false, false, false, false, false, false] (by kernel_rfl) rfl rfl ⟨hx1, hx2⟩ (fun hHeld => ?_)
              refine pure_ (i := 0) (N := some 87) (v := ?_) (a' := ?_) #[true, false, false, false, false, false, false, false, false, false, false, false, false, false, false, false, false, false] rfl rfl (by kernel_rfl) (fun _ _ _ h => h) (Or.inl ⟨by rfl, ?_⟩) ?_ ?_
              rotate_left
              · intro w'
                go_simp
                with_reducible rfl
              rotate_left
              · simp only [Act.put, List.setIfInBounds_toArray, List.set_cons_zero, List.set_cons_succ, i64_w, i32_w]
                rfl
              refine pure_ (i := 1) (N := some 88) (v := ?_) (a' := ?_) #[true, true, false, false, false, false, false, false, false, false, false, false, false, false, false, false, false, false] rfl rfl (by kernel_rfl) (fun _ _ _ h => h) (Or.inl ⟨by rfl, ?_⟩) ?_ ?_
              rotate_left
              · intro w'
                go_simp
                with_reducible rfl
              rotate_left
              · simp only [Act.put, List.setIfInBounds_toArray, List.set_cons_zero, List.set_cons_succ, i64_w, i32_w]
                rfl
              refine pure_ (i := 2) (N := some 89) (v := ?_) (a' := ?_) #[true, true, true, false, false, false, false, false, false, false, false, false, false, false, false, false, false, false] rfl rfl (by kernel_rfl) (fun _ _ _ h => h) (Or.inl ⟨by rfl, ?_⟩) ?_ ?_
              rotate_left
              · intro w'
                go_simp
                with_reducible rfl
              rotate_left
              · simp only [Act.put, List.setIfInBounds_toArray, List.set_cons_zero, List.set_cons_succ, i64_w, i32_w]
                rfl
              refine pure_ (i := 4) (N := some 91) (v := ?_) (a' := ?_) #[true, true, true, false, true, false, false, false, false, false, false, false, false, false, false, false, false, false] rfl rfl (by kernel_rfl) (fun _ _ _ h => h) (Or.inl ⟨by rfl, ?_⟩) ?_ ?_
              rotate_left
              · intro w'
                go_simp
                with_reducible rfl
              rotate_left
              · simp only [Act.put, List.setIfInBounds_toArray, List.set_cons_zero, List.set_cons_succ, i64_w, i32_w]
                rfl
              refine pure_ (i := 5) (N := some 92) (v := ?_) (a' := ?_) #[true, true, true, false, true, true, false, false, false, false, false, false, false, false, false, false, false, false] rfl rfl (by kernel_rfl) (fun _ _ _ h => h) (Or.inl ⟨by rfl, ?_⟩) ?_ ?_
              rotate_left
              · intro w'
                go_simp
                with_reducible rfl
              rotate_left
              · simp only [Act.put, List.setIfInBounds_toArray, List.set_cons_zero, List.set_cons_succ, i64_w, i32_w]
                rfl
              refine pure_ (i := 6) (N := some 93) (v := ?_) (a' := ?_) #[true, true, true, false, true, true, true, false, false, false, false, false, false, false, false, false, false, false] rfl rfl (by kernel_rfl) (fun _ _ _ h => h) (Or.inl ⟨by rfl, ?_⟩) ?_ ?_
              rotate_left
              · intro w'
                go_simp
                with_reducible rfl
              rotate_left
              · simp only [Act.put, List.setIfInBounds_toArray, List.set_cons_zero, List.set_cons_succ, i64_w, i32_w]
                rfl
              refine pure_ (i := 7) (N := some 94) (v := ?_) (a' := ?_) #[true, true, true, false, true, true, true, true, false, false, false, false, false, false, false, false, false, false] rfl rfl (by kernel_rfl) (fun _ _ _ h => h) (Or.inl ⟨by rfl, ?_⟩) ?_ ?_
              rotate_left
              · intro w'
                go_simp
                with_reducible rfl
              rotate_left
              · simp only [Act.put, List.setIfInBounds_toArray, List.set_cons_zero, List.set_cons_succ, i64_w, i32_w]
                rfl
              refine pure_ (i := 8) (N := some 95) (v := ?_) (a' := ?_) #[true, true, true, false, true, true, true, true, true, false, false, false, false, false, false, false, false, false] rfl rfl (by kernel_rfl) (fun _ _ _ h => h) (Or.inl ⟨by rfl, ?_⟩) ?_ ?_
              rotate_left
              · intro w'
                go_simp
                with_reducible rfl
              rotate_left
              · simp only [Act.put, List.setIfInBounds_toArray, List.set_cons_zero, List.set_cons_succ, i64_w, i32_w]
                rfl
              refine pure_ (i := 9) (N := some 96) (v := ?_) (a' := ?_) #[true, true, true, false, true, true, true, true, true, true, false, false, false, false, false, false, false, false] rfl rfl (by kernel_rfl) (fun _ _ _ h => h) (Or.inl ⟨by rfl, ?_⟩) ?_ ?_
              rotate_left
              · intro w'
                go_simp
                with_reducible rfl
              rotate_left
              · simp only [Act.put, List.setIfInBounds_toArray, List.set_cons_zero, List.set_cons_succ, i64_w, i32_w]
                rfl
              refine pure_ (i := 10) (N := some 97) (v := ?_) (a' := ?_) #[true, true, true, false, true, true, true, true, true, true, true, false, false, false, false, false, false, false] rfl rfl (by kernel_rfl) (fun _ _ _ h => h) (Or.inl ⟨by rfl, ?_⟩) ?_ ?_
              rotate_left
              · intro w'
                go_simp
                with_reducible rfl
              rotate_left
              · simp only [Act.put, List.setIfInBounds_toArray, List.set_cons_zero, List.set_cons_succ, i64_w, i32_w]
                rfl
              refine pure_ (i := 11) (N := some 98) (v := ?_) (a' := ?_) #[true, true, true, false, true, true, true, true, true, true, true, true, false, false, false, false, false, false] rfl rfl (by kernel_rfl) (fun _ _ _ h => h) (Or.inl ⟨by rfl, ?_⟩) ?_ ?_
              rotate_left
              · intro w'
                go_simp
                with_reducible rfl
              rotate_left
              · simp only [Act.put, List.setIfInBounds_toArray, List.set_cons_zero, List.set_cons_succ, i64_w, i32_w]
                rfl
              refine pure_ (i := 12) (N := some 99) (v := ?_) (a' := ?_) #[true, true, true, false, true, true, true, true, true, true, true, true, true, false, false, false, false, false] rfl rfl (by kernel_rfl) (fun _ _ _ h => h) (Or.inl ⟨by rfl, ?_⟩) ?_ ?_
              rotate_left
              · intro w'
                go_simp
                with_reducible rfl
              rotate_left
              · simp only [Act.put, List.setIfInBounds_toArray, List.set_cons_zero, List.set_cons_succ, i64_w, i32_w]
                rfl
              refine pure_ (i := 13) (N := some 100) (v := ?_) (a' := ?_) #[true, true, true, false, true, true, true, true, true, true, true, true, true, true, false, false, false, false] rfl rfl (by kernel_rfl) (fun _ _ _ h => h) (Or.inl ⟨by rfl, ?_⟩) ?_ ?_
              rotate_left
              · intro w'
                go_simp
                with_reducible rfl
              rotate_left
              · simp only [Act.put, List.setIfInBounds_toArray, List.set_cons_zero, List.set_cons_succ, i64_w, i32_w]
                rfl
              refine pure_ (i := 14) (N := some 101) (v := ?_) (a' := ?_) #[true, true, true, false, true, true, true, true, true, true, true, true, true, true, true, false, false, false] rfl rfl (by kernel_rfl) (fun _ _ _ h => h) (Or.inl ⟨by rfl, ?_⟩) ?_ ?_
              rotate_left
              · intro w'
                go_simp
                with_reducible rfl
              rotate_left
              · simp only [Act.put, List.setIfInBounds_toArray, List.set_cons_zero, List.set_cons_succ, i64_w, i32_w]
                rfl
              refine pure_ (i := 15) (N := some 102) (v := ?_) (a' := ?_) #[true, true, true, false, true, true, true, true, true, true, true, true, true, true, true, true, false, false] rfl rfl (by kernel_rfl) (fun _ _ _ h => h) (Or.inl ⟨by rfl, ?_⟩) ?_ ?_
              rotate_left
              · intro w'
                go_simp
                with_reducible rfl
              rotate_left
              · simp only [Act.put, List.setIfInBounds_toArray, List.set_cons_zero, List.set_cons_succ, i64_w, i32_w]
                rfl
              refine take_ (i := 3) (N := some 90) (v := ?_) (a' := ?_) #[true, true, true, true, true, true, true, true, true, true, true, true, true, true, true, true, false, false] rfl rfl (by kernel_rfl) (fun _ _ _ h => h) (Or.inl ⟨by rfl, ?_⟩) hHeld ?_ ?_
              rotate_left
              · rintro w' ⟨s0, s1⟩
                go_simp
                with_reducible rfl
              rotate_left
              · simp only [Act.put, List.setIfInBounds_toArray, List.set_cons_zero, List.set_cons_succ, i64_w, i32_w]
                rfl
              refine take_ (i := 16) (N := some 103) (v := ?_) (a' := ?_) #[true, true, true, true, true, true, true, true, true, true, true, true, true, true, true, true, true, false] rfl rfl (by kernel_rfl) (fun _ _ _ h => h) (Or.inl ⟨by rfl, ?_⟩) hHeld ?_ ?_
              rotate_left
              · rintro w' ⟨s0, s1⟩
                go_simp
                with_reducible rfl
              rotate_left
              · simp only [Act.put, List.setIfInBounds_toArray, List.set_cons_zero, List.set_cons_succ, i64_w, i32_w]
                rfl
              refine pure_ (i := 17) (N := some 104) (v := ?_) (a' := ?_) #[true, true, true, true, true, true, true, true, true, true, true, true, true, true, true, true, true, true] rfl rfl (by kernel_rfl) (fun _ _ _ h => h) (Or.inl ⟨by rfl, ?_⟩) ?_ ?_
              rotate_left
              · intro w'
                go_simp
                with_reducible rfl
              rotate_left
              · simp only [Act.put, List.setIfInBounds_toArray, List.set_cons_zero, List.set_cons_succ, i64_w, i32_w]
                rfl
              refine done_ (by kernel_rfl) ?_
              clear hwa hwb hwt hwd ha hb ht hx1 hx2 hHeld
              have HS2 : Aside0 (RS W1 wr.drew (w.heap.size + 1) w.heap.size W1.heap.size 300 (lastN 300 (q ++ rep q d n)) (rep q d n)) := ⟨rs_drawn HS.out ⟨⟨1, rfl⟩⟩⟩
              clear HS
              go_wp2
              go_roundg k2
              case measure => omega
              case rel => exact ⟨j + 1, by first | rfl | (congr 1; omega), by omega, by omega, HS2⟩
            · obtain rfl : j = n := by omega
              have hjb : decide ((j : Int) < (j : Int)) = false := decide_eq_false (by omega)
              have hjb2 : decide (j < j) = false := decide_eq_false (by omega)
              have HBW := Aside0.mk ((HS.out.2.2.2.2.1).2.1 w HB.out (Nat.le_succ _) (Nat.le_refl _))
              have HL1 := Aside0.mk (show (([] : List Int).length + q.length) * 1 ≤ 140737488355328 by rw [HQL.out]; simp; omega)
              have HL2 := Aside0.mk (show (([] ++ q : List Int).length + (rep q d j).length) * 1 ≤ 140737488355328 by rw [List.nil_append, HQL.out, rep_len]; omega)
              have HZ := Aside0.mk (blk_rd HS.out.2.1 (by rw [rep_len]; omega))
              rw [rep_len] at HZ
              have HRW := Aside0.mk (HR.out.below HBW.out)
              have HI3 := Aside0.mk hL8
              clear hjk hjn hjp hd1 hd2 hL8 hLc
              go_wp2_with (first
                | (at_builtin; refine Own.app_rows (W := wr.alloc (.cells #[] 5)) (enc := Value.int .u8) (fun _ => rfl) 0 wr.heap.size rfl (.tmp 105) (.tmp 106) 22 5 (.int .u8 0) 1 rfl Try.underlying22 info5' rfl (by decide) (.slice (some ⟨wr.heap.size, 0, none⟩) 0 0) [] q A i c rfl rfl HQL.out (own_lit_of wr wr.heap.size 5 ([] : List Int) (Nat.le_refl _) (by simp)) ((HRW.out).below (below_alloc (Below.refl _ _) _)) (by simp) HL1.out ?_; intro v1 w1 hown hgrow hat; have HA := Aside0.mk (own_lit_of (enc := Value.int .u8) wr wr.heap.size 5 ([] : List Int) (Nat.le_refl _) (by simp)); have HB1 := Aside0.mk ((((Below.refl wr.heap.size wr).alloc (Nat.le_refl _) (.cells #[] 5))).grown hgrow (by simp) (own_base HA.out)); have HO1 := Aside0.mk hown; clear hown hgrow hat HA)
                | (at_builtin; refine Own.app_rows (W := w1) (enc := Value.int .u8) (fun _ => rfl) 0 wr.heap.size rfl (.tmp 107) (.tmp 108) 22 5 (.int .u8 0) 1 rfl Try.underlying22 info5' rfl (by decide) v1 ([] ++ q) (rep q d j) (some ⟨W1.heap.size, 0, none⟩) j j rfl rfl (rep_len _ _ _) HO1.out ((HZ.out).below HB1.out) HB1.out.size HL2.out ?_; intro v2 w2 hown hgrow hat; have HB2 := Aside0.mk (HB1.out.grown hgrow HB1.out.size (own_base HO1.out)); have HO2 := Aside0.mk hown; clear hown hgrow hat HO1 HB1))
              obtain ⟨T, x, M, hTl, hMl, hx, hmax, HWX, HWM, HLQ, hMT⟩ := rr_end (q := q) (d := d) (i := i) (n := j) HQL.out hd hn HI3.out
              have hO2 := HO2.out
              rw [List.nil_append, hTl] at hO2
              obtain ⟨A3, c3, rfl, hle3, hr3⟩ := own_reads_of_le (d := (0 : Int)) hO2
              obtain ⟨i0, hi, _, hsz, _⟩ := info_parts info5'
              obtain ⟨A4, hcut4, hrd4⟩ := print_cut_of (P := Try.prog) (Value.int .u8) (0 : Int) 22 5 .i64 Try.underlying22 hi hsz A3 T c3 M hMT
              obtain ⟨m4, hm4⟩ : ∃ m4, T - M = m4 := ⟨_, rfl⟩
              obtain ⟨c4, hc4⟩ : ∃ c4, c3 - M = c4 := ⟨_, rfl⟩
              have HRD := Aside0.mk (show ReadsOf (Value.int .u8) (0 : Int) w2.drew A4 m4 ((q ++ rep q d j).drop M) ∧ m4 ≤ c4 from ⟨by have := hrd4 w2 (q ++ rep q d j) hle3 hr3; rw [hm4] at this; exact this, by omega⟩)
              rw [hm4, hc4] at hcut4
              have HLK := Aside0.mk (show (lastN 300 (q ++ rep q d j)).length = T - M by rw [lastN_len, hTl]; omega)
              rw [hm4] at HLK
              have HW2 := Aside0.mk (win_drew (win_below HS.out.1 HB2.out))
              have HBT := Aside0.mk (below_drew (below_step HBW.out HB2.out))
              have hwx := HWX.out
              have hwm := HWM.out
              clear hrd4 hi hsz hm4 hc4 hO2 HO2 HB2 HBW HS HZ HRW HL1 HL2 hle3 hr3 hTl hMl hMT
              refine start_ (n := 10) (S := fun w' => True) (ds := []) #[false, false, false, false, false, false, false, false, false, false] (by kernel_rfl) rfl rfl trivial (fun hHeld => ?_)
              generalize w2.drew = W9 at HW2 HBT HRD hHeld ⊢
              refine pure_ (i := 0) (N := some 110) (v := ?_) (a' := ?_) #[true, false, false, false, false, false, false, false, false, false] rfl rfl (by kernel_rfl) (fun _ _ _ h => h) (Or.inl ⟨by rfl, ?_⟩) ?_ ?_
              rotate_left
              · intro w'
                go_simp
                with_reducible rfl
              rotate_left
              · simp only [Act.put, List.setIfInBounds_toArray, List.set_cons_zero, List.set_cons_succ, i64_w, i32_w]
                rfl
              refine pure_ (i := 2) (N := some 112) (v := ?_) (a' := ?_) #[true, false, true, false, false, false, false, false, false, false] rfl rfl (by kernel_rfl) (fun _ _ _ h => h) (Or.inl ⟨by rfl, ?_⟩) ?_ ?_
              rotate_left
              · intro w'
                go_simp
                with_reducible rfl
              rotate_left
              · simp only [Act.put, List.setIfInBounds_toArray, List.set_cons_zero, List.set_cons_succ, i64_w, i32_w]
                rfl
              refine pure_ (i := 3) (N := some 113) (v := ?_) (a' := ?_) #[true, false, true, true, false, false, false, false, false, false] rfl rfl (by kernel_rfl) (fun _ _ _ h => h) (Or.inl ⟨by rfl, ?_⟩) ?_ ?_
              rotate_left
              · intro w'
                go_simp
                with_reducible rfl
              rotate_left
              · simp only [Act.put, List.setIfInBounds_toArray, List.set_cons_zero, List.set_cons_succ, i64_w, i32_w]
                rfl
              refine pure_ (i := 4) (N := some 114) (v := ?_) (a' := ?_) #[true, false, true, true, true, false, false, false, false, false] rfl rfl (by kernel_rfl) (fun _ _ _ h => h) (Or.inl ⟨by rfl, ?_⟩) ?_ ?_
              rotate_left
              · intro w'
                go_simp
                with_reducible rfl
              rotate_left
              · simp only [Act.put, List.setIfInBounds_toArray, List.set_cons_zero, List.set_cons_succ, i64_w, i32_w]
                rfl
              refine pure_ (i := 5) (N := some 115) (v := ?_) (a' := ?_) #[true, false, true, true, true, true, false, false, false, false] rfl rfl (by kernel_rfl) (fun _ _ _ h => h) (Or.inl ⟨by rfl, ?_⟩) ?_ ?_
              rotate_left
              · intro w'
                go_simp
                with_reducible rfl
              rotate_left
              · simp only [Act.put, List.setIfInBounds_toArray, List.set_cons_zero, List.set_cons_succ, i64_w, i32_w]
                rfl
              refine pure_ (i := 6) (N := some 116) (v := ?_) (a' := ?_) #[true, false, true, true, true, true, true, false, false, false] rfl rfl (by kernel_rfl) (fun _ _ _ h => h) (Or.inl ⟨by rfl, ?_⟩) ?_ ?_
              rotate_left
              · intro w'
                go_simp
                with_reducible rfl
              rotate_left
              · simp only [Act.put, List.setIfInBounds_toArray, List.set_cons_zero, List.set_cons_succ, i64_w, i32_w]
                rfl
              refine pure_ (i := 7) (N := some 117) (v := ?_) (a' := ?_) #[true, false, true, true, true, true, true, true, false, false] rfl rfl (by kernel_rfl) (fun _ _ _ h => h) (Or.inl ⟨by rfl, ?_⟩) ?_ ?_
              rotate_left
              · intro w'
                go_simp
                with_reducible rfl
              rotate_left
              · simp only [Act.put, List.setIfInBounds_toArray, List.set_cons_zero, List.set_cons_succ, i64_w, i32_w]
                rfl
              refine one_ (i := 1) (N := some 111) #[true, true, true, true, true, true, true, true, false, false] rfl rfl (by kernel_rfl) (by decide) (fun K hK => ?_)
              refine goes_ Try.func11 (by kernel_rfl) rfl #[.pointer (some ⟨w.heap.size + 1, 0, none⟩)] (by rfl) rfl rfl (by simp only [List.map_toArray, List.map_cons, List.map_nil]; rfl) ?_
              with_reducible refine (win_tailK HW2 HLK).mono ?_
              rintro e w3 ⟨rfl, hw, hz, hb⟩
              refine ⟨_, rfl, ?_⟩
              have HB2 := Aside0.mk hb
              have HB3 := Aside0.mk (below_step HBT.out hb)
              have HZ := Aside0.mk hz
              clear hw hb hz HW2
              refine hK.out _ _ trivial (fun hHeld => ?_)
              clear hK K
              refine norm_ (a' := ?_) ?_ ?_
              rotate_left
              · show Act.put _ (some 111) _ = _
                simp only [Act.put, List.setIfInBounds_toArray, List.set_cons_zero, List.set_cons_succ, i64_w, i32_w]
                rfl
              refine one_ (i := 8) (N := some 118) #[true, true, true, true, true, true, true, true, true, false] rfl rfl (by kernel_rfl) (by decide) (fun K hK => ?_)
              refine goes_ Try.func10 (by kernel_rfl) rfl #[.slice (some ⟨W9.heap.size, 0, none⟩) m4 m4, .slice A4 m4 c4] (by rfl) rfl rfl (by simp only [List.map_toArray, List.map_cons, List.map_nil]; rfl) ?_
              with_reducible refine (same_tailK HZ HB2 HRD HLQ HLK).mono ?_
              rintro e w4 ⟨rfl, hd⟩
              refine ⟨_, rfl, ?_⟩
              have HB4 := Aside0.mk (below_step HB3.out hd.below)
              clear HB3 hd HZ
              refine hK.out _ _ trivial (fun hHeld => ?_)
              clear hK K
              refine norm_ (a' := ?_) ?_ ?_
              rotate_left
              · show Act.put _ (some 118) _ = _
                simp only [Act.put, List.setIfInBounds_toArray, List.set_cons_zero, List.set_cons_succ, i64_w, i32_w]
                rfl
              refine pure_ (i := 9) (N := some 6) (v := ?_) (a' := ?_) #[true, true, true, true, true, true, true, true, true, true] rfl rfl (by kernel_rfl) (fun _ _ _ h => h) (Or.inl ⟨by rfl, ?_⟩) ?_ ?_
              rotate_left
              · intro w'
                go_simp
                with_reducible rfl
              rotate_left
              · simp only [Act.put, List.setIfInBounds_toArray, List.set_cons_zero, List.set_cons_succ, i64_w, i32_w]
                rfl
              refine done_ (by kernel_rfl) ?_
              go_wp2
              go_ret
              exact ⟨rfl, HB4.out⟩
        · have hdor : ((d : Int) == 0) = true ∨ (((d : Int) == 0) = false ∧ decide (i < d) = true) := by
            by_cases h0 : d = 0
            · subst h0; exact .inl rfl
            · exact .inr ⟨beq_eq_false_iff_ne.2 (by omega), decide_eq_true (by omega)⟩
          have HLN := Aside0.mk (lastN_short 300 q (by rw [HQL.out]; omega))
          have HND := Aside0.mk (show ¬ ((1 : Int) ≤ (d : Int) ∧ (d : Int) ≤ ((lastN 300 q).length : Int) ∧ (0 : Int) ≤ (n : Int) ∧ (n : Int) ≤ 65536) by rw [HLN.out, HQL.out]; omega)
          have HQQ := Aside0.mk (show q = lastN 300 q ∧ (lastN 300 q).length ≤ 9223372036854775806 from ⟨HLN.out.symm, by rw [HLN.out, HQL.out]; omega⟩)
          have HLL := Aside0.mk (show (lastN 300 q).length = i by rw [HLN.out, HQL.out])
          clear hdd
          rcases hdor with h0 | ⟨h0, h1⟩
          all_goals
            go_wp2_with (first
              | (go_at_call 14; (with_reducible refine (win_repeat_no _ _ HW HND.out).mono ?_); rintro e w3 ⟨rfl, hd⟩; have HW3 := Aside0.mk (win_drawn HW.out hd); have HB3 := Aside0.mk (below_step HB.out hd.below); clear hd HW HB)
              | (go_at_call 11; (with_reducible refine (win_tailK HW3 HLL).mono ?_); rintro e w4 ⟨rfl, hw, hz, hb⟩; have HB4 := Aside0.mk (below_step HB3.out hb); have HZ4 := Aside0.mk hz; clear hw hb hz HW3 HB3)
              | (go_at_call 10; (with_reducible refine (same_tailK HZ4 HB4 ⟨HR.out, hLc⟩ HQQ HLL).mono ?_); rintro e w5 ⟨rfl, hd⟩; have HB5 := Aside0.mk (below_step HB4.out hd.below); clear hd HB4 HZ4))
            go_ret
            exact ⟨rfl, HB5.out⟩
theorem repeat_row (a0 : Option Addr) (len0 cap0 : Nat) (z0 : List Int) (d n : Int) (w : World) (w0 : (a0 = none ∧ len0 = 0 ∧ cap0 = 0 ∧ z0 = []) ∨ ∃ x, a0 = some x ∧ len0 ≤ cap0 ∧ cap0 ≤ maxLen ∧ z0.length = cap0 ∧ (∀ i, i < z0.length → w.cell? (x.add i) = some (.int .u8 (z0.getD i 0))) ∧ ∀ n ∈ z0, (Lit.int .u8 n).wf = true) (y0 : len0 * 1 ≤ 140737488351232) (wd : (Lit.int .u8 d).wf = true) (wn : (Lit.int .u8 n).wf = true) :
    Calls Try.prog 5 #[.slice a0 len0 cap0, .int .u8 d, .int .u8 n] w fun e w' => e = .returned (.bool true) ∧ Below w.heap.size w w' := by
  obtain ⟨l0, rfl, hr0, hm0, hw0, hc0⟩ := ReadsInt.ofRowC w0
  have h1 : 0 ≤ d ∧ d ≤ 255 := by simpa [Lit.wf, IntKind.min, IntKind.max, IntKind.signed, IntKind.bits] using wd
  have h2 : 0 ≤ n ∧ n ≤ 255 := by simpa [Lit.wf, IntKind.min, IntKind.max, IntKind.signed, IntKind.bits] using wn
  obtain ⟨d, rfl⟩ : ∃ s : Nat, d = (s : Int) := ⟨d.toNat, by omega⟩
  obtain ⟨n, rfl⟩ : ∃ s : Nat, n = (s : Int) := ⟨n.toNat, by omega⟩
  exact repeat_bits a0 cap0 l0 d n w (by omega) (by omega) hr0 hc0 (by omega)
end Go.Proofs.Ytcpijkckjahfdaa.PAll
