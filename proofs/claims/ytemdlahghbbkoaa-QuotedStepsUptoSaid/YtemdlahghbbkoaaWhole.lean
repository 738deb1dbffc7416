/- Whole: what a text says, why and where it is stopped. -/
import Derived.Test.YtemdlahghbbkoaaDrain
namespace Go.Proofs.Ytemdlahghbbkoaa.PAll
open Go.RowKit Go.Proofs.YtemdlahghbbkoaaW.PrintWords Go.Proofs.YtemdlahghbbkoaaW.PrintLast Go.Proofs.YtemdlahghbbkoaaW.PrintMore
attribute [local go_sem] max2_int min2_int max_two min_two max_three min_three max_four min_four   -- for this text's walks alone
set_option linter.unusedVariables false
set_option linter.unusedSimpArgs false
/-- what a decoder in a state says of the rest of a text. -/
def wholeS : Int → Int → List Int → List Int → Nat → List Int → List Int × Int × Int
  | st, _, q, [], i, o => (o ++ (endS st q).2, (endS st q).1, (i : Int))
  | st, hi, q, b :: r, i, o => if (stepS st hi q b).2.2.1 = 0 then wholeS (stepS st hi q b).1 (stepS st hi q b).2.1 (stepS st hi q b).2.2.2.1 r (i + 1) (o ++ (stepS st hi q b).2.2.2.2) else (o ++ (stepS st hi q b).2.2.2.2, (stepS st hi q b).2.2.1, (i : Int))
def bytesB (l : List Int) : Bool := l.all (fun b => decide (0 ≤ b) && decide (b ≤ 255))
def quoted_Whole.f (l0 : List Int) : Option (List Int × Int × Int) := if l0.length + 100 ≤ 140737488355328 ∧ bytesB l0 = true then some (wholeS 0 0 [] l0 0 []) else none
theorem bytesB_get {l : List Int} (h : bytesB l = true) (i : Nat) (hi : i < l.length) : 0 ≤ l.getD i 0 ∧ l.getD i 0 ≤ 255 := by
  have h1 := List.all_eq_true.1 h (l[i]) (List.getElem_mem hi)
  have e : l.getD i 0 = l[i] := by simp [List.getD, hi]
  rw [e]
  simpa using h1
def mid (st : Int) : Nat := if st = 4 then 1 else 0
theorem plainS_facts (q : List Int) (b : Int) (hq : q.length ≤ 64) : ((plainS q b).1 = 0 ∨ (plainS q b).1 = 1 ∨ (plainS q b).1 = 4) ∧ (plainS q b).2.1.length + (plainS q b).2.2.length + mid (plainS q b).1 ≤ q.length + 1 := by
  unfold plainS mid
  split
  · split
    · simp; omega
    · simp
  · split
    · simp
    · split
      · simp
      · split <;> simp
theorem stepS_facts (st hi : Int) (q : List Int) (b : Int) (hst : st = 0 ∨ st = 1 ∨ st = 2 ∨ st = 3 ∨ st = 4) (hh : 0 ≤ hi ∧ hi ≤ 15) (hb : 0 ≤ b ∧ b ≤ 255) (hq : q.length ≤ 64) :
    ((stepS st hi q b).1 = 0 ∨ (stepS st hi q b).1 = 1 ∨ (stepS st hi q b).1 = 2 ∨ (stepS st hi q b).1 = 3 ∨ (stepS st hi q b).1 = 4) ∧ (0 ≤ (stepS st hi q b).2.1 ∧ (stepS st hi q b).2.1 ≤ 15) ∧
    (stepS st hi q b).2.2.2.1.length + (stepS st hi q b).2.2.2.2.length + mid (stepS st hi q b).1 ≤ q.length + mid st + 1 := by
  rcases step_cases st hi q b hst hb.1 hb.2 with ⟨rfl, v, hv, hv0, hv1, he⟩ | ⟨rfl, rfl, he⟩ | ⟨rfl, rfl, he⟩ | ⟨rfl, hb1, hb2, hv, he⟩ | ⟨rfl, v, hv, hv0, hv1, he⟩ | ⟨rfl, hv, he⟩ | ⟨rfl, rfl, he⟩ | ⟨rfl, hb1, he⟩ | ⟨rfl, rfl, he⟩ | ⟨rfl, hb1, a1, a2, a3, ha, he⟩ | ⟨rfl, a1, a2, a3, ha, he⟩
  · rw [he]; exact ⟨by simp, ⟨hv0, hv1⟩, by simp [mid]⟩
  · rw [he]; exact ⟨by simp, hh, by simp [mid]⟩
  · rw [he]; exact ⟨by simp, hh, by simp [mid]⟩
  · rw [he]; exact ⟨by simp, hh, by simp [mid]⟩
  · rw [he]; exact ⟨by simp, hh, by simp [mid]⟩
  · rw [he]; exact ⟨by simp, hh, by simp [mid]⟩
  · rw [he]; exact ⟨by simp, hh, by simp [mid]⟩
  · rw [he]; exact ⟨by simp, hh, by simp [mid]⟩
  · rw [he]; exact ⟨by simp, hh, by simp [mid]⟩
  · rw [he]
    have := plainS_facts [] b (by simp)
    rw [ha] at this
    simp only [List.length_nil] at this
    refine ⟨by rcases this.1 with h | h | h <;> simp_all, hh, ?_⟩
    simp only [List.length_append, List.length_singleton]
    have h4 : mid 4 = 1 := rfl
    omega
  · rw [he]
    have := plainS_facts q b hq
    rw [ha] at this
    refine ⟨by rcases this.1 with h | h | h <;> simp_all, hh, ?_⟩
    have h0 : mid 0 = 0 := rfl
    simp only at this ⊢
    omega
section
variable {w W W' : World} {g : Nat} {st hi : Int} {en : Bool} {wh : Int} {q p : List Int} {k base : Nat} {v : Value} {o : List Int}
theorem dr_put {s2 h2 w2 : Int} {q2 e2 : List Int} (b : Int) (h : Aside0 (DR w W g st hi false 0 q [] k base v o)) (hst : st = 0 ∨ st = 1 ∨ st = 2 ∨ st = 3 ∨ st = 4) (hb : 0 ≤ b ∧ b ≤ 255) (hh : 0 ≤ hi ∧ hi ≤ 15) (hp : stepS st hi q b = (s2, h2, w2, q2, e2)) :
    Calls Try.prog 17 #[.pointer (some ⟨g, 0, none⟩), .int .u8 b] W fun e W' => e = .returned (.bool true) ∧ DR w W' g s2 h2 false w2 q2 e2 0 base v o :=
  (dq_put b ⟨h.out.1⟩ hst hb hh hp).mono fun e W' ⟨he, hd, hk⟩ => ⟨he, dk_own h.out hd hk⟩
theorem dr_end {w2 : Int} {e2 : List Int} (h : Aside0 (DR w W g st hi false 0 q [] k base v o)) (hp : endS st q = (w2, e2)) :
    Calls Try.prog 21 #[.pointer (some ⟨g, 0, none⟩)] W fun e W' => e = .returned (.tuple #[]) ∧ DR w W' g st hi true w2 [] e2 0 base v o :=
  (dq_end ⟨h.out.1⟩ hp).mono fun e W' ⟨he, hd, hk⟩ => ⟨he, dk_own h.out hd hk⟩
end
theorem dr_new {w W : World} (hB : Aside0 (Below w.heap.size w W)) : Calls Try.prog 16 #[] W fun e W' => e = .returned (.pointer (some ⟨W.heap.size, 0, none⟩)) ∧ DR w W' W.heap.size 0 0 false 0 [] [] 0 w.heap.size (.slice none 0 0) [] :=
  (dq_new W).mono fun e W' ⟨he, hd, hb⟩ => ⟨he, hd, own_nil _ _ _ _, below_step hB.out hb, hB.out.size, Nat.le_refl _, Nat.le_trans hB.out.size hb.size⟩
theorem endS_len (st : Int) (q : List Int) : (endS st q).2.length ≤ q.length + mid st := by
  unfold endS mid
  split
  · simp
  · split <;> simp
def WholeP (w : World) (r1 : List Int) (r2 r3 : Int) (e : Ending) (w' : World) : Prop := ∃ v0_ : Value, e = .returned (.tuple #[v0_, .int .i64 r2, .int .i64 r3]) ∧ Kd.R (Kd.int .u8) 5 w' w.heap.size (fun _ => True) v0_ r1 ∧ Below w.heap.size w w'
theorem drain_whole {w W : World} {g : Nat} {st hi : Int} {en : Bool} {wh : Int} {q : List Int} {k : Nat} {v : Value} {o : List Int} (h : DR w W g st hi en wh q [] k w.heap.size v o) : Kd.R (Kd.int .u8) 5 W w.heap.size (fun _ => True) v o ∧ Below w.heap.size w W :=
  ⟨Kd.R_of_own (h1 := fun _ => rfl) (ok := fun _ => True) h.2.1 (fun _ _ => trivial), h.2.2.1⟩
set_option maxHeartbeats 8000000 in
set_option maxRecDepth 100000 in
theorem whole_walk (A0 : Option Addr) (c0 : Nat) (l : List Int) (r1 : List Int) (r2 r3 : Int) (w : World) (hR : Aside0 (ReadsOf (Value.int .u8) (0 : Int) w A0 l.length l)) (hc0 : l.length ≤ c0) (hl : l.length + 100 ≤ 140737488355328) (hb : bytesB l = true) (h : wholeS 0 0 [] l 0 [] = (r1, r2, r3)) :
    Calls Try.prog 10 #[.slice A0 l.length c0] w fun e w' => WholeP w r1 r2 r3 e w' := by
  have HL := Aside0.mk hl
  have HBY := Aside0.mk hb
  have HW := Aside0.mk h
  have HBB := Aside0.mk (Below.refl w.heap.size w)
  have hln : l.length ≤ 9223372036854775806 := by omega
  clear hl hb h hc0
  go_enter Try.func10, Try.ntmps10
  go_wp2_with (go_at_call 16; (with_reducible refine (dr_new HBB).mono ?_); rintro e w1 ⟨rfl, hs⟩; have HD := Aside0.mk hs; clear hs)
  go_loopg [2, 11] (l.length + 1) (fun kq v2 v11 w' => ∃ (u : Value) (i : Nat) (st hi : Int) (q : List Int) (k : Nat) (o : List Int), u = v2 ∧ v11 = .int .i64 (i : Int) ∧ i ≤ l.length ∧ i + kq = l.length + 1 ∧ Aside0 (st = 0 ∨ st = 1 ∨ st = 2 ∨ st = 3 ∨ st = 4) ∧ Aside0 (0 ≤ hi ∧ hi ≤ 15) ∧ Aside0 (DR w w' w.heap.size st hi false 0 q [] k w.heap.size u o) ∧ Aside0 (wholeS st hi q (l.drop i) i o = (r1, r2, r3)) ∧ Aside0 (o.length + q.length + mid st ≤ i))
  case atStart => exact ⟨_, 0, 0, 0, [], 0, [], rfl, rfl, by omega, by omega, ⟨.inl rfl⟩, ⟨by omega⟩, HD, HW, ⟨by simp [mid]⟩⟩
  case round =>
    clear HD HW
    obtain ⟨u, i, st, hi, q, k, o, rfl, rfl, hil, hik, HST, HHI, HD, HW, HLN⟩ := hrel
    cases gk with
    | zero => exact absurd hik (by omega)
    | succ k1 =>
    by_cases hlt : i < l.length
    · have hib : decide ((i : Int) < (l.length : Int)) = true := decide_eq_true (by omega)
      obtain ⟨ad, hAe, hx⟩ := ReadsOf.at_ hR.out (i : Int) (by omega) (by omega)
      have HAE := Aside0.mk hAe
      clear hAe
      rw [Int.toNat_natCast] at hx
      replace hx := pw_cell_below HD.out.2.2.1 hx
      have hrd : rdOf (0 : Int) l (i : Int) = l.getD i 0 := by simp [rdOf]
      rw [hrd] at hx
      have hbb := bytesB_get HBY.out i hlt
      have hdr : l.drop i = l.getD i 0 :: l.drop (i + 1) := by rw [List.drop_eq_getElem_cons hlt]; simp [List.getD, hlt]
      have hw := HW.out
      rw [hdr] at hw
      simp only [wholeS] at hw
      clear hrd hdr HW
      generalize l.getD i 0 = b at hx hbb hw
      have hq64 := (dq_room ⟨HD.out.1⟩).1
      have hsf := stepS_facts st hi q b HST.out HHI.out hbb hq64
      have hsl := stepS_len st hi q b hq64
      obtain ⟨s2, h2, w2, q2, e2, hse⟩ : ∃ s2 h2 w2 q2 e2, stepS st hi q b = (s2, h2, w2, q2, e2) := ⟨_, _, _, _, _, rfl⟩
      rw [hse] at hw hsf hsl
      simp only at hw hsf hsl
      have HSE := Aside0.mk hse
      have HBR := Aside0.mk hbb
      have HSF := Aside0.mk hsf
      have HWW := Aside0.mk hw
      have HLE := Aside0.mk (show (o ++ e2).length ≤ 140737488355328 by have := HLN.out; have := HL.out; rw [List.length_append]; omega)
      have HLN2 := Aside0.mk (show (o ++ e2).length + q2.length + mid s2 ≤ i + 1 by have := HLN.out; rw [List.length_append]; omega)
      obtain rfl := HAE.out
      have hi0 : (0 : Int) ≤ (i : Int) := by omega
      have hi1 : (i : Int) < (l.length : Int) := by omega
      clear hw hsf hsl hse hbb hq64 HAE HLN
      go_wp2_with (go_at_call 17; (with_reducible refine (dr_put b HD HST.out HBR.out HHI.out HSE.out).mono ?_); rintro e w2_ ⟨rfl, hs⟩; have HD2 := Aside0.mk hs; clear hs HD hx)
      have HDN := Aside0.mk (dr_drain HD2 HLE.out)
      refine (HDN.out).mono ?_
      rintro e w3 ⟨u3, rfl, hd⟩
      have HD3 := Aside0.mk hd
      clear hd HDN HD2
      dsimp only
      have hc3 := dq_c3 ⟨HD3.out.1⟩
      by_cases hw0 : w2 = 0
      · subst hw0
        have HWN := Aside0.mk (show wholeS s2 h2 q2 (l.drop (i + 1)) (i + 1) (o ++ e2) = (r1, r2, r3) by have := HWW.out; rw [if_pos rfl] at this; exact this)
        clear HWW
        go_wp2
        clear hc3
        go_roundg k1
        case measure => omega
        case rel => exact ⟨_, i + 1, s2, h2, q2, _, o ++ e2, rfl, by go_num, by omega, by omega, ⟨HSF.out.1⟩, ⟨HSF.out.2.1⟩, HD3, HWN, HLN2⟩
      · have hwb : (w2 != 0) = true := bne_iff_ne.2 hw0
        have HRE := Aside0.mk (show (o ++ e2, w2, (i : Int)) = (r1, r2, r3) by have := HWW.out; rw [if_neg hw0] at this; exact this)
        clear HWW hw0
        go_wp2
        replace hc3 : w3.drew.cell? ⟨w.heap.size, 3, none⟩ = some (.int .i64 w2) := hc3
        refine start_ (n := 9) (S := fun w' => w'.cell? ⟨w.heap.size, 3, none⟩ = some (.int .i64 w2)) (ds := []) #[false, false, false, false, false, false, false, false, false] (by kernel_rfl) rfl rfl (hc3) (fun hHeld => ?_)
        refine pure_ (i := 0) (N := some 27) (v := ?_) (a' := ?_) #[true, false, false, false, false, false, false, false, false] rfl rfl (by kernel_rfl) (fun _ _ _ h => h) (Or.inl ⟨by rfl, ?_⟩) ?_ ?_
        rotate_left
        · intro w'
          go_simp
          with_reducible rfl
        rotate_left
        · simp only [Act.put, List.setIfInBounds_toArray, List.set_cons_zero, List.set_cons_succ, i64_w, i32_w]
          rfl
        refine pure_ (i := 1) (N := some 28) (v := ?_) (a' := ?_) #[true, true, false, false, false, false, false, false, false] rfl rfl (by kernel_rfl) (fun _ _ _ h => h) (Or.inl ⟨by rfl, ?_⟩) ?_ ?_
        rotate_left
        · intro w'
          go_simp
          with_reducible rfl
        rotate_left
        · simp only [Act.put, List.setIfInBounds_toArray, List.set_cons_zero, List.set_cons_succ, i64_w, i32_w]
          rfl
        refine pure_ (i := 2) (N := some 29) (v := ?_) (a' := ?_) #[true, true, true, false, false, false, false, false, false] rfl rfl (by kernel_rfl) (fun _ _ _ h => h) (Or.inl ⟨by rfl, ?_⟩) ?_ ?_
        rotate_left
        · intro w'
          go_simp
          with_reducible rfl
        rotate_left
        · simp only [Act.put, List.setIfInBounds_toArray, List.set_cons_zero, List.set_cons_succ, i64_w, i32_w]
          rfl
        refine pure_ (i := 3) (N := some 30) (v := ?_) (a' := ?_) #[true, true, true, true, false, false, false, false, false] rfl rfl (by kernel_rfl) (fun _ _ _ h => h) (Or.inl ⟨by rfl, ?_⟩) ?_ ?_
        rotate_left
        · intro w'
          go_simp
          with_reducible rfl
        rotate_left
        · simp only [Act.put, List.setIfInBounds_toArray, List.set_cons_zero, List.set_cons_succ, i64_w, i32_w]
          rfl
        refine pure_ (i := 5) (N := some 32) (v := ?_) (a' := ?_) #[true, true, true, true, false, true, false, false, false] rfl rfl (by kernel_rfl) (fun _ _ _ h => h) (Or.inl ⟨by rfl, ?_⟩) ?_ ?_
        rotate_left
        · intro w'
          go_simp
          with_reducible rfl
        rotate_left
        · simp only [Act.put, List.setIfInBounds_toArray, List.set_cons_zero, List.set_cons_succ, i64_w, i32_w]
          rfl
        refine pure_ (i := 6) (N := some 2) (v := ?_) (a' := ?_) #[true, true, true, true, false, true, true, false, false] rfl rfl (by kernel_rfl) (fun _ _ _ h => h) (Or.inl ⟨by rfl, ?_⟩) ?_ ?_
        rotate_left
        · intro w'
          go_simp
          with_reducible rfl
        rotate_left
        · simp only [Act.put, List.setIfInBounds_toArray, List.set_cons_zero, List.set_cons_succ, i64_w, i32_w]
          rfl
        refine take_ (i := 4) (N := some 31) (v := ?_) (a' := ?_) #[true, true, true, true, true, true, true, false, false] rfl rfl (by kernel_rfl) (fun _ _ _ h => h) (Or.inl ⟨by rfl, ?_⟩) hHeld ?_ ?_
        rotate_left
        · intro w' s0
          go_simp
          with_reducible rfl
        rotate_left
        · simp only [Act.put, List.setIfInBounds_toArray, List.set_cons_zero, List.set_cons_succ, i64_w, i32_w]
          rfl
        refine pure_ (i := 7) (N := some 3) (v := ?_) (a' := ?_) #[true, true, true, true, true, true, true, true, false] rfl rfl (by kernel_rfl) (fun _ _ _ h => h) (Or.inl ⟨by rfl, ?_⟩) ?_ ?_
        rotate_left
        · intro w'
          go_simp
          with_reducible rfl
        rotate_left
        · simp only [Act.put, List.setIfInBounds_toArray, List.set_cons_zero, List.set_cons_succ, i64_w, i32_w]
          rfl
        refine pure_ (i := 8) (N := some 4) (v := ?_) (a' := ?_) #[true, true, true, true, true, true, true, true, true] rfl rfl (by kernel_rfl) (fun _ _ _ h => h) (Or.inl ⟨by rfl, ?_⟩) ?_ ?_
        rotate_left
        · intro w'
          go_simp
          with_reducible rfl
        rotate_left
        · simp only [Act.put, List.setIfInBounds_toArray, List.set_cons_zero, List.set_cons_succ, i64_w, i32_w]
          rfl
        refine done_ (by kernel_rfl) ?_
        go_wp2
        have hre := HRE.out
        simp only [Prod.mk.injEq] at hre
        obtain ⟨rfl, rfl, rfl⟩ := hre
        have HFW := Aside0.mk (drain_whole (dk_own HD3.out (dq_drew ⟨HD3.out.1⟩).out (DK.refl _ _).drew))
        clear HRE
        refine bodyPost_ret (v := .tuple #[u3, .int .i64 w2, .int .i64 (i : Int)]) (by simp [results, Try.results10, go_sem]) rfl ?_
        exact ⟨u3, rfl, HFW.out⟩
    · obtain rfl : i = l.length := by omega
      have hib : decide ((l.length : Int) < (l.length : Int)) = false := decide_eq_false (by omega)
      have hw := HW.out
      rw [List.drop_length] at hw
      simp only [wholeS] at hw
      obtain ⟨w2, e2, hse⟩ : ∃ w2 e2, endS st q = (w2, e2) := ⟨_, _, rfl⟩
      have hel := endS_len st q
      rw [hse] at hw hel
      simp only [Prod.mk.injEq] at hw hel
      obtain ⟨rfl, rfl, rfl⟩ := hw
      have HSE := Aside0.mk hse
      have HLE := Aside0.mk (show (o ++ e2).length ≤ 140737488355328 by have := HLN.out; have := HL.out; rw [List.length_append]; omega)
      clear hse hel hlt hil hik HW HLN
      go_wp2_with (go_at_call 21; (with_reducible refine (dr_end HD HSE.out).mono ?_); rintro e w4 ⟨rfl, hs⟩; have HE4 := Aside0.mk hs; clear hs HD)
      replace HE4 := Aside0.mk (dk_own HE4.out (dq_drew ⟨HE4.out.1⟩).out (DK.refl _ _).drew)
      have HE := HE4
      clear HE4
      have hc3 := dq_c3 ⟨HE.out.1⟩
      refine start_ (n := 12) (S := fun w' => w'.cell? ⟨w.heap.size, 3, none⟩ = some (.int .i64 w2)) (ds := []) #[false, false, false, false, false, false, false, false, false, false, false, false] (by kernel_rfl) rfl rfl (hc3) (fun hHeld => ?_)
      generalize w4.drew = W9 at HE hc3 hHeld ⊢
      refine pure_ (i := 0) (N := some 36) (v := ?_) (a' := ?_) #[true, false, false, false, false, false, false, false, false, false, false, false] rfl rfl (by kernel_rfl) (fun _ _ _ h => h) (Or.inl ⟨by rfl, ?_⟩) ?_ ?_
      rotate_left
      · intro w'
        go_simp
        with_reducible rfl
      rotate_left
      · simp only [Act.put, List.setIfInBounds_toArray, List.set_cons_zero, List.set_cons_succ, i64_w, i32_w]
        rfl
      refine pure_ (i := 1) (N := some 37) (v := ?_) (a' := ?_) #[true, true, false, false, false, false, false, false, false, false, false, false] rfl rfl (by kernel_rfl) (fun _ _ _ h => h) (Or.inl ⟨by rfl, ?_⟩) ?_ ?_
      rotate_left
      · intro w'
        go_simp
        with_reducible rfl
      rotate_left
      · simp only [Act.put, List.setIfInBounds_toArray, List.set_cons_zero, List.set_cons_succ, i64_w, i32_w]
        rfl
      refine pure_ (i := 3) (N := some 39) (v := ?_) (a' := ?_) #[true, true, false, true, false, false, false, false, false, false, false, false] rfl rfl (by kernel_rfl) (fun _ _ _ h => h) (Or.inl ⟨by rfl, ?_⟩) ?_ ?_
      rotate_left
      · intro w'
        go_simp
        with_reducible rfl
      rotate_left
      · simp only [Act.put, List.setIfInBounds_toArray, List.set_cons_zero, List.set_cons_succ, i64_w, i32_w]
        rfl
      refine pure_ (i := 4) (N := some 40) (v := ?_) (a' := ?_) #[true, true, false, true, true, false, false, false, false, false, false, false] rfl rfl (by kernel_rfl) (fun _ _ _ h => h) (Or.inl ⟨by rfl, ?_⟩) ?_ ?_
      rotate_left
      · intro w'
        go_simp
        with_reducible rfl
      rotate_left
      · simp only [Act.put, List.setIfInBounds_toArray, List.set_cons_zero, List.set_cons_succ, i64_w, i32_w]
        rfl
      refine pure_ (i := 5) (N := some 41) (v := ?_) (a' := ?_) #[true, true, false, true, true, true, false, false, false, false, false, false] rfl rfl (by kernel_rfl) (fun _ _ _ h => h) (Or.inl ⟨by rfl, ?_⟩) ?_ ?_
      rotate_left
      · intro w'
        go_simp
        with_reducible rfl
      rotate_left
      · simp only [Act.put, List.setIfInBounds_toArray, List.set_cons_zero, List.set_cons_succ, i64_w, i32_w]
        rfl
      refine pure_ (i := 7) (N := some 43) (v := ?_) (a' := ?_) #[true, true, false, true, true, true, false, true, false, false, false, false] rfl rfl (by kernel_rfl) (fun _ _ _ h => h) (Or.inl ⟨by rfl, ?_⟩) ?_ ?_
      rotate_left
      · intro w'
        go_simp
        with_reducible rfl
      rotate_left
      · simp only [Act.put, List.setIfInBounds_toArray, List.set_cons_zero, List.set_cons_succ, i64_w, i32_w]
        rfl
      refine pure_ (i := 8) (N := some 44) (v := ?_) (a' := ?_) #[true, true, false, true, true, true, false, true, true, false, false, false] rfl rfl (by kernel_rfl) (fun _ _ _ h => h) (Or.inl ⟨by rfl, ?_⟩) ?_ ?_
      rotate_left
      · intro w'
        go_simp
        with_reducible rfl
      rotate_left
      · simp only [Act.put, List.setIfInBounds_toArray, List.set_cons_zero, List.set_cons_succ, i64_w, i32_w]
        rfl
      refine take_ (i := 6) (N := some 42) (v := ?_) (a' := ?_) #[true, true, false, true, true, true, true, true, true, false, false, false] rfl rfl (by kernel_rfl) (fun _ _ _ h => h) (Or.inl ⟨by rfl, ?_⟩) hHeld ?_ ?_
      rotate_left
      · intro w' s0
        go_simp
        with_reducible rfl
      rotate_left
      · simp only [Act.put, List.setIfInBounds_toArray, List.set_cons_zero, List.set_cons_succ, i64_w, i32_w]
        rfl
      refine one_ (i := 2) (N := some 38) #[true, true, true, true, true, true, true, true, true, false, false, false] rfl rfl (by kernel_rfl) (by decide) (fun K hK => ?_)
      refine goes_ Try.func23 (by kernel_rfl) rfl #[.pointer (some ⟨w.heap.size, 0, none⟩), u] (by rfl) rfl rfl (by simp only [List.map_toArray, List.map_cons, List.map_nil]; rfl) ?_
      with_reducible refine (dr_drain HE HLE.out).mono ?_
      rintro e w5 ⟨u5, rfl, hd⟩
      refine ⟨_, rfl, ?_⟩
      have HF := Aside0.mk hd
      clear hd HE
      refine hK.out _ _ (dq_c3 ⟨HF.out.1⟩) (fun hHeld => ?_)
      clear hK K
      refine norm_ (a' := ?_) ?_ ?_
      rotate_left
      · show Act.put _ (some 38) _ = _
        simp only [Act.put, List.setIfInBounds_toArray, List.set_cons_zero, List.set_cons_succ, i64_w, i32_w]
        rfl
      refine pure_ (i := 9) (N := some 2) (v := ?_) (a' := ?_) #[true, true, true, true, true, true, true, true, true, true, false, false] rfl rfl (by kernel_rfl) (fun _ _ _ h => h) (Or.inl ⟨by rfl, ?_⟩) ?_ ?_
      rotate_left
      · intro w'
        go_simp
        with_reducible rfl
      rotate_left
      · simp only [Act.put, List.setIfInBounds_toArray, List.set_cons_zero, List.set_cons_succ, i64_w, i32_w]
        rfl
      refine pure_ (i := 10) (N := some 3) (v := ?_) (a' := ?_) #[true, true, true, true, true, true, true, true, true, true, true, false] rfl rfl (by kernel_rfl) (fun _ _ _ h => h) (Or.inl ⟨by rfl, ?_⟩) ?_ ?_
      rotate_left
      · intro w'
        go_simp
        with_reducible rfl
      rotate_left
      · simp only [Act.put, List.setIfInBounds_toArray, List.set_cons_zero, List.set_cons_succ, i64_w, i32_w]
        rfl
      refine pure_ (i := 11) (N := some 4) (v := ?_) (a' := ?_) #[true, true, true, true, true, true, true, true, true, true, true, true] rfl rfl (by kernel_rfl) (fun _ _ _ h => h) (Or.inl ⟨by rfl, ?_⟩) ?_ ?_
      rotate_left
      · intro w'
        go_simp
        with_reducible rfl
      rotate_left
      · simp only [Act.put, List.setIfInBounds_toArray, List.set_cons_zero, List.set_cons_succ, i64_w, i32_w]
        rfl
      refine done_ (by kernel_rfl) ?_
      clear hc3 hHeld
      go_wp2
      have HFW := Aside0.mk (drain_whole HF.out)
      refine bodyPost_ret (v := .tuple #[u5, .int .i64 w2, .int .i64 (l.length : Int)]) (by simp [results, Try.results10, go_sem]) rfl ?_
      exact ⟨u5, rfl, HFW.out⟩
theorem quoted_Whole.calls (A0 : Option Addr) (c0 : Nat) (l0 : List Int) (r1 : List Int) (r2 : Int) (r3 : Int) (w : World) (hr0 : Kd.C (Kd.int .u8) w A0 l0.length l0) (hc0 : l0.length ≤ c0) (h : quoted_Whole.f l0 = some (r1, r2, r3)) :
    Calls Try.prog 10 #[.slice A0 l0.length c0] w fun e w' => ∃ v0_ : Value, e = .returned (.tuple #[v0_, .int .i64 r2, .int .i64 r3]) ∧ Kd.R (Kd.int .u8) 5 w' w.heap.size (fun _ => True) v0_ r1 ∧ Below w.heap.size w w' := by
  unfold quoted_Whole.f at h
  split at h
  · rename_i hc
    exact whole_walk A0 c0 l0 r1 r2 r3 w ⟨Kd.reads_of_C (enc := Value.int .u8) (d := (0 : Int)) (h1 := fun _ => rfl) hr0⟩ hc0 hc.1 hc.2 (Option.some.inj h)
  · cases h
end Go.Proofs.Ytemdlahghbbkoaa.PAll
