/- NumberTurned: the walk by hand (a store into a cut of a row of one's own) and its plain law. -/
import Derived.Test.YtlomhifacokgmaaPureNumberSums
import Derived.Test.YtlomhifacokgmaaOwn
namespace Go.Proofs.Ytlomhifacokgmaa.PAll
open Go.RowKit Go.Proofs.YtlomhifacokgmaaW.PrintWords Go.Proofs.YtlomhifacokgmaaW.PrintLast Go.Proofs.YtlomhifacokgmaaW.PrintMore Go.Proofs.Ytlomhifacokgmaa.Pure Go.Proofs.Ytlomhifacokgmaa.Num
set_option linter.unusedVariables false
set_option linter.unusedSimpArgs false
theorem sumW_set (x : Int) : ∀ (l : List Int) (i a b : Int) (j : Nat) (hj : j < l.length),
    sumW i a b (l.set j x) = (if 148 ≤ i + j ∧ i + j < 156 then sumW i a b l else ((sumW i a b l).1 + (x - l.getD j 0), (sumW i a b l).2 + (sgn x - sgn (l.getD j 0)))) := by
  have shift : ∀ (l : List Int) (i a b p q : Int), sumW i (a + p) (b + q) l = ((sumW i a b l).1 + p, (sumW i a b l).2 + q) := by
    intro l
    induction l with
    | nil => intro i a b p q; rfl
    | cons c l ih =>
      intro i a b p q
      simp only [sumW]
      split
      · rw [show a + p + 32 = a + 32 + p by omega, show b + q + 32 = b + 32 + q by omega]; exact ih _ _ _ _ _
      · rw [show a + p + c = a + c + p by omega, show b + q + sgn c = b + sgn c + q by omega]; exact ih _ _ _ _ _
  intro l
  induction l with
  | nil => intro i a b j hj; simp at hj
  | cons c l ih =>
    intro i a b j hj
    cases j with
    | zero =>
      simp only [List.set_cons_zero, sumW, List.getD_cons_zero, Int.natCast_zero, Int.add_zero]
      by_cases h : 148 ≤ i ∧ i < 156
      · rw [if_pos h, if_pos h, if_pos h]
      · rw [if_neg h, if_neg h, if_neg h, show a + x = a + c + (x - c) by omega, show b + sgn x = b + sgn c + (sgn x - sgn c) by omega]
        exact shift _ _ _ _ _ _
    | succ j =>
      simp only [List.set_cons_succ, sumW, List.getD_cons_succ]
      have e : i + ((j + 1 : Nat) : Int) = i + 1 + (j : Int) := by omega
      rw [e]
      split
      · exact ih _ _ _ _ (by simpa using hj)
      · exact ih _ _ _ _ (by simpa using hj)
/-- the sums before and behind. -/
def TurnedL (b : List Int) (k : Nat) (by_ s1 t1 s2 t2 : Int) : Prop :=
  (148 ≤ k ∧ k ≤ 155 → s1 = s2 ∧ t1 = t2) ∧ (¬ (148 ≤ k ∧ k ≤ 155) → (s1 = s2 ↔ by_ = 0) ∧ (s1 - s2 - t1 + t2 = 0 ∨ s1 - s2 - t1 + t2 = 256 ∨ s1 - s2 - t1 + t2 = -256)) ∧ -131072 ≤ s1 ∧ s1 ≤ 131072 ∧ -131072 ≤ s2 ∧ s2 ≤ 131072 ∧ -131072 ≤ t1 ∧ t1 ≤ 131072 ∧ -131072 ≤ t2 ∧ t2 ≤ 131072
theorem turned_math (b : List Int) (hb : Bytes b) (hl : b.length = 512) (k : Nat) (hk : k < 512) (y : Int) (hy : 0 ≤ y ∧ y ≤ 255) :
    ∃ s1 t1 s2 t2 : Int, sumsF b = (s1, t1, true) ∧ sumsF (b.set k ((b.getD k 0 + y) % 256)) = (s2, t2, true) ∧ TurnedL b k y s1 t1 s2 t2 := by
  have hx : 0 ≤ b.getD k 0 ∧ b.getD k 0 ≤ 255 := by
    have : b.getD k 0 = b[k]'(by omega) := by simp [List.getD, show k < b.length by omega]
    rw [this]; exact hb _ (List.getElem_mem _)
  have h1 := sumW_range b hb 0 0 0
  have hs := sumW_set ((b.getD k 0 + y) % 256) b 0 0 0 k (by omega)
  have hb' : Bytes (b.set k ((b.getD k 0 + y) % 256)) := fun x hx => by
    rcases List.mem_or_eq_of_mem_set hx with h | h
    · exact hb x h
    · subst h; omega
  have h2 := sumW_range _ hb' 0 0 0
  rw [List.length_set] at h2
  unfold sumsF
  rw [if_pos hl, if_pos (by rw [List.length_set]; exact hl)]
  refine ⟨_, _, _, _, rfl, rfl, ?_⟩
  unfold TurnedL
  generalize b.getD k 0 = x at *
  rw [Int.zero_add] at hs
  by_cases hk8 : 148 ≤ k ∧ k ≤ 155
  · rw [if_pos (by omega)] at hs
    rw [hs] at h2 ⊢
    exact ⟨fun _ => ⟨rfl, rfl⟩, fun h => absurd hk8 h, by omega, by omega, by omega, by omega, by omega, by omega, by omega, by omega⟩
  · rw [if_neg (by omega)] at hs
    rw [hs] at h2 ⊢
    simp only at h2 ⊢
    refine ⟨fun h => absurd h hk8, fun _ => ⟨by omega, ?_⟩, by omega, by omega, by omega, by omega, by omega, by omega, by omega, by omega⟩
    unfold sgn
    split <;> split <;> omega
theorem own_cut {W : World} {base g n cap m : Nat} {e : TypeId} {xs : List Int} (h : W.ownsRow base e 1 (.slice (some ⟨g, 0, none⟩) n cap) n (nums .u8 xs)) (hm : m ≤ n) : W.ownsRow base e 1 (.slice (some ⟨g, 0, none⟩) m cap) m (nums .u8 (xs.take m)) ∧ m ≤ cap := by
  have hl : xs.length = n := by have := h.1; simpa [nums] using this
  rcases h.2 with ⟨h', _⟩ | ⟨g', cap', cur, h', h1, h2, h3, h4, h5, h6⟩
  · cases h'
  · injection h' with h' hn hc
    injection h' with h'
    injection h' with h'
    subst h'; subst hc
    refine ⟨⟨by simp [nums]; omega, .inr ⟨g, cap, cur, rfl, h1, h2, by omega, h4, h5, ?_⟩⟩, by omega⟩
    rw [Nat.mul_one] at h6 ⊢
    have : cur.toList.take m = (cur.toList.take n).take m := by rw [List.take_take, Nat.min_eq_left hm]
    rw [this, h6]
    simp [nums, List.map_take]
theorem turned_row {W : World} {base : Nat} {v : Value} {l b : List Int} (h22 : Try.prog.underlying 22 = some (.slice 5)) (hinfo : (Try.prog.info? 5).map (fun i => (i.zero, i.size, i.bytes)) = some (some (.int .u8 0), 1, 1)) (hb : b = (l ++ List.replicate 512 0).take 512) (h : Kd.R (Kd.int .u8) 5 W base (fun _ => True) v (l ++ List.replicate (512 : Int).toNat 0)) :
    ∃ g cap n : Nat, v = .slice (some ⟨g, 0, none⟩) n cap ∧ (∀ W : World, (Instr.slice 22 (.slice (some ⟨g, 0, none⟩) n cap) none (some (.int .i64 512)) none).run Try.prog W = .ok (.slice (some ⟨g, 0, none⟩) 512 cap) W) ∧ W.ownsRow base 5 1 (.slice (some ⟨g, 0, none⟩) 512 cap) 512 (nums .u8 b) := by
  have e5 : (512 : Int).toNat = 512 := rfl
  rw [e5] at h
  have ho := Kd.own_of_R h
  have hlen : (l ++ List.replicate 512 (0 : Int)).length = l.length + 512 := by rw [List.length_append, List.length_replicate]
  obtain ⟨g, cap, hv, _, _⟩ := ho.form (by omega)
  subst hv
  have hcap := own_cap ho
  obtain ⟨i0, hi, _, hsz, _⟩ := info_parts hinfo
  obtain ⟨htk, _, _⟩ := print_take_of (P := Try.prog) (Value.int .u8) 0 22 5 .i64 h22 hi hsz (some ⟨g, 0, none⟩) cap (l ++ List.replicate 512 (0 : Int)) 512 (by omega) (by omega) hcap
  rw [e5] at htk
  have e6 : ((l ++ List.replicate 512 (0 : Int)).take 512).length = 512 := by rw [List.length_take]; omega
  rw [e6] at htk
  exact ⟨g, cap, _, rfl, htk, by rw [hb]; exact (own_cut ho (by omega)).1⟩
theorem turned_sums1 {W : World} {base g cap : Nat} {b : List Int} {s1 t1 : Int} (hl : b.length = 512) (hn : number_Sums.f 1101 b = some (s1, t1, true)) (h : W.ownsRow base 5 1 (.slice (some ⟨g, 0, none⟩) 512 cap) 512 (nums .u8 b)) :
    Calls Try.prog 9 #[.slice (some ⟨g, 0, none⟩) 512 cap] W fun e w' => e = .returned (.tuple #[.int .i64 s1, .int .i64 t1, .bool true]) ∧ Drawn0 W w' := by
  obtain ⟨A, c, e, hr⟩ := own_reads_of (enc := Value.int .u8) (d := 0) h
  cases e
  have hcap := own_cap h
  have := number_Sums.calls 1101 (some ⟨g, 0, none⟩) cap b s1 t1 true W (Kd.C_of_reads (d := (0 : Int)) (h1 := fun _ => rfl) (by rw [hl]; exact hr)) (by omega) hn
  rw [hl] at this
  exact this
theorem turned_store {w W W3 : World} {g cap k : Nat} {b : List Int} {X y s2 t2 : Int} (hX : b.getD k 0 = X) (hl : b.length = 512) (hk : k < 512) (hB : Below w.heap.size w W) (h : W.ownsRow w.heap.size 5 1 (.slice (some ⟨g, 0, none⟩) 512 cap) 512 (nums .u8 b)) (hn : number_Sums.f 1101 (b.set k ((X + y) % 256)) = some (s2, t2, true)) (hd : Drawn0 W W3) :
    Below w.heap.size w (W3.setCell ⟨g, k, none⟩ (.int .u8 ((X + y) % 256))) ∧ W3.cell? ⟨g, k, none⟩ = some (.int .u8 X) ∧ W3.frozen? ⟨g, k, none⟩ = false ∧ True ∧
    Calls Try.prog 9 #[.slice (some ⟨g, 0, none⟩) 512 cap] (W3.setCell ⟨g, k, none⟩ (.int .u8 ((X + y) % 256))) fun e w' => e = .returned (.tuple #[.int .i64 s2, .int .i64 t2, .bool true]) ∧ Drawn0 (W3.setCell ⟨g, k, none⟩ (.int .u8 ((X + y) % 256))) w' := by
  subst hX
  obtain ⟨n, rfl⟩ := hd
  have h3 := pw_own_drewN h n
  have ha := own_at h3 (k : Int) (by omega) (by omega)
  have hs := own_store h3 (k : Int) ((b.getD k 0 + y) % 256)
  have e : rd b (k : Int) = b.getD k 0 := by simp [rd]
  rw [e, Int.toNat_natCast] at ha
  rw [Int.toNat_natCast] at hs
  have hg := own_base h g rfl
  exact ⟨(pw_below_drewN hB n).setCell hg _, ha.1, ha.2, trivial, turned_sums1 (by rw [List.length_set]; exact hl) hn hs.1⟩
theorem turned_end {w W W' : World} (hB : Below w.heap.size w W) (hd : Drawn0 W W') : Below w.heap.size w W' := by obtain ⟨n, rfl⟩ := hd; exact pw_below_drewN hB n
theorem turned_core (b : List Int) (k : Nat) (y s1 t1 s2 t2 : Int) (h : TurnedL b k y s1 t1 s2 t2) :
    (148 ≤ k → k ≤ 155 → s1 = s2 ∧ t1 = t2) ∧ ((k < 148 ∨ 155 < k) → (s1 == s2) = (y == 0) ∧ Int.tmod (s1 - s2 - t1 + t2) 256 = 0) := by
  obtain ⟨h1, h2, _⟩ := h
  refine ⟨fun a c => h1 ⟨a, c⟩, fun hk => ?_⟩
  obtain ⟨h3, h4⟩ := h2 (by omega)
  refine ⟨?_, ?_⟩
  · by_cases hy : y = 0
    · have := h3.2 hy; subst hy; subst this; simp
    · have hne : s1 ≠ s2 := fun e => hy (h3.1 e)
      rw [beq_eq_false_iff_ne.mpr hne, beq_eq_false_iff_ne.mpr hy]
  · rcases h4 with h | h | h <;> rw [h] <;> decide
set_option maxHeartbeats 8000000 in
set_option maxRecDepth 100000 in
theorem turned_walk (A : Option Addr) (c : Nat) (l : List Int) (at_ y : Int) (w : World) (hC : Kd.C (Kd.int .u8) w A l.length l) (hc : l.length ≤ c) (hl : l.length ≤ 140737488351232) (hb : Bytes l) (wa : (Lit.int .u16 at_).wf = true) (wy : (Lit.int .u8 y).wf = true) :
    Calls Try.prog 3 #[.slice A l.length c, .int .u16 at_, .int .u8 y] w fun e w' => e = .returned (.bool true) ∧ Below w.heap.size w w' := by
  have ha : 0 ≤ at_ ∧ at_ ≤ 65535 := by simpa [Lit.wf, IntKind.min, IntKind.max, IntKind.signed, IntKind.bits] using wa
  have hy : 0 ≤ y ∧ y ≤ 255 := by simpa [Lit.wf, IntKind.min, IntKind.max, IntKind.signed, IntKind.bits] using wy
  obtain ⟨k, hk, hk512⟩ : ∃ k : Nat, at_ % 512 = (k : Int) ∧ k < 512 := ⟨(at_ % 512).toNat, by omega, by omega⟩
  obtain ⟨b, hbdef⟩ : ∃ b : List Int, b = (l ++ List.replicate 512 0).take 512 := ⟨_, rfl⟩
  have hbl : b.length = 512 := by rw [hbdef, List.length_take, List.length_append, List.length_replicate]; omega
  have hbb : Bytes b := fun x hx => by
    rw [hbdef] at hx
    have := List.mem_of_mem_take hx
    rcases List.mem_append.1 this with h | h
    · exact hb x h
    · have := (List.mem_replicate.1 h).2; omega
  obtain ⟨s1, t1, s2, t2, hS1, hS2, hT⟩ := turned_math b hbb hbl k hk512 y hy
  have hbb2 : Bytes (b.set k ((b.getD k 0 + y) % 256)) := fun x hx => by
    rcases List.mem_or_eq_of_mem_set hx with h | h
    · exact hbb x h
    · subst h; omega
  have N1 := Aside0.mk (numSums b hbb 1101 (by omega) |>.trans (congrArg some hS1))
  have N2 := Aside0.mk (numSums _ hbb2 1101 (by omega) |>.trans (congrArg some hS2))
  obtain ⟨X, hX⟩ : ∃ X, b.getD k 0 = X := ⟨_, rfl⟩
  have HX0 := Aside0.mk hX
  replace N2 : Aside0 (number_Sums.f 1101 (b.set k ((X + y) % 256)) = some (s2, t2, true)) := ⟨by rw [← hX]; exact N2.out⟩
  obtain ⟨q1, q2⟩ := turned_core b k y s1 t1 s2 t2 hT
  have hT' := hT.2.2
  have HR := Aside0.mk (Kd.reads_of_C (enc := Value.int .u8) (d := (0 : Int)) (h1 := fun _ => rfl) hC)
  have HL1 := Aside0.mk (show (([] : List Int).length + l.length) * 1 ≤ 140737488355328 by simp; omega)
  have HL2 := Aside0.mk (show (l.length + (512 : Int).toNat) * 1 ≤ 140737488355328 by have : (512 : Int).toNat = 512 := rfl; omega)
  have HBD := Aside0.mk hbdef
  have HBL := Aside0.mk hbl
  have hXr : 0 ≤ X ∧ X ≤ 255 := by
    rw [← hX]
    have : b.getD k 0 = b[k]'(by omega) := by simp [List.getD, show k < b.length by omega]
    rw [this]; exact hbb _ (List.getElem_mem _)
  clear hX hS1 hS2 hT hb hbb hbb2 hbdef hbl hC wa wy
  by_cases hk1 : 148 ≤ k ∧ k ≤ 155
  · obtain ⟨rfl, rfl⟩ := q1 hk1.1 hk1.2
    have hb1 : decide ((148 : Int) ≤ (k : Int)) = true := decide_eq_true (by omega)
    have hb2 : decide ((k : Int) ≤ 155) = true := decide_eq_true (by omega)
    clear q1 q2 hk1
    go_enter Try.func3, Try.ntmps3
    go_wp2_with (first
      | (at_builtin; refine Own.app_rows (W := w.alloc (.cells #[] 5)) (enc := Value.int .u8) (fun _ => rfl) 0 w.heap.size rfl (.tmp 15) (.tmp 16) 22 5 (.int .u8 0) 1 rfl Try.underlying22 info5 rfl (by decide) (.slice (some ⟨w.heap.size, 0, none⟩) 0 0) [] l A l.length c rfl rfl rfl (own_lit_of w w.heap.size 5 ([] : List Int) (Nat.le_refl _) (by simp)) ((HR.out).below (below_alloc (Below.refl _ _) _)) (by simp) HL1.out ?_; intro v1 w1 hown hgrow hat; have HA := Aside0.mk (own_lit_of (enc := Value.int .u8) w w.heap.size 5 ([] : List Int) (Nat.le_refl _) (by simp)); have HB1 := Aside0.mk ((((Below.refl w.heap.size w).alloc (Nat.le_refl _) (.cells #[] 5))).grown hgrow (by simp) (own_base HA.out)); have HO1 := Aside0.mk (Kd.R_of_own (h1 := fun _ => rfl) (ok := fun _ => True) hown (fun _ _ => trivial)); clear hown hgrow hat HA)
      | (at_builtin; refine Kd.R_append_zeros (Kd.int .u8) (w0 := w) w.heap.size rfl (.tmp 17) (.const (.int .i64 512)) 22 3 5 (.int .u8 0) 1 rfl Try.underlying22 Try.underlying3 info5 rfl (by decide) (by decide) v1 l 0 512 (fun _ => True) rfl rfl rfl (fun _ _ => trivial) HO1.out (by decide) HB1.out HB1.out.size HL2.out ?_; intro v2 w2 hown hB2 hgrow hat; have HB2 := Aside0.mk hB2; obtain ⟨g, cap, n, hv, hsl, hO2⟩ := turned_row Try.underlying22 info5 HBD.out hown; subst hv; have HO2 := Aside0.mk hO2; have HSA := Aside0.mk (turned_sums1 HBL.out N1.out hO2); clear hown hB2 hgrow hat hO2 HO1 HB1)
      | (go_at_call 9; (with_reducible refine (HSA.out).mono ?_); rintro e w3 ⟨rfl, hd⟩; obtain ⟨hB3, hcl, hfz, hst, hsum⟩ := turned_store HX0.out HBL.out hk512 HB2.out HO2.out N2.out hd; have HB3 := Aside0.mk hB3; have HSB := Aside0.mk hsum; clear hd hB3 hst hsum HB2 HO2 HSA)
      | (go_at_call 9; (with_reducible refine (HSB.out).mono ?_); rintro e w4 ⟨rfl, hd4⟩; have HB4 := Aside0.mk (turned_end HB3.out hd4); clear hd4 HSB))
    go_ret
    exact ⟨rfl, HB4.out⟩
  · obtain ⟨q3, q4⟩ := q2 (by omega)
    have Q4 := Aside0.mk q4
    have hb12 : decide ((148 : Int) ≤ (k : Int)) = false ∨ (decide ((148 : Int) ≤ (k : Int)) = true ∧ decide ((k : Int) ≤ 155) = false) := by
      by_cases h : 148 ≤ k
      · exact .inr ⟨decide_eq_true (by omega), decide_eq_false (by omega)⟩
      · exact .inl (decide_eq_false (by omega))
    have hb3 : ((s1 == s2) = true ∧ (y == 0) = true) ∨ ((s1 == s2) = false ∧ (y == 0) = false) := by
      rw [q3]; cases (y == 0) <;> simp
    clear q1 q2 q3 q4 hk1
    rcases hb12 with hb1 | ⟨hb1, hb2⟩ <;> rcases hb3 with ⟨hb3, hb4⟩ | ⟨hb3, hb4⟩
    all_goals
      go_enter Try.func3, Try.ntmps3
      go_wp2_with (first
        | (at_builtin; refine Own.app_rows (W := w.alloc (.cells #[] 5)) (enc := Value.int .u8) (fun _ => rfl) 0 w.heap.size rfl (.tmp 15) (.tmp 16) 22 5 (.int .u8 0) 1 rfl Try.underlying22 info5 rfl (by decide) (.slice (some ⟨w.heap.size, 0, none⟩) 0 0) [] l A l.length c rfl rfl rfl (own_lit_of w w.heap.size 5 ([] : List Int) (Nat.le_refl _) (by simp)) ((HR.out).below (below_alloc (Below.refl _ _) _)) (by simp) HL1.out ?_; intro v1 w1 hown hgrow hat; have HA := Aside0.mk (own_lit_of (enc := Value.int .u8) w w.heap.size 5 ([] : List Int) (Nat.le_refl _) (by simp)); have HB1 := Aside0.mk ((((Below.refl w.heap.size w).alloc (Nat.le_refl _) (.cells #[] 5))).grown hgrow (by simp) (own_base HA.out)); have HO1 := Aside0.mk (Kd.R_of_own (h1 := fun _ => rfl) (ok := fun _ => True) hown (fun _ _ => trivial)); clear hown hgrow hat HA)
        | (at_builtin; refine Kd.R_append_zeros (Kd.int .u8) (w0 := w) w.heap.size rfl (.tmp 17) (.const (.int .i64 512)) 22 3 5 (.int .u8 0) 1 rfl Try.underlying22 Try.underlying3 info5 rfl (by decide) (by decide) v1 l 0 512 (fun _ => True) rfl rfl rfl (fun _ _ => trivial) HO1.out (by decide) HB1.out HB1.out.size HL2.out ?_; intro v2 w2 hown hB2 hgrow hat; have HB2 := Aside0.mk hB2; obtain ⟨g, cap, n, hv, hsl, hO2⟩ := turned_row Try.underlying22 info5 HBD.out hown; subst hv; have HO2 := Aside0.mk hO2; have HSA := Aside0.mk (turned_sums1 HBL.out N1.out hO2); clear hown hB2 hgrow hat hO2 HO1 HB1)
        | (go_at_call 9; (with_reducible refine (HSA.out).mono ?_); rintro e w3 ⟨rfl, hd⟩; obtain ⟨hB3, hcl, hfz, hst, hsum⟩ := turned_store HX0.out HBL.out hk512 HB2.out HO2.out N2.out hd; have HB3 := Aside0.mk hB3; have HSB := Aside0.mk hsum; clear hd hB3 hst hsum HB2 HO2 HSA)
        | (go_at_call 9; (with_reducible refine (HSB.out).mono ?_); rintro e w4 ⟨rfl, hd4⟩; have HB4 := Aside0.mk (turned_end HB3.out hd4); clear hd4 HSB))
      go_ret
      exact ⟨by rw [Q4.out]; rfl, HB4.out⟩
theorem turned_byts (l : List Int) (h : ∀ x ∈ l, (Lit.int .u8 x).wf = true) : Bytes l := fun x hx => by
  simpa [Lit.wf, IntKind.min, IntKind.max, IntKind.signed, IntKind.bits] using h x hx
theorem turned_row_walk (a0 : Option Addr) (len0 cap0 : Nat) (z0 : List Int) (at_ y : Int) (w : World) (w0 : (a0 = none ∧ len0 = 0 ∧ cap0 = 0 ∧ z0 = []) ∨ ∃ x, a0 = some x ∧ len0 ≤ cap0 ∧ cap0 ≤ maxLen ∧ z0.length = cap0 ∧ (∀ i, i < z0.length → w.cell? (x.add i) = some (.int .u8 (z0.getD i 0))) ∧ ∀ n ∈ z0, (Lit.int .u8 n).wf = true) (y0 : len0 * 1 ≤ 140737488351232) (wa : (Lit.int .u16 at_).wf = true) (wy : (Lit.int .u8 y).wf = true) :
    Calls Try.prog 3 #[.slice a0 len0 cap0, .int .u16 at_, .int .u8 y] w fun e w' => e = .returned (.bool true) ∧ Below w.heap.size w w' := by
  obtain ⟨l0, rfl, hr0, hm0, hw0, hc0⟩ := ReadsInt.ofRowC w0
  exact turned_walk a0 cap0 l0 at_ y w (Kd.C_of_reads (d := (0 : Int)) (h1 := fun _ => rfl) hr0) hc0 (by omega) (turned_byts l0 hw0) wa wy
end Go.Proofs.Ytlomhifacokgmaa.PAll
