/- CrcJoins: the sum of two texts, one behind the other, is what Join makes of both sums. -/
import Derived.Test.YtlinaloemppniaaDoorSteps
import Derived.Test.YtlinaloemppniaaDoorJoin
import Derived.Test.YtlinaloemppniaaDoorOwn
namespace Go.Proofs.YtlinaloemppniaaDoor.PAll
open Go.RowKit Go.Proofs.YtlinaloemppniaaDoor.Crc Go.Proofs.YtlinaloemppniaaDoor.CrcMath Go.Proofs.YtlinaloemppniaaDoorW.PrintWords Go.Proofs.YtlinaloemppniaaDoorW.PrintLast Go.Proofs.YtlinaloemppniaaDoorW.PrintMore
attribute [local go_sem] max2_int min2_int max_two min_two max_three min_three max_four min_four   -- for this text's walks alone
set_option linter.unusedVariables false
set_option linter.unusedSimpArgs false
theorem not_step' (s : B) (x : Int) : ~~~(stepB s x) = mvn 8 (~~~s ^^^ bv x) := by unfold stepB; rw [BitVec.not_not]
theorem not_xor (a b : B) : ~~~a ^^^ ~~~b = a ^^^ b := by
  apply BitVec.eq_of_getLsbD_eq
  intro i hi
  simp only [BitVec.getLsbD_xor, BitVec.getLsbD_not, hi, decide_true, Bool.true_and]
  cases a.getLsbD i <;> cases b.getLsbD i <;> rfl
theorem xor_self_right (a b : B) : (a ^^^ b) ^^^ b = a := by rw [BitVec.xor_assoc, BitVec.xor_self, BitVec.xor_zero]
theorem step_diff (s s' : B) (x : Int) : stepB s x ^^^ stepB s' x = mvn 8 (s ^^^ s') := by
  rw [← not_xor, not_step', not_step', ← mvn_xor, x4, BitVec.xor_self, BitVec.xor_zero, not_xor]
theorem sum_diff (m : List Int) : ∀ s s' : B, sumB s m ^^^ sumB s' m = mvn (8 * m.length) (s ^^^ s') := by
  induction m with
  | nil => intro s s'; rfl
  | cons x m ih =>
    intro s s'
    show sumB (stepB s x) m ^^^ sumB (stepB s' x) m = _
    rw [ih, step_diff, ← mvn_add, List.length_cons, show 8 + 8 * m.length = 8 * (m.length + 1) by omega]
theorem sum_join (a b : List Int) : joinB (sumB 0#32 a) (sumB 0#32 b) (b.length : Int) = sumB 0#32 (a ++ b) := by
  unfold joinB
  rw [Int.toNat_natCast, sumB_append]
  have := sum_diff b (sumB 0#32 a) 0#32
  rw [BitVec.xor_zero] at this
  rw [← this, xor_self_right]
/-- the two rows of the call's own. -/
def JS (w W : World) (v2 v4 : Value) (l2 l4 : List Int) : Prop := W.ownsRow w.heap.size 5 1 v2 l2.length (encs (Value.int .u8) l2) ∧ W.ownsRow w.heap.size 5 1 v4 l4.length (encs (Value.int .u8) l4) ∧ Below w.heap.size w W
theorem js_below {w W W' : World} {v2 v4 : Value} {l2 l4 : List Int} (h : JS w W v2 v4 l2 l4) (hb : Below W.heap.size W W') : JS w W' v2 v4 l2 l4 := ⟨Own.own_below h.1 hb, Own.own_below h.2.1 hb, below_step h.2.2 hb⟩
theorem js_in {w W : World} {v2 v4 : Value} {l2 l4 : List Int} (h : Aside0 (JS w W v2 v4 l2 l4)) {A : Option Addr} {c : Nat} {l : List Int} (hR : Aside0 (Rd w A l)) (hc : l.length ≤ c) (hm : l.length ≤ 9223372036854775807) (hb : Aside0 (Bytes l)) (hT : Aside0 (Tab w)) :
    Calls Tryd.prog 8 #[.slice A l.length c] W fun e W' => e = .returned (.int .u32 (I (sumB 0#32 l))) ∧ JS w W' v2 v4 l2 l4 :=
  (sum_reads A c l W ⟨hR.out.below h.out.2.2⟩ hc hm hb ⟨tab_below hT.out h.out.2.2 rfl⟩).mono fun e W' ⟨he, hd⟩ => ⟨he, js_below h.out hd.below⟩
theorem own_sum {w W : World} {A : Option Addr} {c n : Nat} {l : List Int} (h : W.ownsRow w.heap.size 5 1 (.slice A n c) l.length (encs (Value.int .u8) l)) (hn : l.length = n) (hm : l.length ≤ 9223372036854775807) (hb : Bytes l) (hT : Tab W) :
    Calls Tryd.prog 8 #[.slice A n c] W fun e W' => e = .returned (.int .u32 (I (sumB 0#32 l))) ∧ Drawn0 W W' := by
  subst hn
  exact sum_reads A c l W ⟨own_reads_of' h⟩ (own_cap h) hm ⟨hb⟩ ⟨hT⟩
theorem js_join {w W : World} {v2 v4 : Value} {l2 l4 : List Int} (h : Aside0 (JS w W v2 v4 l2 l4)) (x y : B) (n : Int) (hn : n ≤ 9223372036854775807) :
    Calls Tryd.prog 12 #[.int .u32 (I x), .int .u32 (I y), .int .i64 n] W fun e W' => e = .returned (.int .u32 (I (joinB x y n))) ∧ JS w W' v2 v4 l2 l4 :=
  (join_calls x y n hn W).mono fun e W' ⟨he, hb⟩ => ⟨he, js_below h.out hb⟩
theorem js_zero {w W : World} {v2 v4 : Value} {l2 l4 : List Int} (h : Aside0 (JS w W v2 v4 l2 l4)) (hT : Aside0 (Tab w)) : Calls Tryd.prog 8 #[.slice (some ⟨W.heap.size, 0, none⟩) 1 1] (W.alloc (.cells #[.int .u8 0] 5)) fun e W' => e = .returned (.int .u32 3523407757) ∧ JS w W' v2 v4 l2 l4 :=
  (lit0 W ⟨tab_below hT.out h.out.2.2 rfl⟩).mono fun e W' ⟨he, hb⟩ => ⟨he, js_below h.out hb⟩
theorem own_fresh {W : World} {base n : Nat} {e : TypeId} {size : Nat} {v : Value} {xs : List Value} (h : W.ownsRow base e size v n xs) {k : Nat} (hk : W.heap.size ≤ k) : v.ownBlock ≠ some k := by
  rcases h.2 with ⟨rfl, _⟩ | ⟨g, cap, cur, rfl, _, hg, _⟩
  · simp [Value.ownBlock]
  · intro e'
    have : g = k := by simpa [Value.ownBlock] using e'
    have := blk_lt hg
    omega
abbrev U8s (l : List Int) : List Value := encs (Value.int .u8) l
def JOne (w W : World) (v : Value) (l : List Int) : Prop := W.ownsRow w.heap.size 5 1 v l.length (U8s l) ∧ Below w.heap.size w W
def JTwo (w W : World) (v2 v3 : Value) (l2 l3 : List Int) : Prop := W.ownsRow w.heap.size 5 1 v2 l2.length (U8s l2) ∧ W.ownsRow w.heap.size 5 1 v3 l3.length (U8s l3) ∧ v2.ownBlock ≠ v3.ownBlock ∧ Below w.heap.size w W
theorem ja1 {w w1 : World} {v1 : Value} {a : List Int} (hown : w1.ownsRow w.heap.size 5 1 v1 ([] ++ a).length (U8s ([] ++ a))) (hg : (w.alloc (.cells #[] 5)).grownBy w1 (Value.slice (some ⟨w.heap.size, 0, none⟩) 0 0).ownBlock) : JOne w w1 v1 a :=
  ⟨by rw [List.nil_append] at hown; exact hown, (((Below.refl w.heap.size w).alloc (Nat.le_refl _) (.cells #[] 5))).grown hg (by simp) (fun k hk => by simp [Value.ownBlock] at hk; omega)⟩
theorem ja2 {w w1 w2 : World} {v1 v2 : Value} {a b : List Int} (h : JOne w w1 v1 a) (hown : w2.ownsRow w.heap.size 5 1 v2 (a ++ b).length (U8s (a ++ b))) (hg : w1.grownBy w2 v1.ownBlock) : JOne w w2 v2 (a ++ b) :=
  ⟨hown, h.2.grown hg h.2.size (own_base h.1)⟩
theorem ja3 {w w2 w3 : World} {v2 v3 : Value} {a : List Int} (h : JOne w w2 v2 a) (hown : w3.ownsRow w.heap.size 5 1 v3 ([] ++ a).length (U8s ([] ++ a))) (hg : (w2.alloc (.cells #[] 5)).grownBy w3 (Value.slice (some ⟨w2.heap.size, 0, none⟩) 0 0).ownBlock)
    (hat : v3.ownBlock = (Value.slice (some ⟨w2.heap.size, 0, none⟩) 0 0).ownBlock ∨ v3.ownBlock = some (w2.alloc (.cells #[] 5)).heap.size) : JTwo w w3 v2 v3 a a := by
  rw [List.nil_append] at hown
  have h1 := Own.own_below h.1 (below_alloc (Below.refl w2.heap.size w2) (.cells #[] 5))
  have f1 := own_fresh h.1 (Nat.le_refl _)
  have f2 := own_fresh h.1 (k := (w2.alloc (.cells #[] 5)).heap.size) (by simp)
  refine ⟨own_other h1 hg (.inr (by simpa [Value.ownBlock] using f1)), hown, ?_, (h.2.alloc h.2.size (.cells #[] 5)).grown hg (Nat.le_trans h.2.size (by simp)) (fun k hk => by have := h.2.size; simp [Value.ownBlock] at hk; omega)⟩
  rcases hat with e | e <;> rw [e]
  · simpa [Value.ownBlock] using f1
  · exact f2
theorem ja4 {w w3 w4 : World} {v2 v3 v4 : Value} {a b c : List Int} (h : JTwo w w3 v2 v3 a b) (hown : w4.ownsRow w.heap.size 5 1 v4 (b ++ c).length (U8s (b ++ c))) (hg : w3.grownBy w4 v3.ownBlock) : JS w w4 v2 v4 a (b ++ c) :=
  ⟨own_other h.1 hg (.inr h.2.2.1), hown, h.2.2.2.grown hg h.2.2.2.size (own_base h.2.1)⟩
theorem bytes_app {a b : List Int} (ha : Bytes a) (hb : Bytes b) : Bytes (a ++ b) := fun x hx => (List.mem_append.1 hx).elim (ha x) (hb x)
theorem js_two {w W : World} {A : Option Addr} {n c : Nat} {v4 : Value} {l2 l4 : List Int} (h : Aside0 (JS w W (.slice A n c) v4 l2 l4)) (hn : l2.length = n) (hm : l2.length ≤ 9223372036854775807) (hb : Bytes l2) (hT : Aside0 (Tab w)) : Calls Tryd.prog 8 #[.slice A n c] W fun e W' => e = .returned (.int .u32 (I (sumB 0#32 l2))) ∧ JS w W' (.slice A n c) v4 l2 l4 :=
  (own_sum (w := w) h.out.1 hn hm hb (tab_below hT.out h.out.2.2 rfl)).mono fun e W' ⟨he, hd⟩ => ⟨he, js_below h.out hd.below⟩
theorem js_all {w W : World} {A : Option Addr} {n c : Nat} {v2 : Value} {l2 l4 : List Int} (h : Aside0 (JS w W v2 (.slice A n c) l2 l4)) (hn : l4.length = n) (hm : l4.length ≤ 9223372036854775807) (hb : Bytes l4) (hT : Aside0 (Tab w)) : Calls Tryd.prog 8 #[.slice A n c] W fun e W' => e = .returned (.int .u32 (I (sumB 0#32 l4))) ∧ JS w W' v2 (.slice A n c) l2 l4 :=
  (own_sum (w := w) h.out.2.1 hn hm hb (tab_below hT.out h.out.2.2 rfl)).mono fun e W' ⟨he, hd⟩ => ⟨he, js_below h.out hd.below⟩
set_option maxHeartbeats 8000000 in
set_option maxRecDepth 100000 in
theorem joins_bits (A1 A2 A3 : Option Addr) (c1 c2 c3 : Nat) (a b c : List Int) (w : World) (hR1 : Aside0 (Rd w A1 a)) (hR2 : Aside0 (Rd w A2 b)) (hR3 : Aside0 (Rd w A3 c)) (hc1 : a.length ≤ c1) (hc2 : b.length ≤ c2) (hc3 : c.length ≤ c3)
    (hm1 : a.length ≤ 1048576) (hm2 : b.length ≤ 1048576) (hm3 : c.length ≤ 1048576) (hb1 : Aside0 (Bytes a)) (hb2 : Aside0 (Bytes b)) (hb3 : Aside0 (Bytes c)) (hT : Aside0 (Tab w)) :
    Calls Tryd.prog 7 #[.slice A1 a.length c1, .slice A2 b.length c2, .slice A3 c.length c3] w fun e w' => e = .returned (.bool true) ∧ Below w.heap.size w w' := by
  have HL1 := Aside0.mk (show (([] : List Int).length + a.length) * 1 ≤ 140737488355328 by simp; omega)
  have HL2 := Aside0.mk (show (a.length + b.length) * 1 ≤ 140737488355328 by omega)
  have HL3 := Aside0.mk (show (([] : List Int).length + (a ++ b).length) * 1 ≤ 140737488355328 by simp; omega)
  have HL4 := Aside0.mk (show ((a ++ b).length + c.length) * 1 ≤ 140737488355328 by simp; omega)
  have HM := Aside0.mk (show (a ++ b).length ≤ 9223372036854775807 ∧ ((a ++ b) ++ c).length ≤ 9223372036854775807 ∧ a.length ≤ 9223372036854775807 ∧ b.length ≤ 9223372036854775807 ∧ c.length ≤ 9223372036854775807 by simp; omega)
  have HBy := Aside0.mk (show Bytes (a ++ b) ∧ Bytes ((a ++ b) ++ c) from ⟨bytes_app hb1.out hb2.out, bytes_app (bytes_app hb1.out hb2.out) hb3.out⟩)
  have j1 := sum_join a b
  have j2 := sum_join (a ++ b) c
  have j3 := sum_join b c
  have j4 := sum_join a (b ++ c)
  rw [List.length_append, ← List.append_assoc] at j4
  have hbl : ((b.length : Int) + (c.length : Int)) = ((b.length + c.length : Nat) : Int) := by omega
  have HBI := Aside0.mk (show (b.length : Int) ≤ 9223372036854775807 ∧ (c.length : Int) ≤ 9223372036854775807 ∧ ((b.length + c.length : Nat) : Int) ≤ 9223372036854775807 by omega)
  rw [← hbl] at j4 HBI
  have J1 := Aside0.mk j1
  have J2 := Aside0.mk j2
  have J3 := Aside0.mk j3
  have J4 := Aside0.mk j4
  obtain ⟨d, hd⟩ : ∃ d, d = a ++ b := ⟨_, rfl⟩
  obtain ⟨e, he⟩ : ∃ e, e = d ++ c := ⟨_, rfl⟩
  rw [← hd, ← he] at HM HBy J2
  rw [← hd] at HL3 HL4 J1
  rw [← hd, ← he] at J4
  have HD := Aside0.mk hd
  have HE := Aside0.mk he
  have hx2 : (I (sumB 0#32 d) == I (sumB 0#32 d)) = true := beq_self_eq_true _
  have hx4 : (I (sumB 0#32 e) == I (sumB 0#32 e)) = true := beq_self_eq_true _
  clear j1 j2 j3 j4 hbl hd he
  go_enter Tryd.func7, Tryd.ntmps7
  go_wp2_with (first
    | (at_builtin; refine Own.app_rows (W := w.alloc (.cells #[] 5)) (enc := Value.int .u8) (fun _ => rfl) 0 w.heap.size rfl (.tmp 11) (.tmp 12) 22 5 (.int .u8 0) 1 rfl Tryd.underlying22 info5 rfl (by decide) (.slice (some ⟨w.heap.size, 0, none⟩) 0 0) [] a A1 a.length c1 rfl rfl rfl (own_lit_of w w.heap.size 5 ([] : List Int) (Nat.le_refl _) (by simp)) ((hR1.out).below (below_alloc (Below.refl _ _) _)) (by simp) HL1.out ?_; intro v1 w1 hown hgrow hat; obtain ⟨Av1, cv1, hv1⟩ := own_slice hown; have HA := Aside0.mk (ja1 hown hgrow); rw [List.nil_append] at hv1; subst hv1; clear hown hgrow hat HL1)
    | (at_builtin; refine Own.app_rows (W := w1) (enc := Value.int .u8) (fun _ => rfl) 0 w.heap.size rfl (.tmp 13) (.tmp 14) 22 5 (.int .u8 0) 1 rfl Tryd.underlying22 info5 rfl (by decide) (.slice Av1 a.length cv1) a b A2 b.length c2 rfl rfl rfl HA.out.1 ((hR2.out).below HA.out.2) HA.out.2.size HL2.out ?_; intro v2 w2 hown hgrow hat; have hown' := (ja2 HA.out hown hgrow); rw [← HD.out] at hown hown'; obtain ⟨Av2, cv2, hv2⟩ := own_slice hown; have HB := Aside0.mk hown'; subst hv2; clear hown hown' hgrow hat HA HL2)
    | (at_builtin; refine Own.app_rows (W := w2.alloc (.cells #[] 5)) (enc := Value.int .u8) (fun _ => rfl) 0 w.heap.size rfl (.tmp 16) (.tmp 17) 22 5 (.int .u8 0) 1 rfl Tryd.underlying22 info5 rfl (by decide) (.slice (some ⟨w2.heap.size, 0, none⟩) 0 0) [] d Av2 d.length cv2 rfl rfl rfl (own_lit_of w2 w.heap.size 5 ([] : List Int) HB.out.2.size (by simp)) (own_reads_of' (Own.own_below HB.out.1 (below_alloc (Below.refl _ _) _))) (Nat.le_trans HB.out.2.size (by simp)) HL3.out ?_; intro v3 w3 hown hgrow hat; obtain ⟨Av3, cv3, hv3⟩ := own_slice hown; have HC := Aside0.mk (ja3 HB.out hown hgrow hat); rw [List.nil_append] at hv3; subst hv3; clear hown hgrow hat HB HL3)
    | (at_builtin; refine Own.app_rows (W := w3) (enc := Value.int .u8) (fun _ => rfl) 0 w.heap.size rfl (.tmp 18) (.tmp 19) 22 5 (.int .u8 0) 1 rfl Tryd.underlying22 info5 rfl (by decide) (.slice Av3 d.length cv3) d c A3 c.length c3 rfl rfl rfl HC.out.2.1 ((hR3.out).below HC.out.2.2.2) HC.out.2.2.2.size HL4.out ?_; intro v4 w4 hown hgrow hat; obtain ⟨Av4, cv4, hv4⟩ := own_slice hown; have hs := ja4 HC.out hown hgrow; rw [← HE.out] at hs hv4; have HS := Aside0.mk hs; subst hv4; clear hs hown hgrow hat HC HL4))
  go_wp2_with (first
    | (go_at_call 8; (with_reducible refine (js_in HS hR1 hc1 HM.out.2.2.1 hb1 hT).mono ?_); rintro ev wn ⟨rfl, hs⟩; have HS' := Aside0.mk hs; clear HS hs; have HS := HS'; clear HS')
    | (go_at_call 8; (with_reducible refine (js_in HS hR2 hc2 HM.out.2.2.2.1 hb2 hT).mono ?_); rintro ev wn ⟨rfl, hs⟩; have HS' := Aside0.mk hs; clear HS hs; have HS := HS'; clear HS')
    | (go_at_call 8; (with_reducible refine (js_in HS hR3 hc3 HM.out.2.2.2.2 hb3 hT).mono ?_); rintro ev wn ⟨rfl, hs⟩; have HS' := Aside0.mk hs; clear HS hs; have HS := HS'; clear HS')
    | (go_at_call 8; (with_reducible refine (js_two HS rfl HM.out.1 HBy.out.1 hT).mono ?_); rintro ev wn ⟨rfl, hs⟩; have HS' := Aside0.mk hs; clear HS hs; have HS := HS'; clear HS')
    | (go_at_call 8; (with_reducible refine (js_all HS rfl HM.out.2.1 HBy.out.2 hT).mono ?_); rintro ev wn ⟨rfl, hs⟩; have HS' := Aside0.mk hs; clear HS hs; have HS := HS'; clear HS')
    | (go_at_call 8; (with_reducible refine (js_zero HS hT).mono ?_); rintro ev wn ⟨rfl, hs⟩; have HS' := Aside0.mk hs; clear HS hs; have HS := HS'; clear HS')
    | (go_at_call 12; (with_reducible refine (js_join HS (sumB 0#32 a) (sumB 0#32 b) (b.length : Int) HBI.out.1).mono ?_); rintro ev wn ⟨rfl, hs⟩; have HS' := Aside0.mk hs; clear HS hs; have HS := HS'; clear HS'; rw [J1.out])
    | (go_at_call 12; (with_reducible refine (js_join HS (sumB 0#32 b) (sumB 0#32 c) (c.length : Int) HBI.out.2.1).mono ?_); rintro ev wn ⟨rfl, hs⟩; have HS' := Aside0.mk hs; clear HS hs; have HS := HS'; clear HS'; rw [J3.out])
    | (go_at_call 12; (with_reducible refine (js_join HS (sumB 0#32 d) (sumB 0#32 c) (c.length : Int) HBI.out.2.1).mono ?_); rintro ev wn ⟨rfl, hs⟩; have HS' := Aside0.mk hs; clear HS hs; have HS := HS'; clear HS'; rw [J2.out])
    | (go_at_call 12; (with_reducible refine (js_join HS (sumB 0#32 a) (sumB 0#32 (b ++ c)) ((b.length : Int) + (c.length : Int)) HBI.out.2.2).mono ?_); rintro ev wn ⟨rfl, hs⟩; have HS' := Aside0.mk hs; clear HS hs; have HS := HS'; clear HS'; rw [J4.out]))
  go_ret
  exact ⟨rfl, HS.out.2.2⟩
theorem rowInU {w : World} {a0 : Option Addr} {len0 cap0 : Nat} {z0 : List Int} (h : RowIn w a0 len0 cap0 z0) (hl : len0 ≤ 1048576) : ∃ l : List Int, len0 = l.length ∧ Rd w a0 l ∧ l.length ≤ cap0 ∧ Bytes l ∧ l.length ≤ 1048576 := by
  obtain ⟨l, rfl, hr, hc, hb, hm⟩ := rowIn h
  exact ⟨l, rfl, hr, hc, hb, hl⟩
theorem joins_walk (a0 : Option Addr) (len0 cap0 : Nat) (z0 : List Int) (a1 : Option Addr) (len1 cap1 : Nat) (z1 : List Int) (a2 : Option Addr) (len2 cap2 : Nat) (z2 : List Int) (w : World) (w0 : RowIn w a0 len0 cap0 z0) (y0 : len0 ≤ 1048576) (w1 : RowIn w a1 len1 cap1 z1) (y1 : len1 ≤ 1048576) (w2 : RowIn w a2 len2 cap2 z2) (y2 : len2 ≤ 1048576) (hT : Tab w) :
    Calls Tryd.prog 7 #[.slice a0 len0 cap0, .slice a1 len1 cap1, .slice a2 len2 cap2] w fun e w' => e = .returned (.bool true) ∧ Below w.heap.size w w' := by
  obtain ⟨a, rfl, hr1, hc1, hb1, hm1⟩ := rowInU w0 y0
  obtain ⟨b, rfl, hr2, hc2, hb2, hm2⟩ := rowInU w1 y1
  obtain ⟨c, rfl, hr3, hc3, hb3, hm3⟩ := rowInU w2 y2
  exact joins_bits a0 a1 a2 cap0 cap1 cap2 a b c w ⟨hr1⟩ ⟨hr2⟩ ⟨hr3⟩ hc1 hc2 hc3 hm1 hm2 hm3 ⟨hb1⟩ ⟨hb2⟩ ⟨hb3⟩ ⟨hT⟩
end Go.Proofs.YtlinaloemppniaaDoor.PAll
