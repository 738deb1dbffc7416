/- BitsPieces: two readers side by side: the walk by hand and its plain law. -/
import Derived.Test.YtanbckcknfoifaaAbs
namespace Go.Proofs.Ytanbckcknfoifaa.PAll
open Go.RowKit Go.Proofs.YtanbckcknfoifaaW.PrintWords Go.Proofs.YtanbckcknfoifaaW.PrintLast Go.Proofs.YtanbckcknfoifaaW.PrintMore
set_option linter.unusedVariables false
/-- two readers. -/
def RR (w W : World) (g1 g2 H1 n1 H2 n2 : Nat) : Prop := Rdr w W g1 H1 n1 ∧ Rdr w W g2 H2 n2 ∧ g1 ≠ g2
theorem rr_drew {w W : World} {g1 g2 H1 n1 H2 n2 : Nat} (h : Aside0 (RR w W g1 g2 H1 n1 H2 n2)) : Aside0 (RR w W.drew g1 g2 H1 n1 H2 n2) := ⟨(rdr_drew ⟨h.out.1⟩).out, (rdr_drew ⟨h.out.2.1⟩).out, h.out.2.2⟩
theorem rr_one {w W : World} {g1 g2 H1 n1 H2 n2 : Nat} (h : Aside0 (RR w W g1 g2 H1 n1 H2 n2)) {f : FuncId} {args : Array Value} {v : Value} {H n : Nat}
    (hc : Aside0 (Rdr w W g1 H1 n1) → Calls Try.prog f args W fun e W' => e = .returned v ∧ Rdr w W' g1 H n ∧ KeepBut W W' g1 none) :
    Calls Try.prog f args W fun e W' => e = .returned v ∧ RR w W' g1 g2 H n H2 n2 :=
  (hc ⟨h.out.1⟩).mono fun e W' ⟨he, hr, hk⟩ => ⟨he, hr, rdr_keep h.out.2.1 hk (fun e => h.out.2.2 e.symm) hr.2.1, h.out.2.2⟩
theorem rr_two {w W : World} {g1 g2 H1 n1 H2 n2 : Nat} (h : Aside0 (RR w W g1 g2 H1 n1 H2 n2)) {f : FuncId} {args : Array Value} {v : Value} {H n : Nat}
    (hc : Aside0 (Rdr w W g2 H2 n2) → Calls Try.prog f args W fun e W' => e = .returned v ∧ Rdr w W' g2 H n ∧ KeepBut W W' g2 none) :
    Calls Try.prog f args W fun e W' => e = .returned v ∧ RR w W' g1 g2 H1 n1 H n :=
  (hc ⟨h.out.2.1⟩).mono fun e W' ⟨he, hr, hk⟩ => ⟨he, rdr_keep h.out.1 hk h.out.2.2 hr.2.1, hr, h.out.2.2⟩
/-- the first bytes' number. -/
def valB : List Int → Nat
  | [] => 0
  | b :: l => b.toNat + 256 * valB l
theorem valB_snoc (l : List Int) (b : Int) : valB (l ++ [b]) = valB l + b.toNat * 2 ^ (8 * l.length) := by
  induction l with
  | nil => simp [valB]
  | cons x l ih =>
    simp only [List.cons_append, valB, ih, List.length_cons]
    have e : 2 ^ (8 * (l.length + 1)) = 256 * 2 ^ (8 * l.length) := by rw [Nat.mul_add, Nat.pow_add, Nat.mul_comm]
    rw [e, Nat.mul_add, Nat.mul_left_comm, Nat.add_assoc]
theorem pieces_math (H k l : Nat) : H % 2 ^ (k + l) = H % 2 ^ k + H / 2 ^ k % 2 ^ l * 2 ^ k := by
  rw [Nat.pow_add, Nat.mod_mul, Nat.mul_comm (2 ^ k) (H / 2 ^ k % 2 ^ l)]
def Tk (kk : Int) (k H n X Y m : Nat) : Prop := kk = (k : Int) ∧ k ≤ n ∧ k ≤ 32 ∧ H % 2 ^ k = X ∧ H / 2 ^ k = Y ∧ n - k = m
theorem rdr_take' {w W : World} {g H n : Nat} (kk : Int) (k X Y m : Nat) (h : Aside0 (Rdr w W g H n)) (hk : Aside0 (Tk kk k H n X Y m)) :
    Calls Try.prog 14 #[.pointer (some ⟨g, 0, none⟩), .int .i64 kk] W fun e W' => e = .returned (.tuple #[.int .u32 (X : Int), .bool true]) ∧ Rdr w W' g Y m ∧ KeepBut W W' g none := by
  obtain ⟨rfl, h1, h2, rfl, rfl, rfl⟩ := hk.out
  exact rdr_take k h ⟨h1, h2⟩
theorem rdr_B {w W : World} {g H n : Nat} (h : Aside0 (Rdr w W g H n)) : Aside0 (Below w.heap.size w W) := ⟨h.out.2.1⟩
theorem rdr_below {w W W' : World} {g H n : Nat} (h : Rdr w W g H n) (hb : Below W.heap.size W W') (hB : Below w.heap.size w W') : Rdr w W' g H n := ⟨h.1.below hb, hB, h.2.2⟩
theorem rr_new {w W W' : World} {g1 g2 : Nat} (h : Rdr w W g1 0 0) (h2 : Rdr w W' g2 0 0) (hb : Below W.heap.size W W') (hg : W.heap.size ≤ g2) : RR w W' g1 g2 (valB ([] : List Int)) (8 * 0) (valB ([] : List Int)) (8 * 0) :=
  ⟨rdr_below h hb h2.2.1, h2, fun e => by have := h.1.lt; omega⟩
theorem valB_take (xs : List Int) (i : Nat) (h : i < xs.length) : valB (xs.take (i + 1)) = valB (xs.take i) + (xs.getD i 0).toNat * 2 ^ (8 * i) := by
  rw [List.take_succ_eq_append_getElem h, valB_snoc, List.length_take, Nat.min_eq_left (by omega)]
  have : xs.getD i 0 = xs[i] := by simp [List.getD, h]
  rw [this]
theorem arr_cell (w : World) (cs : Array Value) (t : TypeId) (i : Nat) : (w.alloc (.cells cs t)).cell? ⟨w.heap.size, i, none⟩ = cs[i]? := blk_cell (t := t) (by simpa using heap_alloc_new w (.cells cs t)) i
set_option maxHeartbeats 8000000 in
set_option maxRecDepth 100000 in
theorem pieces_walk (xs : List Int) (n m : Int) (w : World) (hl : xs.length = 8) (hw : ∀ x ∈ xs, (Lit.int .u8 x).wf = true) (wn : (Lit.int .u8 n).wf = true) (wm : (Lit.int .u8 m).wf = true) :
    Calls Try.prog 5 #[.agg (xs.map (Value.int .u8)).toArray, .int .u8 n, .int .u8 m] w fun e w' => e = .returned (.bool true) ∧ Below w.heap.size w w' := by
  have rg : ∀ x : Int, (Lit.int .u8 x).wf = true → 0 ≤ x ∧ x ≤ 255 := fun x h => by simpa [Lit.wf, IntKind.min, IntKind.max, IntKind.signed, IntKind.bits] using h
  have hn := rg n wn
  have hm := rg m wm
  have HX := Aside0.mk (show ∀ i : Nat, i < 8 → 0 ≤ xs.getD i 0 ∧ xs.getD i 0 ≤ 255 from fun i hi => by
    have : xs.getD i 0 = xs[i]'(by omega) := by simp [List.getD, show i < xs.length by omega]
    rw [this]; exact rg _ (hw _ (List.getElem_mem _)))
  obtain ⟨k, hk, hk17⟩ : ∃ k : Nat, Int.tmod n 17 = (k : Int) ∧ k < 17 := ⟨(n % 17).toNat, by rw [Int.tmod_eq_emod_of_nonneg hn.1]; omega, by omega⟩
  obtain ⟨l, hl', hl17⟩ : ∃ l : Nat, Int.tmod m 17 = (l : Int) ∧ l < 17 := ⟨(m % 17).toNat, by rw [Int.tmod_eq_emod_of_nonneg hm.1]; omega, by omega⟩
  have HL := Aside0.mk hl
  clear hw wn wm rg hl
  have HCL := Aside0.mk (show ∀ i : Nat, i < 8 → (w.alloc (.cells (xs.map (Value.int .u8)).toArray 36)).cell? ⟨w.heap.size, i, none⟩ = some (.int .u8 (xs.getD i 0)) from fun i hi => by
    rw [arr_cell]; have := HL.out; simp [List.getD, show i < xs.length by omega])
  have HW1 := Aside0.mk (below_alloc (Below.refl w.heap.size w) (.cells (xs.map (Value.int .u8)).toArray 36))
  have tok1 : True := trivial
  go_enter Try.func5, Try.ntmps5
  go_wp2_with (first
    | (go_at_call 11; have tok2 := tok1; clear tok1; (with_reducible refine (rdr_new _ _ ⟨Below.refl _ _⟩).mono ?_); rintro e w1 ⟨g1, rfl, hs, hb, _⟩; have HS := Aside0.mk hs; clear hb hs)
    | (go_at_call 11; (with_reducible refine (rdr_new _ _ (rdr_B HS)).mono ?_); rintro e w2 ⟨g2, rfl, hs, hb, hg⟩; have HT := Aside0.mk (rr_new HS.out hs hb hg); clear hb hs hg HS tok2))
  generalize w.alloc (.cells (xs.map (Value.int .u8)).toArray 36) = W1 at HT HCL HW1 ⊢
  go_loopg [11] 9 (fun kq v11 w' => ∃ i : Nat, v11 = .int .i64 (i : Int) ∧ i ≤ 8 ∧ i + kq = 9 ∧ Aside0 (RR W1 w' g1 g2 (valB (xs.take i)) (8 * i) (valB (xs.take i)) (8 * i)))
  case atStart => exact ⟨0, rfl, by omega, by omega, HT⟩
  case round =>
    clear HT
    obtain ⟨i, rfl, hi8, hik, HT⟩ := hrel
    cases gk with
    | zero => exact absurd hik (by omega)
    | succ k1 =>
    by_cases hlt : i < 8
    · have hb : decide ((i : Int) < 8) = true := decide_eq_true (by omega)
      have hp0 : (0 : Int) ≤ (i : Int) := by omega
      have hp1 : (i : Int) < 8 := by omega
      have hcell := pw_cell_below HT.out.1.2.1 (HCL.out i hlt)
      have HCX := Aside0.mk (HCL.out i hlt)
      have HN := Aside0.mk (show 8 * i ≤ 56 ∧ 0 ≤ xs.getD i 0 ∧ xs.getD i 0 ≤ 255 from ⟨by omega, HX.out i hlt⟩)
      have HV := Aside0.mk (valB_take xs i (by have := HL.out; omega))
      generalize xs.getD i 0 = x at *
      clear hlt
      go_wp2_with (first
        | (go_at_call 13; (with_reducible refine (rr_one HT (fun h => rdr_put x h HN)).mono ?_); rintro e w2 ⟨rfl, ht⟩; replace hcell := pw_cell_below ht.1.2.1 HCX.out; have HT' := Aside0.mk ht; clear HT ht; have HT := HT'; clear HT')
        | (go_at_call 13; (with_reducible refine (rr_two HT (fun h => rdr_put x h HN)).mono ?_); rintro e w2 ⟨rfl, ht⟩; clear hcell; have HT' := Aside0.mk ht; clear HT ht; have HT := HT'; clear HT'))
      go_roundg k1
      case measure => omega
      case rel => exact ⟨i + 1, by go_num, by omega, by omega, by rw [HV.out]; exact HT⟩
    · have hb : decide ((i : Int) < 8) = false := decide_eq_false (by omega)
      obtain rfl : i = 8 := by omega
      have e64 : 8 * 8 = 64 := rfl
      have HT1 : Aside0 (RR W1 wr g1 g2 (valB (xs.take 8)) 64 (valB (xs.take 8)) 64) := HT
      clear HT hb HCL
      generalize valB (xs.take 8) = H at HT1
      obtain ⟨X, hX⟩ : ∃ X, H % 2 ^ (k + l) = X := ⟨_, rfl⟩
      obtain ⟨Y, hY⟩ : ∃ Y, H % 2 ^ k = Y := ⟨_, rfl⟩
      obtain ⟨Z, hZ⟩ : ∃ Z, H / 2 ^ k % 2 ^ l = Z := ⟨_, rfl⟩
      have HH := Aside0.mk (pieces_math H k l)
      rw [hX, hY, hZ] at HH
      have T1 := Aside0.mk (show Tk ((k : Int) + (l : Int)) (k + l) H 64 X (H / 2 ^ (k + l)) (64 - (k + l)) from ⟨by omega, by omega, by omega, hX, rfl, rfl⟩)
      have T2 := Aside0.mk (show Tk (k : Int) k H 64 Y (H / 2 ^ k) (64 - k) from ⟨rfl, by omega, by omega, hY, rfl, rfl⟩)
      have T3 := Aside0.mk (show Tk (l : Int) l (H / 2 ^ k) (64 - k) Z (H / 2 ^ k / 2 ^ l) (64 - (k + l)) from ⟨rfl, by omega, by omega, hZ, rfl, by omega⟩)
      have hXl : X < 4294967296 := by
        rw [← hX]; have h1 := Nat.mod_lt H (Nat.pow_pos (n := k + l) (show 0 < 2 by omega)); have h2 : (2 : Nat) ^ (k + l) ≤ 2 ^ 32 := Nat.pow_le_pow_right (by omega) (by omega)
        have e2 : (2 : Nat) ^ 32 = 4294967296 := by decide
        omega
      have hYl : Y ≤ X := by have := HH.out; omega
      have hZX : Z * 2 ^ k ≤ X := by have := HH.out; omega
      have hZl : Z ≤ X := Nat.le_trans (Nat.le_mul_of_pos_right Z (Nat.pow_pos (show 0 < 2 by omega))) hZX
      clear hX hY hZ
      have q1 : IntKind.u64.wrap (X : Int) = (X : Int) := w64 _ (by omega) (by omega)
      have q2 : IntKind.u64.wrap (Y : Int) = (Y : Int) := w64 _ (by omega) (by omega)
      have q3 : IntKind.u64.wrap (Z : Int) = (Z : Int) := w64 _ (by omega) (by omega)
      have q4 : IntKind.u64.wrap (k : Int) = (k : Int) := w64 _ (by omega) (by omega)
      have q5 : min (k : Int).toNat 64 = k := by omega
      have q60 : (Z : Int) * 2 ^ k = ((Z * 2 ^ k : Nat) : Int) := by rw [Int.natCast_mul, cast_pow]
      have q6 : IntKind.u64.wrap ((Z : Int) * 2 ^ k) = (Z : Int) * 2 ^ k := by rw [q60, w64 _ (by omega) (by omega)]
      have q7 : IntKind.u64.wrap ((Y : Int) + (Z : Int) * 2 ^ k) = (X : Int) := by rw [q60, w64 _ (by omega) (by omega)]; have := HH.out; omega
      clear q60
      have q8 : (0 : Int) ≤ (k : Int) := by omega
      have q9 : ((64 : Int) - (k : Int) - (l : Int)) = ((64 - (k + l) : Nat) : Int) := by omega
      have P56 : 64 - (k + l) ≤ 56 ∨ 56 < 64 - (k + l) := by omega
      rcases P56 with P56 | P56
      all_goals
        have HP := Aside0.mk P56
        have HP2 := Aside0.mk (show (64 - (k + l)) ≤ 56 → 64 - (k + l) ≤ 56 ∧ (0 : Int) ≤ 1 ∧ (1 : Int) ≤ 255 from fun h => ⟨h, by omega, by omega⟩)
        first
          | have hcmp : decide (((64 - (k + l) : Nat) : Int) ≤ 56) = true := decide_eq_true (by omega)
          | have hcmp : decide (((64 - (k + l) : Nat) : Int) ≤ 56) = false := decide_eq_false (by omega)
        clear P56
        go_wp2_with (first
          | (go_at_call 14; (with_reducible refine (rr_one HT1 (fun h => rdr_take' _ (k + l) X _ _ h T1)).mono ?_); rintro e w2 ⟨rfl, ht⟩; have HT := Aside0.mk ht; clear HT1 ht)
          | (go_at_call 14; (with_reducible refine (rr_two HT (fun h => rdr_take' _ k Y _ _ h T2)).mono ?_); rintro e w2 ⟨rfl, ht⟩; have HT' := Aside0.mk ht; clear HT ht T2; have HT := HT'; clear HT')
          | (go_at_call 14; (with_reducible refine (rr_two HT (fun h => rdr_take' _ l Z _ _ h T3)).mono ?_); rintro e w2 ⟨rfl, ht⟩; have HT' := Aside0.mk ht; clear HT ht T3; have HT := HT'; clear HT')
          | (go_at_call 12; (with_reducible refine (rr_one HT (fun h => rdr_held h)).mono ?_); rintro e w2 ⟨rfl, ht⟩; have HT' := Aside0.mk ht; clear HT ht; have HT := HT'; clear HT')
          | (go_at_call 12; (with_reducible refine (rr_two HT (fun h => rdr_held h)).mono ?_); rintro e w2 ⟨rfl, ht⟩; have HT' := Aside0.mk ht; clear HT ht; have HT := HT'; clear HT')
          | (go_at_call 13; (with_reducible refine (rr_one HT (fun h => rdr_put 1 h ⟨HP2.out HP.out⟩)).mono ?_); rintro e w2 ⟨rfl, ht⟩; have HT' := Aside0.mk ht; clear HT ht; have HT := HT'; clear HT')
          | (go_at_call 13; (with_reducible refine (rr_one HT (fun h => rdr_put_no 1 h HP)).mono ?_); rintro e w2 ⟨rfl, ht⟩; have HT' := Aside0.mk ht; clear HT ht; have HT := HT'; clear HT'))
        go_ret
        exact ⟨rfl, below_then HW1.out HW1.out.size HT.out.1.2.1⟩
end Go.Proofs.Ytanbckcknfoifaa.PAll
