/- BitsWhole: behind Align whole bytes are held, the last ones that were put in: the walk by hand and its plain law. -/
import Derived.Test.YtanbckcknfoifaaPieces
namespace Go.Proofs.Ytanbckcknfoifaa.PAll
open Go.RowKit Go.Proofs.YtanbckcknfoifaaW.PrintWords Go.Proofs.YtanbckcknfoifaaW.PrintLast Go.Proofs.YtanbckcknfoifaaW.PrintMore
set_option linter.unusedVariables false
/-- bytes. -/
def Byts (l : List Int) : Prop := ∀ i : Nat, i < l.length → 0 ≤ l.getD i 0 ∧ l.getD i 0 ≤ 255
theorem valB_drop (l : List Int) (hb : Byts l) (m : Nat) (hm : m ≤ l.length) : valB l / 2 ^ (8 * m) = valB (l.drop m) := by
  induction m generalizing l with
  | zero => simp
  | succ m ih =>
    match l, hm, hb with
    | x :: l, hm, hb =>
      have hx := hb 0 (by simp)
      simp at hx
      have e : 2 ^ (8 * (m + 1)) = 256 * 2 ^ (8 * m) := by rw [Nat.mul_add, Nat.pow_add, Nat.mul_comm]
      rw [e, ← Nat.div_div_eq_div_mul]
      have : valB (x :: l) / 256 = valB l := by simp only [valB]; omega
      rw [this, List.drop_succ_cons]
      exact ih l (fun i hi => by have := hb (i + 1) (by simp; omega); simpa using this) (by simpa using hm)
theorem valB_head (l : List Int) (hb : Byts l) (m : Nat) (hm : m < l.length) : ((valB (l.drop m) % 256 : Nat) : Int) = l.getD m 0 ∧ valB (l.drop m) / 256 = valB (l.drop (m + 1)) := by
  have hx := hb m hm
  have e : l.getD m 0 = l[m] := by simp [List.getD, hm]
  rw [e] at hx ⊢
  rw [List.drop_eq_getElem_cons hm]
  simp only [valB]
  constructor <;> omega
theorem byts_take (l : List Int) (hb : Byts l) (m : Nat) : Byts (l.take m) := fun i hi => by
  have hi' : i < m ∧ i < l.length := by rw [List.length_take] at hi; omega
  have : (l.take m).getD i 0 = l.getD i 0 := by simp [List.getD, hi'.1, hi'.2]
  rw [this]; exact hb i hi'.2
def Al (r : Int) (r' H n H' n' : Nat) : Prop := r = (r' : Int) ∧ n % 8 = r' ∧ H / 2 ^ r' = H' ∧ n - r' = n'
theorem rdr_align' {w W : World} {g H n : Nat} (r : Int) (r' H' n' : Nat) (h : Aside0 (Rdr w W g H n)) (hr : Aside0 (Al r r' H n H' n')) :
    Calls Try.prog 16 #[.pointer (some ⟨g, 0, none⟩)] W fun e W' => e = .returned (.int .i64 r) ∧ Rdr w W' g H' n' ∧ KeepBut W W' g none := by
  obtain ⟨rfl, rfl, rfl, rfl⟩ := hr.out
  exact rdr_align h
theorem whole_math (q : List Int) (hb : Byts q) (i k : Nat) (hi : q.length = i) (hk : k ≤ 8 * i) : ∃ r m : Nat, (8 * i - k) % 8 = r ∧ m ≤ i ∧ k + r = 8 * m ∧ 8 * i - k - r = 8 * (i - m) ∧ valB q / 2 ^ k / 2 ^ r = valB (q.drop m) ∧ r < 8 ∧ Int.tmod (8 - ((k % 8 : Nat) : Int)) 8 = (r : Int) := by
  refine ⟨(8 * i - k) % 8, (k + (8 * i - k) % 8) / 8, rfl, by omega, by omega, by omega, ?_, by omega, ?_⟩
  · rw [Nat.div_div_eq_div_mul, ← Nat.pow_add, show k + (8 * i - k) % 8 = 8 * ((k + (8 * i - k) % 8) / 8) by omega]
    rw [Nat.mul_div_cancel_left _ (by omega)]
    exact valB_drop q hb _ (by omega)
  · rw [Int.tmod_eq_emod_of_nonneg (by omega)]; omega
theorem info5 : (Try.prog.info? 5).map (fun i => (i.zero, i.size, i.bytes)) = some (some (.int .u8 0), 1, 1) := by kernel_rfl
theorem rdr_cast {w W : World} {g H n H' n' : Nat} (h : Aside0 (Rdr w W g H n)) (e1 : H = H') (e2 : n = n') : Aside0 (Rdr w W g H' n') := by subst e1; subst e2; exact h
set_option maxHeartbeats 8000000 in
set_option maxRecDepth 100000 in
theorem whole_walk (A : Option Addr) (c : Nat) (l : List Int) (n : Int) (w : World) (hC : Kd.C (Kd.int .u8) w A l.length l) (hc : l.length ≤ c) (hl : l.length ≤ 9223372036854775807) (hby : Byts l) (wn : (Lit.int .u8 n).wf = true) :
    Calls Try.prog 6 #[.slice A l.length c, .int .u8 n] w fun e w' => e = .returned (.bool true) ∧ Below w.heap.size w w' := by
  have hn : 0 ≤ n ∧ n ≤ 255 := by simpa [Lit.wf, IntKind.min, IntKind.max, IntKind.signed, IntKind.bits] using wn
  obtain ⟨k, hk, hk33⟩ : ∃ k : Nat, Int.tmod n 33 = (k : Int) ∧ k < 33 := ⟨(n % 33).toNat, by rw [Int.tmod_eq_emod_of_nonneg hn.1]; omega, by omega⟩
  clear wn
  have hfacts : ∃ (L : Nat) (q : List Int), L ≤ 8 ∧ L ≤ c ∧ (8 < l.length → L = 8) ∧ (l.length ≤ 8 → L = l.length) ∧ q.length = L ∧ Byts q ∧ Kd.C (Kd.int .u8) w A L q ∧
      (8 < l.length → ∀ W : World, (Instr.slice 27 (.slice A l.length c) none (some (.int .i64 8)) none).run Try.prog W = .ok (.slice A 8 c) W) := by
    by_cases h8 : 8 < l.length
    · obtain ⟨i0, hi, _, hsz, _⟩ := info_parts info5
      obtain ⟨htk, htR, htC⟩ := print_take_of (P := Try.prog) (Value.int .u8) 0 27 5 .i64 Try.underlying27 hi hsz A c l 8 (by omega) (by omega) hc
      have e1 : (l.take 8).length = 8 := by rw [List.length_take]; omega
      have e0 : (8 : Int).toNat = 8 := rfl
      rw [e0, e1] at htk htR
      have hcc := Kd.reads_of_C (enc := Value.int .u8) (d := (0 : Int)) (h1 := fun _ => rfl) hC
      exact ⟨8, l.take 8, by omega, by omega, fun _ => rfl, fun h => by omega, e1, byts_take l hby 8, Kd.C_of_reads (enc := Value.int .u8) (d := (0 : Int)) (h1 := fun _ => rfl) (htR w hcc), fun _ => htk⟩
    · exact ⟨l.length, l, by omega, hc, fun h => absurd h h8, fun _ => rfl, rfl, hby, hC, fun h => absurd h h8⟩
  obtain ⟨L, q, hL8, hLc, hLa, hLb, hql, hqb, hCq, hsl⟩ := hfacts
  have HCQ := Aside0.mk hCq
  have HQL := Aside0.mk hql
  have HQB := Aside0.mk hqb
  have HB := Aside0.mk (Below.refl w.heap.size w)
  clear hC hby hql hqb hCq
  go_enter Try.func6, Try.ntmps6
  go_upto_if 18 with (first
    | (go_at_call 11; (with_reducible refine (rdr_new _ _ HB).mono ?_); rintro e w1 ⟨g, rfl, hs, hb, _⟩; have HS := Aside0.mk hs; clear hb hs))
  go_cut [0] (fun v0 wc => v0 = .slice A L c ∧ Aside0 (Rdr w wc g 0 0))
  case first =>
    by_cases h8 : 8 < l.length
    · have hb8 : decide ((8 : Int) < (l.length : Int)) = true := decide_eq_true (by omega)
      have hct := hsl h8
      have hLe := hLa h8
      subst hLe
      clear hsl hLa hLb h8
      rw [hb8]
      go_wp2
      go_meet
      case rel => exact ⟨rfl, HS⟩
    · have hb8 : decide ((8 : Int) < (l.length : Int)) = false := decide_eq_false (by omega)
      have hLe := hLb (by omega)
      subst hLe
      clear hsl hLa hLb h8
      rw [hb8]
      go_wp2
      go_meet
      case rel => exact ⟨rfl, HS⟩
  case rest =>
    clear HS hLa hLb hsl hl hc HB
    obtain ⟨rfl, HS⟩ := hcut
    go_wp2
    go_loopg [6] (L + 10) (fun kq v6 w' => ∃ i : Nat, v6 = .int .i64 (i : Int) ∧ i ≤ L ∧ i + kq = L + 10 ∧ Aside0 (Rdr w w' g (valB (q.take i)) (8 * i)))
    case atStart => exact ⟨0, rfl, by omega, by omega, HS⟩
    case round =>
      clear HS
      obtain ⟨i, rfl, hiL, hik, HS⟩ := hrel
      cases gk with
      | zero => exact absurd hik (by omega)
      | succ k1 =>
      by_cases hlt : i < L
      · have hb : decide ((i : Int) < (L : Int)) = true := decide_eq_true (by omega)
        have hp0 : (0 : Int) ≤ (i : Int) := by omega
        have hp1 : (i : Int) < (L : Int) := by omega
        obtain ⟨ad, e1, hx⟩ := Kd.at_int HCQ.out (i : Int) (by omega) (by omega)
        cases e1
        have hrd : rd q (i : Int) = q.getD i 0 := by simp [rd]
        rw [hrd, Int.toNat_natCast] at hx
        replace hx := pw_cell_below HS.out.2.1 hx
        have HN := Aside0.mk (show 8 * i ≤ 56 ∧ 0 ≤ q.getD i 0 ∧ q.getD i 0 ≤ 255 from ⟨by omega, HQB.out i (by have := HQL.out; omega)⟩)
        have HV := Aside0.mk (valB_take q i (by have := HQL.out; omega))
        clear hrd
        generalize q.getD i 0 = x at *
        clear hlt
        go_wp2_with (first
          | (go_at_call 13; (with_reducible refine (rdr_put x HS HN).mono ?_); rintro e w2 ⟨rfl, ht, _⟩; clear hx; have HT := Aside0.mk ht; clear HS ht))
        go_roundg k1
        case measure => omega
        case rel => exact ⟨i + 1, by go_num, by omega, by omega, by rw [HV.out]; exact HT⟩
      · have hb : decide ((i : Int) < (L : Int)) = false := decide_eq_false (by omega)
        obtain rfl : i = L := by omega
        have HS1 : Aside0 (Rdr w wr g (valB q) (8 * i)) := rdr_cast HS (by rw [List.take_of_length_le (by have := HQL.out; omega)]) rfl
        clear HS
        have hi8 : (i : Int) ≤ 8 := by omega
        have hi0 : (0 : Int) ≤ (i : Int) := by omega
        have hk0 : (0 : Int) ≤ (k : Int) := by omega
        by_cases hkk : k ≤ 8 * i
        · have hkb : decide ((k : Int) ≤ 8 * (i : Int)) = true := decide_eq_true (by omega)
          have HTK := Aside0.mk (show k ≤ 8 * i ∧ k ≤ 32 from ⟨hkk, by omega⟩)
          obtain ⟨r, m, hr, hmi, hkr, hnn, hval, hr8, hf2⟩ := whole_math q HQB.out i k HQL.out (by omega)
          have hf1 : Int.tmod (k : Int) 8 = ((k % 8 : Nat) : Int) := by rw [Int.tmod_eq_emod_of_nonneg (by omega)]; omega
          have HAL := Aside0.mk (show Al (r : Int) r (valB q / 2 ^ k) (8 * i - k) (valB (q.drop m)) (8 * (i - m)) from ⟨rfl, hr, hval, hnn⟩)
          have hf3 : Int.tmod ((8 * (i - m) : Nat) : Int) 8 = 0 := by rw [Int.tmod_eq_emod_of_nonneg (by omega)]; omega
          have hf4 : Int.tdiv ((8 * (i - m) : Nat) : Int) 8 = ((i - m : Nat) : Int) := by rw [Int.tdiv_eq_ediv_of_nonneg (by omega)]; omega
          have hf6 : -((k : Int) % 8) % 8 = (r : Int) := by omega
          have hf3' : Int.tmod (8 * ((i - m : Nat) : Int)) 8 = 0 := by rw [Int.tmod_eq_emod_of_nonneg (by omega)]; omega
          have hf4' : Int.tdiv (8 * ((i - m : Nat) : Int)) 8 = ((i - m : Nat) : Int) := by rw [Int.tdiv_eq_ediv_of_nonneg (by omega)]; omega
          have hf5 : (i : Int) - ((i - m : Nat) : Int) = (m : Int) := by omega
          clear hr hkr hnn hval
          have hm0 : (0 : Int) ≤ (m : Int) := by omega
          go_wp2_with (first
            | (go_at_call 14; (with_reducible refine (rdr_take k HS1 HTK).mono ?_); rintro e w2 ⟨rfl, ht, _⟩; have HT := Aside0.mk ht; clear HS1 ht)
            | (go_at_call 16; ((with_reducible refine (rdr_align' _ _ _ _ HT HAL).mono ?_); rintro e w3 ⟨rfl, ht, _⟩; have HT' := Aside0.mk ht; clear HT ht HAL; have HT := HT'; clear HT'))
            | (go_at_call 12; (with_reducible refine (rdr_held HT).mono ?_); rintro e w4 ⟨rfl, ht, _⟩; have HT' := Aside0.mk ht; clear HT ht; have HT := HT'; clear HT'))
          go_loopg [10] 10 (fun kq v10 w' => ∃ j : Nat, v10 = .int .i64 (j : Int) ∧ m ≤ j ∧ j ≤ i ∧ j + kq = m + 10 ∧ Aside0 (Rdr w w' g (valB (q.drop j)) (8 * (i - j))))
          case atStart => exact ⟨m, rfl, by omega, by omega, by omega, HT⟩
          case round =>
            clear HT
            obtain ⟨j, rfl, hmj, hji, hjk, HT⟩ := hrel
            cases gk with
            | zero => exact absurd hjk (by omega)
            | succ k3 =>
            by_cases hlt : j < i
            · have hjb : decide ((j : Int) < (i : Int)) = true := decide_eq_true (by omega)
              have hp0 : (0 : Int) ≤ (j : Int) := by omega
              have hp1 : (j : Int) < (i : Int) := by omega
              obtain ⟨ad, e1, hx⟩ := Kd.at_int HCQ.out (j : Int) (by omega) (by omega)
              cases e1
              have hrd : rd q (j : Int) = q.getD j 0 := by simp [rd]
              rw [hrd, Int.toNat_natCast] at hx
              have HX := Aside0.mk hx
              replace hx := pw_cell_below HT.out.2.1 hx
              obtain ⟨hv1, hv2⟩ := valB_head q HQB.out j (by have := HQL.out; omega)
              have HTK2 := Aside0.mk (show Tk (8 : Int) 8 (valB (q.drop j)) (8 * (i - j)) (valB (q.drop j) % 256) (valB (q.drop (j + 1))) (8 * (i - (j + 1))) from ⟨rfl, by omega, by omega, rfl, by rw [← hv2], by omega⟩)
              clear hrd hv2
              have hX : (((valB (q.drop j) % 256 : Nat)) : Int) < 256 := by omega
              generalize valB (q.drop j) % 256 = X at *
              rw [← hv1] at hx HX
              clear hv1 hlt
              have hw8 : IntKind.u8.wrap (X : Int) = (X : Int) := by simp [IntKind.wrap, IntKind.bits, IntKind.signed]; omega
              go_wp2_with (first
                | (go_at_call 14; (with_reducible refine (rdr_take' 8 8 X _ _ HT HTK2).mono ?_); rintro e w4 ⟨rfl, ht, _⟩; have HT' := Aside0.mk ht; replace hx := pw_cell_below ht.2.1 HX.out; clear HT ht HTK2; have HT := HT'; clear HT'))
              go_roundg k3
              case measure => omega
              case rel => exact ⟨j + 1, by go_num, by omega, by omega, by omega, HT⟩
            · have hjb : decide ((j : Int) < (i : Int)) = false := decide_eq_false (by omega)
              obtain rfl : j = i := by omega
              have HE : Aside0 (Rdr w wr g (valB (q.drop j)) 0) := rdr_cast HT rfl (by omega)
              clear HT
              go_wp2_with (first
                | (go_at_call 12; (with_reducible refine (rdr_held HE).mono ?_); rintro e w4 ⟨rfl, ht, _⟩; have HT := Aside0.mk ht; clear HE ht))
              go_ret
              exact ⟨rfl, HT.out.2.1⟩
        · have hkb : decide ((k : Int) ≤ 8 * (i : Int)) = false := decide_eq_false (by omega)
          obtain ⟨m, rfl⟩ : ∃ m : Nat, m = 0 := ⟨0, rfl⟩
          have HTK := Aside0.mk (show (k : Int) < 0 ∨ (k : Int) > 32 ∨ (k : Int) > ((8 * i : Nat) : Int) from .inr (.inr (by omega)))
          have HAL := Aside0.mk (show Al (0 : Int) 0 (valB q) (8 * i) (valB (q.drop 0)) (8 * (i - 0)) from ⟨rfl, by omega, by simp, by omega⟩)
          have hf3 : Int.tmod ((8 * (i - 0) : Nat) : Int) 8 = 0 := by rw [Int.tmod_eq_emod_of_nonneg (by omega)]; omega
          have hf4 : Int.tdiv ((8 * (i - 0) : Nat) : Int) 8 = (i : Int) := by rw [Int.tdiv_eq_ediv_of_nonneg (by omega)]; omega
          have hf3' : Int.tmod (8 * (i : Int)) 8 = 0 := by rw [Int.tmod_eq_emod_of_nonneg (by omega)]; omega
          have hf4' : Int.tdiv (8 * (i : Int)) 8 = (i : Int) := by rw [Int.tdiv_eq_ediv_of_nonneg (by omega)]; omega
          have hf5 : (i : Int) - (i : Int) = 0 := by omega
          have hmi : 0 ≤ i := by omega
          go_wp2_with (first
            | (go_at_call 14; (with_reducible refine (rdr_take_no (k : Int) HS1 HTK).mono ?_); rintro e w2 ⟨rfl, ht, _⟩; have HT := Aside0.mk ht; clear HS1 ht)
            | (go_at_call 16; ((with_reducible refine (rdr_align' _ _ _ _ HT HAL).mono ?_); rintro e w3 ⟨rfl, ht, _⟩; have HT' := Aside0.mk ht; clear HT ht HAL; have HT := HT'; clear HT'))
            | (go_at_call 12; (with_reducible refine (rdr_held HT).mono ?_); rintro e w4 ⟨rfl, ht, _⟩; have HT' := Aside0.mk ht; clear HT ht; have HT := HT'; clear HT'))
          go_loopg [10] 10 (fun kq v10 w' => ∃ j : Nat, v10 = .int .i64 (j : Int) ∧ 0 ≤ j ∧ j ≤ i ∧ j + kq = 0 + 10 ∧ Aside0 (Rdr w w' g (valB (q.drop j)) (8 * (i - j))))
          case atStart => exact ⟨0, rfl, by omega, by omega, by omega, HT⟩
          case round =>
            clear HT
            obtain ⟨j, rfl, hmj, hji, hjk, HT⟩ := hrel
            cases gk with
            | zero => exact absurd hjk (by omega)
            | succ k3 =>
            by_cases hlt : j < i
            · have hjb : decide ((j : Int) < (i : Int)) = true := decide_eq_true (by omega)
              have hp0 : (0 : Int) ≤ (j : Int) := by omega
              have hp1 : (j : Int) < (i : Int) := by omega
              obtain ⟨ad, e1, hx⟩ := Kd.at_int HCQ.out (j : Int) (by omega) (by omega)
              cases e1
              have hrd : rd q (j : Int) = q.getD j 0 := by simp [rd]
              rw [hrd, Int.toNat_natCast] at hx
              have HX := Aside0.mk hx
              replace hx := pw_cell_below HT.out.2.1 hx
              obtain ⟨hv1, hv2⟩ := valB_head q HQB.out j (by have := HQL.out; omega)
              have HTK2 := Aside0.mk (show Tk (8 : Int) 8 (valB (q.drop j)) (8 * (i - j)) (valB (q.drop j) % 256) (valB (q.drop (j + 1))) (8 * (i - (j + 1))) from ⟨rfl, by omega, by omega, rfl, by rw [← hv2], by omega⟩)
              clear hrd hv2
              have hX : (((valB (q.drop j) % 256 : Nat)) : Int) < 256 := by omega
              generalize valB (q.drop j) % 256 = X at *
              rw [← hv1] at hx HX
              clear hv1 hlt
              have hw8 : IntKind.u8.wrap (X : Int) = (X : Int) := by simp [IntKind.wrap, IntKind.bits, IntKind.signed]; omega
              go_wp2_with (first
                | (go_at_call 14; (with_reducible refine (rdr_take' 8 8 X _ _ HT HTK2).mono ?_); rintro e w4 ⟨rfl, ht, _⟩; have HT' := Aside0.mk ht; replace hx := pw_cell_below ht.2.1 HX.out; clear HT ht HTK2; have HT := HT'; clear HT'))
              go_roundg k3
              case measure => omega
              case rel => exact ⟨j + 1, by go_num, by omega, by omega, by omega, HT⟩
            · have hjb : decide ((j : Int) < (i : Int)) = false := decide_eq_false (by omega)
              obtain rfl : j = i := by omega
              have HE : Aside0 (Rdr w wr g (valB (q.drop j)) 0) := rdr_cast HT rfl (by omega)
              clear HT
              go_wp2_with (first
                | (go_at_call 12; (with_reducible refine (rdr_held HE).mono ?_); rintro e w4 ⟨rfl, ht, _⟩; have HT := Aside0.mk ht; clear HE ht))
              go_ret
              exact ⟨rfl, HT.out.2.1⟩
theorem byts_of (l : List Int) (h : ∀ x ∈ l, (Lit.int .u8 x).wf = true) : Byts l := fun i hi => by
  have : l.getD i 0 = l[i] := by simp [List.getD, hi]
  rw [this]
  simpa [Lit.wf, IntKind.min, IntKind.max, IntKind.signed, IntKind.bits] using h _ (List.getElem_mem hi)
theorem whole_row (a0 : Option Addr) (len0 cap0 : Nat) (z0 : List Int) (n : Int) (w : World) (w0 : (a0 = none ∧ len0 = 0 ∧ cap0 = 0 ∧ z0 = []) ∨ ∃ x, a0 = some x ∧ len0 ≤ cap0 ∧ cap0 ≤ maxLen ∧ z0.length = cap0 ∧ (∀ i, i < z0.length → w.cell? (x.add i) = some (.int .u8 (z0.getD i 0))) ∧ ∀ n ∈ z0, (Lit.int .u8 n).wf = true) (y0 : len0 * 1 ≤ 140737488351232) (wn : (Lit.int .u8 n).wf = true) :
    Calls Try.prog 6 #[.slice a0 len0 cap0, .int .u8 n] w fun e w' => e = .returned (.bool true) ∧ Below w.heap.size w w' := by
  obtain ⟨l0, rfl, hr0, hm0, hw0, hc0⟩ := ReadsInt.ofRowC w0
  exact whole_walk a0 cap0 l0 n w (Kd.C_of_reads (d := (0 : Int)) (h1 := fun _ => rfl) hr0) hc0 (by omega) (byts_of l0 hw0) wn
end Go.Proofs.Ytanbckcknfoifaa.PAll
