/- The walk of sixbits.Write, by hand: a closure that captures three variables, three loops. -/
import Derived.Test.YtgapacibhagicaaPut
import Derived.Deep.LoopGhost
namespace Go.Proofs.Ytgapacibhagicaa.PAll
open Go.RowKit Go.Proofs.YtgapacibhagicaaW.PrintWords Go.Proofs.YtgapacibhagicaaW.PrintLast Go.Proofs.YtgapacibhagicaaW.PrintMore
attribute [local go_sem] max2_int min2_int max_two min_two max_three min_three max_four min_four   -- for this text's walks alone
set_option linter.unusedVariables false
set_option linter.unusedSimpArgs false
def LET : ByteArray := ⟨#[65, 66, 67, 68, 69, 70, 71, 72, 73, 74, 75, 76, 77, 78, 79, 80, 81, 82, 83, 84, 85, 86, 87, 88, 89, 90, 97, 98, 99, 100, 101, 102, 103, 104, 105, 106, 107, 108, 109, 110, 111, 112, 113, 114, 115, 116, 117, 118, 119, 120, 121, 122, 48, 49, 50, 51, 52, 53, 54, 55, 56, 57, 43, 47]⟩
/-- the bits of a group, one byte more. -/
def vst (p : List Int) (v : Int) (i : Nat) : Int := if i < p.length then Go.bits .or .u32 (IntKind.u32.wrap (v * 256)) (IntKind.u32.wrap (rd p i)) else IntKind.u32.wrap (v * 256)
def vN (p : List Int) : Nat → Int
  | 0 => 0
  | i + 1 => vst p (vN p i) i
def wch (p : List Int) (i : Nat) : Int := if p.length < i then 61 else bt LET (Go.bits .and .u32 (vN p 3 / 2 ^ (18 - 6 * i)) 63)
def gN (line : Int) (p : List Int) (out : List Int) (n : Int) : Nat → List Int × Int
  | 0 => (out, n)
  | i + 1 => (putO line (gN line p out n i).1 (gN line p out n i).2 (wch p i), putN line (gN line p out n i).2)
def wrW (line : Int) : List Int → List Int → Int → List Int
  | [], out, _ => out
  | [a], out, n => (gN line [a] out n 4).1
  | [a, b], out, n => (gN line [a, b] out n 4).1
  | a :: b :: c :: rest, out, n => wrW line rest (gN line [a, b, c] out n 4).1 (gN line [a, b, c] out n 4).2
def sixbits_Write.f (l0 : List Int) (a1 : Int) : Option (List Int) := if (wrW a1 l0 [] 0).length + 2 ≤ 140737488355328 then some (wrW a1 l0 [] 0) else none
theorem wrW_step (line : Int) (rest out : List Int) (n : Int) (h : 0 < rest.length) : wrW line rest out n = wrW line (rest.drop (min 3 rest.length)) (gN line (rest.take (min 3 rest.length)) out n 4).1 (gN line (rest.take (min 3 rest.length)) out n 4).2 := by
  match rest, h with
  | [a], _ => rfl
  | [a, b], _ => rfl
  | a :: b :: c :: rest, _ =>
    have : min 3 (a :: b :: c :: rest).length = 3 := by simp
    rw [this]; rfl
theorem put_len (line : Int) (out : List Int) (n c : Int) : out.length + 1 ≤ (putO line out n c).length ∧ (putO line out n c).length ≤ out.length + 3 := by
  unfold putO; split <;> simp
theorem gN_len (line : Int) (p out : List Int) (n : Int) (i : Nat) : out.length + i ≤ (gN line p out n i).1.length := by
  induction i with
  | zero => simp [gN]
  | succ i ih => have := put_len line (gN line p out n i).1 (gN line p out n i).2 (wch p i); simp only [gN]; omega
theorem gN_mono (line : Int) (p out : List Int) (n : Int) (i : Nat) : (gN line p out n i).1.length + 1 ≤ (gN line p out n (i + 1)).1.length := (put_len _ _ _ _).1
theorem wrW_len (line : Int) (m : Nat) : ∀ (rest out : List Int) (n : Int), rest.length ≤ m → out.length ≤ (wrW line rest out n).length := by
  induction m with
  | zero =>
    intro rest out n h
    obtain rfl : rest = [] := List.eq_nil_of_length_eq_zero (by omega)
    exact Nat.le_refl _
  | succ m ih =>
    intro rest out n h
    rcases Nat.eq_zero_or_pos rest.length with h0 | h0
    · obtain rfl : rest = [] := List.eq_nil_of_length_eq_zero h0
      exact Nat.le_refl _
    · rw [wrW_step line rest out n h0]
      have := gN_len line (rest.take (min 3 rest.length)) out n 4
      have := ih (rest.drop (min 3 rest.length)) (gN line (rest.take (min 3 rest.length)) out n 4).1 (gN line (rest.take (min 3 rest.length)) out n 4).2 (by rw [List.length_drop]; omega)
      omega
theorem heap3 (w : World) (a b c : Obj) : (((w.alloc a).alloc b).alloc c).heap[w.heap.size]? = some a ∧ (((w.alloc a).alloc b).alloc c).heap[w.heap.size + 1]? = some b ∧ (((w.alloc a).alloc b).alloc c).heap[w.heap.size + 2]? = some c := by
  refine ⟨?_, ?_, ?_⟩
  · show (((w.heap.push a).push b).push c)[w.heap.size]? = _
    rw [Array.getElem?_push, if_neg (by simp; omega), Array.getElem?_push, if_neg (by simp), Array.getElem?_push, if_pos rfl]
  · show (((w.heap.push a).push b).push c)[w.heap.size + 1]? = _
    rw [Array.getElem?_push, if_neg (by simp), Array.getElem?_push, if_pos (by simp)]
  · show (((w.heap.push a).push b).push c)[w.heap.size + 2]? = _
    rw [Array.getElem?_push, if_pos (by simp)]
theorem WS.start (w : World) (line : Int) : WS w (((w.alloc (.cells #[.int .i64 line] 3)).alloc (.cells #[.slice none 0 0] 22)).alloc (.cells #[.int .i64 0] 3)) line (.slice none 0 0) [] 0 := by
  obtain ⟨h1, h2, h3⟩ := heap3 w (.cells #[.int .i64 line] 3) (.cells #[.slice none 0 0] 22) (.cells #[.int .i64 0] 3)
  exact ⟨h1, h2, h3, own_nil _ _ _ _, (((Below.refl _ _).alloc (Nat.le_refl _) _).alloc (by simp) _).alloc (by simp; omega) _⟩
/-- the state of the writer at a round's head. -/
def WR (w W : World) (line : Int) (rest : List Int) (R : List Int) : Prop := ∃ (sv : Value) (out : List Int) (n : Int), WS w W line sv out n ∧ wrW line rest out n = R
/-- the state within a group. -/
def WG (w W : World) (line : Int) (p q : List Int) (i : Nat) (R : List Int) : Prop := ∃ (sv : Value) (out : List Int) (n : Int) (out0 : List Int) (n0 : Int), WS w W line sv out n ∧ (out, n) = gN line p out0 n0 i ∧ wrW line q (gN line p out0 n0 4).1 (gN line p out0 n0 4).2 = R
theorem and63_range (x : Int) : 0 ≤ Go.bits .and .u32 x 63 ∧ Go.bits .and .u32 x 63 < 64 := by
  show 0 ≤ IntKind.u32.wrap (((BitVec.ofInt 32 x &&& BitVec.ofInt 32 63).toNat : Nat) : Int) ∧ IntKind.u32.wrap (((BitVec.ofInt 32 x &&& BitVec.ofInt 32 63).toNat : Nat) : Int) < 64
  have h : (BitVec.ofInt 32 x &&& BitVec.ofInt 32 63).toNat < 64 := by
    rw [BitVec.toNat_and]
    exact Nat.lt_of_le_of_lt Nat.and_le_right (by decide)
  rw [IntKind.wrap_u32]; omega
theorem gN_le (line : Int) (p out : List Int) (n : Int) (i j : Nat) (h : i ≤ j) : (gN line p out n i).1.length ≤ (gN line p out n j).1.length := by
  induction j with
  | zero => obtain rfl : i = 0 := by omega
            exact Nat.le_refl _
  | succ j ih =>
    by_cases hij : i = j + 1
    · subst hij; exact Nat.le_refl _
    · have h1 := ih (by omega)
      have h2 := gN_mono line p out n j
      omega
theorem put_calls2 (w W : World) (line : Int) (sv : Value) (out : List Int) (n c : Int) (h : WS w W line sv out n) (hl : out.length + 3 ≤ 140737488355328) :
    Calls Try.prog 22 #[.int .u8 c, .pointer (some ⟨w.heap.size, 0, none⟩), .pointer (some ⟨w.heap.size + 1 + 1, 0, none⟩), .pointer (some ⟨w.heap.size + 1, 0, none⟩)] W fun e W' => e = .returned (.tuple #[]) ∧ ∃ sv', WS w W' line sv' (putO line out n c) (putN line n) := put_calls w W line sv out n c h hl
set_option maxHeartbeats 8000000 in
set_option maxRecDepth 100000 in
theorem sixbits_Write.calls (A0 : Option Addr) (c0 : Nat) (l0 : List Int) (a1 : Int) (r : List Int) (w : World) (hr0 : Kd.C (Kd.int .u8) w A0 l0.length l0) (hc0 : l0.length ≤ c0) (h : sixbits_Write.f l0 a1 = some r) :
    Calls Try.prog 14 #[.slice A0 l0.length c0, .int .i64 a1] w fun e w' => ∃ v0_ : Value, e = .returned (v0_) ∧ Kd.R (Kd.int .u8) 5 w' w.heap.size (fun _ => True) v0_ r ∧ Below w.heap.size w w' := by
  have HR0 := Aside0.mk hr0
  have HC0 := Aside0.mk hc0
  have hn : l0.length ≤ 9223372036854775807 := by obtain ⟨_, h, _⟩ := hr0; exact h
  clear hr0 hc0
  unfold sixbits_Write.f at h
  by_cases hb : (wrW a1 l0 [] 0).length + 2 ≤ 140737488355328
  · rw [if_pos hb] at h
    have HR := Aside0.mk (Option.some.inj h)
    have HBb := Aside0.mk (show r.length + 2 ≤ 140737488355328 by rw [← Option.some.inj h]; exact hb)
    clear h hb
    have HS := Aside0.mk (show WR w (((w.alloc (.cells #[.int .i64 a1] 3)).alloc (.cells #[.slice none 0 0] 22)).alloc (.cells #[.int .i64 0] 3)) a1 l0 r from ⟨_, _, _, WS.start w a1, HR.out⟩)
    go_enter Try.func14, Try.ntmps14
    go_wp2
    go_loopg [0] (l0.length + 1) (fun kq v0 W => ∃ (A : Option Addr) (c : Nat) (rest : List Int), v0 = .slice A rest.length c ∧ Aside0 (rest.length ≤ c) ∧ Aside0 (rest.length ≤ l0.length) ∧ Aside0 (Kd.C (Kd.int .u8) w A rest.length rest) ∧ Aside0 (WR w W a1 rest r) ∧ Aside0 (kq = rest.length + 1))
    case atStart => exact ⟨A0, c0, l0, rfl, HC0, ⟨Nat.le_refl _⟩, HR0, HS, ⟨rfl⟩⟩
    case round =>
      clear HS HR HC0 HR0
      obtain ⟨A, c, rest, rfl, HC, HL, HR, HW, HK⟩ := hrel
      have hrl : rest.length ≤ 9223372036854775807 := by have := HL.out; omega
      by_cases hp : 0 < rest.length
      · have hpb : decide ((0 : Int) < (rest.length : Int)) = true := decide_eq_true (by omega)
        obtain ⟨i05, hi05, _, hsz5, _⟩ := info_parts info5
        have hfacts : ∃ (m k : Nat) (p q : List Int) (A2 : Option Addr), 1 ≤ m ∧ m ≤ 3 ∧ m ≤ rest.length ∧ (if (rest.length : Int) < 3 then (rest.length : Int) else 3) = (m : Int) ∧ p.length = m ∧ q.length = k ∧ k + m = rest.length ∧ k ≤ c - m ∧ m ≤ c ∧
            (∀ W : World, (Instr.slice 22 (.slice A rest.length c) none (some (.int .i64 (m : Int))) none).run Try.prog W = .ok (.slice A m c) W) ∧
            (∀ W : World, (Instr.slice 22 (.slice A rest.length c) (some (.int .i64 (m : Int))) none none).run Try.prog W = .ok (.slice A2 k (c - m)) W) ∧
            Kd.C (Kd.int .u8) w A m p ∧ Kd.C (Kd.int .u8) w A2 k q ∧ (∀ out n, wrW a1 rest out n = wrW a1 q (gN a1 p out n 4).1 (gN a1 p out n 4).2) := by
          have hmm : min 3 rest.length ≤ rest.length := Nat.min_le_right _ _
          have hcc := HC.out
          obtain ⟨htk, htR, htC⟩ := print_take_of (P := Try.prog) (Value.int .u8) 0 22 5 .i64 Try.underlying22 hi05 hsz5 A c rest ((min 3 rest.length : Nat) : Int) (by omega) (by omega) HC.out
          obtain ⟨A2, hdk, hdR, hdC⟩ := print_drop_of (P := Try.prog) (Value.int .u8) 0 22 5 .i64 Try.underlying22 hi05 hsz5 A c rest ((min 3 rest.length : Nat) : Int) (by omega) (by omega) HC.out
          have e1 : (rest.take (min 3 rest.length)).length = min 3 rest.length := by rw [List.length_take]; omega
          have e2 : (rest.drop (min 3 rest.length)).length = rest.length - min 3 rest.length := List.length_drop
          rw [Int.toNat_natCast] at htk htR htC hdk hdR hdC
          rw [e1] at htk htR
          rw [e2] at hdk hdR hdC
          have hc := Kd.reads_of_C (enc := Value.int .u8) (d := (0 : Int)) (h1 := fun _ => rfl) HR.out
          exact ⟨min 3 rest.length, rest.length - min 3 rest.length, rest.take (min 3 rest.length), rest.drop (min 3 rest.length), A2, by omega, by omega, by omega, by split <;> omega, e1, e2, by omega, hdC, by omega, htk, hdk,
            Kd.C_of_reads (enc := Value.int .u8) (d := (0 : Int)) (h1 := fun _ => rfl) (htR w hc), Kd.C_of_reads (enc := Value.int .u8) (d := (0 : Int)) (h1 := fun _ => rfl) (hdR w hc), fun out n => wrW_step a1 rest out n hp⟩
        clear hi05 hsz5
        obtain ⟨m, k, p, q, A2, hm1, hm3, hmr, hmin, hpl, hql, hkm, hkc, hmc, htk, hdk, hCp, hCq, hst⟩ := hfacts
        have HPL := Aside0.mk hpl
        have HQL := Aside0.mk hql
        have HCP := Aside0.mk hCp
        have HCQ := Aside0.mk hCq
        have HST := Aside0.mk hst
        have HKM := Aside0.mk hkm
        clear hpl hql hCp hCq hst hkm
        go_wp2
        clear htk hdk hmin
        go_loopg [9, 25] 4 (fun kq v9 v25 w' => ∃ i : Nat, i + kq = 4 ∧ i ≤ 3 ∧ v25 = .int .i64 (i : Int) ∧ v9 = .int .u32 (vN p i) ∧ w' = wr)
        case atStart => exact ⟨0, by omega, by omega, rfl, rfl, rfl⟩
        case round =>
          obtain ⟨i, hi4, hi3, rfl, rfl, rfl⟩ := hrel
          cases gk with
          | zero => exact absurd hi4 (by omega)
          | succ k1 =>
          have hpl' := HPL.out
          by_cases hlt : i < 3
          · have hltb : decide ((i : Int) < 3) = true := decide_eq_true (by omega)
            by_cases him : i < m
            · have himb : decide ((i : Int) < (m : Int)) = true := decide_eq_true (by omega)
              obtain ⟨ad, e1, hx⟩ := Kd.at_int HCP.out (i : Int) (by omega) (by omega)
              cases e1
              have HV := Aside0.mk (show vN p (i + 1) = Go.bits .or .u32 (IntKind.u32.wrap (vN p i * 256)) (IntKind.u32.wrap (rd p i)) by simp only [vN, vst]; rw [if_pos (by omega)])
              have hx2 : wr.cell? (ad.add i) = some (.int .u8 (rd p i)) := by obtain ⟨sv, out, n, hws, _⟩ := HW.out; have := pw_cell_below hws.b hx; simpa using this
              clear hx hpl'
              go_wp2
              go_roundg k1
              case measure => omega
              case rel => exact ⟨i + 1, by omega, by omega, by go_num, by (try simp only [IntKind.wrap_u32]); rw [HV.out]; (try simp only [IntKind.wrap_u32]), rfl⟩
            · have himb : decide ((i : Int) < (m : Int)) = false := decide_eq_false (by omega)
              have HV := Aside0.mk (show vN p (i + 1) = IntKind.u32.wrap (vN p i * 256) by simp only [vN, vst]; rw [if_neg (by omega)])
              clear hpl'
              go_wp2
              go_roundg k1
              case measure => omega
              case rel => exact ⟨i + 1, by omega, by omega, by go_num, by (try simp only [IntKind.wrap_u32]); rw [HV.out]; (try simp only [IntKind.wrap_u32]), rfl⟩
          · have hltb : decide ((i : Int) < 3) = false := decide_eq_false (by omega)
            obtain rfl : i = 3 := by omega
            clear hpl' hlt
            go_wp2
            go_loopg [42] 5 (fun kq v42 w' => ∃ (i : Nat), i + kq = 5 ∧ i ≤ 4 ∧ v42 = .int .i64 (i : Int) ∧ Aside0 (WG w w' a1 p q i r))
            case atStart =>
              refine ⟨0, by omega, by omega, rfl, ⟨?_⟩⟩
              obtain ⟨sv, out, n, hws, hwr⟩ := HW.out
              exact ⟨sv, out, n, out, n, hws, rfl, by rw [← HST.out]; exact hwr⟩
            case round =>
              obtain ⟨i, hi5, hi4, rfl, HG⟩ := hrel
              clear HW
              cases gk with
              | zero => exact absurd hi5 (by omega)
              | succ k2 =>
              by_cases hlt : i < 4
              · obtain ⟨sv, out, n, out0, n0, hws, hg, hwr⟩ := HG.out
                have hlen : out.length + 3 ≤ 140737488355328 := by
                  have h1 : out.length = (gN a1 p out0 n0 i).1.length := by rw [← hg]
                  have h2 := gN_mono a1 p out0 n0 i
                  have h3 := gN_le a1 p out0 n0 (i + 1) 4 (by omega)
                  have h4 := wrW_len a1 q.length q (gN a1 p out0 n0 4).1 (gN a1 p out0 n0 4).2 (Nat.le_refl _)
                  have h5 := HBb.out
                  rw [hwr] at h4
                  omega
                have HNX := Aside0.mk (show ∀ W1 sv1, WS w W1 a1 sv1 (putO a1 out n (wch p i)) (putN a1 n) → WG w W1 a1 p q (i + 1) r from fun W1 sv1 h1 => ⟨sv1, _, _, out0, n0, h1, by simp only [gN]; rw [← hg], hwr⟩)
                have HWS := Aside0.mk hws
                have HLN := Aside0.mk hlen
                clear HG hws hg hwr hlen
                have hjb : decide ((i : Int) < 4) = true := decide_eq_true (by omega)
                by_cases hmi : m < i
                · have hmib : decide ((m : Int) < (i : Int)) = true := decide_eq_true (by omega)
                  have hmin : decide (m < i) = true := decide_eq_true hmi
                  have HCH := Aside0.mk (show wch p i = 61 by unfold wch; rw [if_pos (by have := HPL.out; omega)])
                  clear hmi
                  go_wp2_with fail
                  have HCC := Aside0.mk (put_calls2 w wr a1 sv out n 61 HWS.out HLN.out)
                  refine (HCC.out).mono ?_
                  rintro e w' ⟨rfl, hput⟩
                  have HPUT := Aside0.mk hput
                  clear hput HCC
                  dsimp only
                  go_wp2
                  go_roundg k2
                  case measure => omega
                  case rel => exact ⟨i + 1, by omega, by omega, by go_num, ⟨by obtain ⟨sv1, h1⟩ := HPUT.out; exact HNX.out _ sv1 (by rw [HCH.out]; exact h1)⟩⟩
                · have hmib : decide ((m : Int) < (i : Int)) = false := decide_eq_false (by omega)
                  have hmin : decide (m < i) = false := decide_eq_false hmi
                  have hwc : wch p i = bt LET (Go.bits .and .u32 (vN p 3 / 2 ^ (18 - 6 * i)) 63) := by unfold wch; rw [if_neg (by have := HPL.out; omega)]
                  obtain ⟨X, hX⟩ : ∃ X, Go.bits .and .u32 (vN p 3 / 2 ^ (18 - 6 * i)) 63 = X := ⟨_, rfl⟩
                  have hXr : 0 ≤ X ∧ X < 64 := by rw [← hX]; exact and63_range _
                  have hX0 : decide (0 ≤ X) = true := decide_eq_true hXr.1
                  have hX1 : decide (X < 64) = true := decide_eq_true hXr.2
                  have HCH := Aside0.mk (show wch p i = bt LET X by rw [hwc, ← hX])
                  have hx := bt_at LET X
                  have hxp := eq_true hXr.1
                  have hxq := eq_true hXr.2
                  clear hmi hwc
                  unfold LET at hx
                  go_wp2_with fail
                  have HCC := Aside0.mk (put_calls2 w wr a1 sv out n (bt LET X) HWS.out HLN.out)
                  refine (HCC.out).mono ?_
                  rintro e w' ⟨rfl, hput⟩
                  have HPUT := Aside0.mk hput
                  clear hput HCC
                  dsimp only
                  go_wp2
                  go_roundg k2
                  case measure => omega
                  case rel => exact ⟨i + 1, by omega, by omega, by go_num, ⟨by obtain ⟨sv1, h1⟩ := HPUT.out; exact HNX.out _ sv1 (by rw [HCH.out]; exact h1)⟩⟩
              · have hltb : decide ((i : Int) < 4) = false := decide_eq_false (by omega)
                obtain rfl : i = 4 := by omega
                have HE := Aside0.mk (show WR w wr a1 q r by obtain ⟨sv, out, n, out0, n0, hws, hg, hwr⟩ := HG.out; exact ⟨sv, out, n, hws, by rw [← hg] at hwr; exact hwr⟩)
                clear HG hlt
                go_wp2
                go_roundg (k + 1)
                case measure => have := HK.out; have := HKM.out; omega
                case rel => exact ⟨A2, c - m, q, (by rw [HQL.out]), ⟨by rw [HQL.out]; have := HC.out; have := HKM.out; omega⟩, ⟨by rw [HQL.out]; have := HL.out; have := HKM.out; omega⟩, (by rw [HQL.out]; exact HCQ), HE, ⟨by rw [HQL.out]⟩⟩
      · have hpb : decide ((0 : Int) < (rest.length : Int)) = false := decide_eq_false (by omega)
        obtain rfl : rest = [] := List.eq_nil_of_length_eq_zero (by omega)
        obtain ⟨sv, out, n, hws, hwr⟩ := HW.out
        have hwr' : out = r := hwr
        subst hwr'
        clear HW hwr
        obtain ⟨A1, c1, rfl⟩ := own_slice hws.r
        have hco := cell_of_one hws.o
        have HWS := Aside0.mk hws
        clear hws
        go_wp2
        go_ret
        exact ⟨_, rfl, Kd.R_lower (base' := w.heap.size) (Kd.R_of_own (enc := Value.int .u8) (h1 := fun _ => rfl) HWS.out.r (fun _ _ => trivial)) (by omega), HWS.out.b⟩
  · rw [if_neg hb] at h; cases h
end Go.Proofs.Ytgapacibhagicaa.PAll
