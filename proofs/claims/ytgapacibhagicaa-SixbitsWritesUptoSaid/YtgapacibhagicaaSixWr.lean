/- Plain: what is written is the letters with line breaks between. -/
import Derived.Test.YtgapacibhagicaaSixLets
namespace Go.Proofs.Ytgapacibhagicaa.Six
open Go.RowKit Go.Proofs.Ytgapacibhagicaa.PAll Go.Proofs.YtgapacibhagicaaW.PrintWords Go.Proofs.YtgapacibhagicaaW.PrintLast
set_option linter.unusedVariables false
set_option linter.unusedSimpArgs false
/-- letters with line breaks: n are on the line. -/
def brk (line : Int) : Int → List Int → List Int
  | _, [] => []
  | n, c :: r => if 0 < line ∧ n = line then 13 :: 10 :: c :: brk line 1 r else c :: brk line (n + 1) r
def nxt (line n : Int) : Int := if 0 < line ∧ n = line then 1 else n + 1
theorem brk_cons (line n c : Int) (r : List Int) : brk line n (c :: r) = (if 0 < line ∧ n = line then [13, 10, c] else [c]) ++ brk line (nxt line n) r := by
  simp only [brk, nxt]; split <;> simp
theorem putO_brk (line n c : Int) (out : List Int) : putO line out n c = out ++ (if 0 < line ∧ n = line then [13, 10, c] else [c]) := by
  unfold putO; split <;> simp
theorem putN_nxt (line n : Int) (h0 : 0 ≤ n) (h1 : n < 9223372036854775806) : putN line n = nxt line n := by
  unfold putN nxt; rw [w64 _ (by omega) (by omega)]
theorem nxt_range (line n : Int) (h0 : 0 ≤ n) : 0 ≤ nxt line n ∧ nxt line n ≤ n + 1 := by unfold nxt; split <;> omega
theorem and63 (x : Int) (h0 : 0 ≤ x) (h1 : x < 4294967296) : Go.bits .and .u32 x 63 = x % 64 :=
  bits_mask .u32 32 (by decide) (fun n h0 h1 => by rw [IntKind.wrap_u32]; omega) 6 (by omega) x h0 (by omega)
theorem or8 (x y : Int) (h0 : 0 ≤ x) (h1 : x < 16777216) (h2 : 0 ≤ y) (h3 : y ≤ 255) : Go.bits .or .u32 (IntKind.u32.wrap (x * 256)) (IntKind.u32.wrap y) = x * 256 + y := by
  rw [IntKind.wrap_u32, IntKind.wrap_u32, show x * 256 % 4294967296 = x * 256 by omega, show y % 4294967296 = y by omega]
  exact bits_join .u32 32 (by decide) (fun n h0 h1 => by rw [IntKind.wrap_u32]; omega) 8 (x * 256) y (by omega) (by omega) (by omega) h2 (by omega) (by omega)
theorem wsh (x : Int) (h0 : 0 ≤ x) (h1 : x < 16777216) : IntKind.u32.wrap (x * 256) = x * 256 := by rw [IntKind.wrap_u32]; omega
theorem vst_in (p : List Int) (v : Int) (i : Nat) (h : i < p.length) (y : Int) (hy : rd p (i : Int) = y) (h0 : 0 ≤ v) (h1 : v < 16777216) (h2 : 0 ≤ y ∧ y ≤ 255) : vst p v i = v * 256 + y := by
  unfold vst; rw [if_pos h, hy]; exact or8 v y h0 h1 h2.1 h2.2
theorem vst_out (p : List Int) (v : Int) (i : Nat) (h : ¬ i < p.length) (h0 : 0 ≤ v) (h1 : v < 16777216) : vst p v i = v * 256 := by
  unfold vst; rw [if_neg h]; exact wsh v h0 h1
/-- the group's letters. -/
theorem wch1 (a : Int) (ha : 0 ≤ a ∧ a ≤ 255) : [wch [a] 0, wch [a] 1, wch [a] 2, wch [a] 3] = [lt (a / 4), lt (a * 16), 61, 61] := by
  have e1 : vN [a] 3 = a * 65536 := by
    simp only [vN]
    rw [vst_in [a] 0 0 (by simp) a rfl (by omega) (by omega) ha, vst_out [a] _ 1 (by simp) (by omega) (by omega), vst_out [a] _ 2 (by simp) (by omega) (by omega)]; omega
  have q0 : a * 65536 / 2 ^ (18 - 6 * 0) % 64 = a / 4 % 64 := by omega
  have q1 : a * 65536 / 2 ^ (18 - 6 * 1) % 64 = a * 16 % 64 := by omega
  simp only [wch, e1, lt]
  rw [if_neg (by simp), if_neg (by simp), if_pos (by simp), if_pos (by simp)]
  rw [and63 _ (by omega) (by omega), and63 _ (by omega) (by omega), q0, q1]
theorem wch2 (a b : Int) (ha : 0 ≤ a ∧ a ≤ 255) (hb : 0 ≤ b ∧ b ≤ 255) : [wch [a, b] 0, wch [a, b] 1, wch [a, b] 2, wch [a, b] 3] = [lt (a / 4), lt (a * 16 + b / 16), lt (b * 4), 61] := by
  have e1 : vN [a, b] 3 = a * 65536 + b * 256 := by
    simp only [vN]
    rw [vst_in [a, b] 0 0 (by simp) a rfl (by omega) (by omega) ha, vst_in [a, b] _ 1 (by simp) b rfl (by omega) (by omega) hb, vst_out [a, b] _ 2 (by simp) (by omega) (by omega)]; omega
  have q0 : (a * 65536 + b * 256) / 2 ^ (18 - 6 * 0) % 64 = a / 4 % 64 := by omega
  have q1 : (a * 65536 + b * 256) / 2 ^ (18 - 6 * 1) % 64 = (a * 16 + b / 16) % 64 := by omega
  have q2 : (a * 65536 + b * 256) / 2 ^ (18 - 6 * 2) % 64 = b * 4 % 64 := by omega
  simp only [wch, e1, lt]
  rw [if_neg (by simp), if_neg (by simp), if_neg (by simp), if_pos (by simp)]
  rw [and63 _ (by omega) (by omega), and63 _ (by omega) (by omega), and63 _ (by omega) (by omega), q0, q1, q2]
theorem wch3 (a b c : Int) (ha : 0 ≤ a ∧ a ≤ 255) (hb : 0 ≤ b ∧ b ≤ 255) (hc : 0 ≤ c ∧ c ≤ 255) : [wch [a, b, c] 0, wch [a, b, c] 1, wch [a, b, c] 2, wch [a, b, c] 3] = [lt (a / 4), lt (a * 16 + b / 16), lt (b * 4 + c / 64), lt c] := by
  have e1 : vN [a, b, c] 3 = a * 65536 + b * 256 + c := by
    simp only [vN]
    rw [vst_in [a, b, c] 0 0 (by simp) a rfl (by omega) (by omega) ha, vst_in [a, b, c] _ 1 (by simp) b rfl (by omega) (by omega) hb, vst_in [a, b, c] _ 2 (by simp) c rfl (by omega) (by omega) hc]; omega
  have q0 : (a * 65536 + b * 256 + c) / 2 ^ (18 - 6 * 0) % 64 = a / 4 % 64 := by omega
  have q1 : (a * 65536 + b * 256 + c) / 2 ^ (18 - 6 * 1) % 64 = (a * 16 + b / 16) % 64 := by omega
  have q2 : (a * 65536 + b * 256 + c) / 2 ^ (18 - 6 * 2) % 64 = (b * 4 + c / 64) % 64 := by omega
  have q3 : (a * 65536 + b * 256 + c) / 2 ^ (18 - 6 * 3) % 64 = c % 64 := by omega
  simp only [wch, e1, lt]
  rw [if_neg (by simp), if_neg (by simp), if_neg (by simp), if_neg (by simp)]
  rw [and63 _ (by omega) (by omega), and63 _ (by omega) (by omega), and63 _ (by omega) (by omega), and63 _ (by omega) (by omega), q0, q1, q2, q3]
theorem gN4 (line : Int) (p out : List Int) (n : Int) (h0 : 0 ≤ n) (h1 : n < 9223372036854775800) (q : List Int) :
    (gN line p out n 4).1 ++ brk line (gN line p out n 4).2 q = out ++ brk line n ([wch p 0, wch p 1, wch p 2, wch p 3] ++ q) ∧ 0 ≤ (gN line p out n 4).2 ∧ (gN line p out n 4).2 ≤ n + 4 := by
  have r1 := nxt_range line n h0
  have r2 := nxt_range line (nxt line n) r1.1
  have r3 := nxt_range line (nxt line (nxt line n)) r2.1
  have r4 := nxt_range line (nxt line (nxt line (nxt line n))) r3.1
  simp only [gN]
  rw [putN_nxt line n h0 (by omega), putN_nxt line _ r1.1 (by omega), putN_nxt line _ r2.1 (by omega), putN_nxt line _ r3.1 (by omega)]
  refine ⟨?_, r4.1, by omega⟩
  simp only [putO_brk, List.cons_append, List.nil_append, brk_cons, List.append_assoc]
theorem wrW_brk (line : Int) (L : List Int) (hL : Bytes L) : ∀ (out : List Int) (n : Int), 0 ≤ n → n + 4 * L.length < 9223372036854775800 → wrW line L out n = out ++ brk line n (lets L) := by
  induction L using lets.induct with
  | case1 => intro out n _ _; simp [wrW, lets, brk]
  | case2 a =>
    intro out n h0 h1
    have := (gN4 line [a] out n h0 (by simp at h1; omega) []).1
    rw [wch1 a (hL a (by simp))] at this
    simpa [wrW, lets, brk] using this
  | case3 a b =>
    intro out n h0 h1
    have := (gN4 line [a, b] out n h0 (by simp at h1; omega) []).1
    rw [wch2 a b (hL a (by simp)) (hL b (by simp))] at this
    simpa [wrW, lets, brk] using this
  | case4 a b c r ih =>
    intro out n h0 h1
    simp only [List.length_cons] at h1
    obtain ⟨h2, h3, h4⟩ := gN4 line [a, b, c] out n h0 (by omega) (lets r)
    rw [wch3 a b c (hL a (by simp)) (hL b (by simp)) (hL c (by simp))] at h2
    simp only [wrW]
    rw [ih (fun x hx => hL x (by simp [hx])) _ _ h3 (by omega), h2]
    rfl
theorem brk_ins (line : Int) (l : List Int) : ∀ n, Ins l (brk line n l) := by
  induction l with
  | nil => intro n; exact .nil
  | cons c r ih =>
    intro n
    simp only [brk]
    split
    · exact .blank 13 rfl (.blank 10 rfl (.cons c (ih 1)))
    · exact .cons c (ih _)
theorem brk_len (line : Int) (l : List Int) : ∀ n, (brk line n l).length ≤ 3 * l.length := by
  induction l with
  | nil => intro n; simp [brk]
  | cons c r ih =>
    intro n
    simp only [brk]
    have h1 := ih 1
    have h2 := ih (n + 1)
    split <;> simp <;> omega
theorem brk_none (l : List Int) : ∀ n, brk 0 n l = l := by
  induction l with
  | nil => intro n; rfl
  | cons c r ih =>
    intro n
    simp only [brk]
    rw [if_neg (by omega), ih]
theorem write_f (L : List Int) (hL : Bytes L) (hLn : L.length ≤ 1048576) (line : Int) : sixbits_Write.f L line = some (brk line 0 (lets L)) := by
  unfold sixbits_Write.f
  have h1 := brk_len line (lets L) 0
  have h2 := lets_len L
  rw [wrW_brk line L hL [] 0 (by omega) (by omega), List.nil_append, if_pos (by omega)]
theorem write_bytes (line : Int) (L : List Int) : Bytes (brk line 0 (lets L)) := (brk_ins line (lets L) 0).bytes (lets_bytes L)
theorem pos_end (l : List Int) : ∀ (i P Q H : Int), (run l i P Q H).why = 0 → (run l i P Q H).pos = i + l.length := by
  induction l with
  | nil => intro i P Q H h; simp [run]
  | cons c r ih =>
    intro i P Q H
    simp only [run]
    by_cases h0 : (st P Q H c).err = 0
    · rw [if_pos h0]
      have := ih (i + 1) (st P Q H c).P (st P Q H c).Q (st P Q H c).H
      split
      · intro h; rw [List.length_cons]; have := this h; dsimp only; omega
      · intro h; rw [List.length_cons]; have := this h; omega
    · rw [if_neg h0]; intro h; exact absurd h h0
end Go.Proofs.Ytgapacibhagicaa.Six
