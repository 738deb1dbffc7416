/- The document's escape: all its answers in one law. -/
import Derived.Test.YtemdlahghbbkoaaEsc
namespace Go.Proofs.Ytemdlahghbbkoaa.PAll
open Go.RowKit Go.Proofs.YtemdlahghbbkoaaW.PrintWords Go.Proofs.YtemdlahghbbkoaaW.PrintLast Go.Proofs.YtemdlahghbbkoaaW.PrintMore
set_option linter.unusedVariables false
set_option linter.unusedSimpArgs false
/-- what a digit to the base 16 says; -1: it is none. -/
def ddg (b : Int) : Int := if 48 ≤ b ∧ b ≤ 57 then b - 48 else if 65 ≤ b ∧ b ≤ 70 then b - 55 else if 97 ≤ b ∧ b ≤ 102 then b - 87 else -1
theorem ddg_f (b : Int) : winkleref11_Digit.f 3 b = some (ddg b) := by
  unfold winkleref11_Digit.f ddg
  simp only [winkleref11_Digit.j0, winkleref11_Digit.j1]
  repeat' split
  all_goals first
    | (exfalso; simp_all; omega)
    | (congr 1; simp_all; omega)
    | (simp_all; omega)
    | simp_all
theorem ddg_r (b : Int) : ddg b = -1 ∨ (0 ≤ ddg b ∧ ddg b ≤ 15) := by
  unfold ddg; repeat' split
  all_goals omega
/-- what the escape at i does: bytes gone through, what is said, when, why, at. -/
def escS (l : List Int) (L i : Nat) (o t : List Int) (wy a : Int) : Int × List Int × List Int × Int × Int :=
  if brk (l.drop (i + 1)) = 1 then (2, o, t, wy, a)
  else if brk (l.drop (i + 1)) = 2 then (3, o, t, wy, a)
  else if i + 1 = L then (1, o, t, wy, a)
  else if l.getD (i + 1) 0 = 13 then (if i + 2 < L then (2, o, t, 22, ((i + 2 : Nat) : Int)) else (2, o, t, wy, a))
  else if ddg (l.getD (i + 1) 0) = -1 then (0, o, t, 22, ((i + 1 : Nat) : Int))
  else if i + 2 = L then (0, o, t, 1, (L : Int))
  else if ddg (l.getD (i + 2) 0) = -1 then (0, o, t, 22, ((i + 2 : Nat) : Int))
  else (3, o ++ [16 * ddg (l.getD (i + 1) 0) + ddg (l.getD (i + 2) 0)], t ++ [((i + 2 : Nat) : Int)], wy, a)
theorem brk_012 (x : List Int) : brk x = 1 ∨ brk x = 2 ∨ brk x = 0 := by unfold brk; split <;> simp
theorem jf_mk (i L : Nat) (h : i < L) (hL : LenOk L) : JF i (i + 1) (i + 2) L := by
  have h2 : L ≤ 1048576 * 1024 := hL
  refine ⟨by omega, by omega, ?_, ?_, hL, by omega⟩ <;> (unfold wrap64; omega)
theorem rn_escape {w W : World} {g : Nat} {A : Option Addr} {c L i : Nat} {l out times : List Int} {why at_ : Int} (hRN : Aside0 (RN w W g out times why at_)) (HR : Aside0 (ReadsOf (Value.int .u8) (0 : Int) w A L l)) (HL : Aside0 (l.length = L)) (HC : Aside0 (L ≤ c)) (hi : i < L) (hL : LenOk L) (HLN : Aside0 (out.length + 1 ≤ 1048576 * 1048576 ∧ times.length + 1 ≤ 1048576 * 1048576)) :
    Calls Try.prog 26 #[.pointer (some ⟨g, 0, none⟩), .slice A L c, .int .i64 (i : Int)] W fun e W' => e = .returned (.int .i64 (escS l L i out times why at_).1) ∧ RN w W' g (escS l L i out times why at_).2.1 (escS l L i out times why at_).2.2.1 (escS l L i out times why at_).2.2.2.1 (escS l L i out times why at_).2.2.2.2 := by
  have HJ := Aside0.mk (jf_mk i L hi hL)
  unfold escS
  rcases brk_012 (l.drop (i + 1)) with hb | hb | hb
  · rw [if_pos hb]; exact es_brk1 hRN HR HL HC HJ ⟨hb⟩
  · rw [if_neg (by omega), if_pos hb]; exact es_brk2 hRN HR HL HC HJ ⟨hb⟩
  · rw [if_neg (by omega), if_neg (by omega)]
    by_cases he : i + 1 = L
    · rw [if_pos he]; exact es_end hRN HR HL HC HJ ⟨hb⟩ ⟨he⟩
    · rw [if_neg he]
      have hlt : i + 1 < L := by omega
      by_cases h13 : l.getD (i + 1) 0 = 13
      · rw [if_pos h13]
        by_cases h2 : i + 2 < L
        · rw [if_pos h2]; exact es_cr hRN HR HL HC HJ ⟨hb⟩ ⟨hlt⟩ ⟨rfl⟩ ⟨h13, h2⟩
        · rw [if_neg h2]; exact es_cre hRN HR HL HC HJ ⟨hb⟩ ⟨hlt⟩ ⟨rfl⟩ ⟨h13, h2⟩
      · rw [if_neg h13]
        rcases ddg_r (l.getD (i + 1) 0) with hd | hd
        · rw [if_pos hd]; exact es_bad1 hRN HR HL HC HJ ⟨hb⟩ ⟨hlt⟩ ⟨rfl⟩ ⟨h13⟩ ⟨by rw [ddg_f, hd]⟩
        · rw [if_neg (by omega)]
          by_cases h2 : i + 2 = L
          · rw [if_pos h2]; exact es_cut hRN HR HL HC HJ ⟨hb⟩ ⟨hlt⟩ ⟨rfl⟩ ⟨h13⟩ ⟨ddg_f _⟩ ⟨hd⟩ ⟨h2⟩
          · rw [if_neg h2]
            have hlt2 : i + 2 < L := by omega
            rcases ddg_r (l.getD (i + 2) 0) with hd2 | hd2
            · rw [if_pos hd2]; exact es_bad2 hRN HR HL HC HJ ⟨hb⟩ ⟨hlt⟩ ⟨rfl⟩ ⟨h13⟩ ⟨ddg_f _⟩ ⟨hd⟩ ⟨hlt2⟩ ⟨rfl⟩ ⟨by rw [ddg_f, hd2]⟩
            · rw [if_neg (by omega)]; exact es_say hRN HR HL HC HJ ⟨hb⟩ ⟨hlt⟩ ⟨rfl⟩ ⟨h13⟩ ⟨ddg_f _⟩ ⟨hd⟩ ⟨hlt2⟩ ⟨rfl⟩ ⟨ddg_f _⟩ ⟨hd2⟩ HLN
end Go.Proofs.Ytemdlahghbbkoaa.PAll
