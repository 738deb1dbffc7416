/- Plain: the decoder's whole answer is the document's. -/
import Derived.Test.YtemdlahghbbkoaaOf
import Derived.Test.YtemdlahghbbkoaaWhole
namespace Go.Proofs.Ytemdlahghbbkoaa.Pure
open Go.RowKit Go.Proofs.Ytemdlahghbbkoaa.PAll
set_option linter.unusedVariables false
set_option linter.unusedSimpArgs false
theorem ws_cons {st hi : Int} {q : List Int} {b : Int} {s2 h2 : Int} {q2 e2 : List Int} (h : stepS st hi q b = (s2, h2, 0, q2, e2)) (r : List Int) (i : Nat) (o : List Int) : wholeS st hi q (b :: r) i o = wholeS s2 h2 q2 r (i + 1) (o ++ e2) := by
  simp only [wholeS, h, if_true]
theorem ws_bad {st hi : Int} {q : List Int} {b : Int} {s2 h2 y : Int} {q2 : List Int} (h : stepS st hi q b = (s2, h2, y, q2, [])) (hy : y ≠ 0) (r : List Int) (i : Nat) (o : List Int) : wholeS st hi q (b :: r) i o = (o, y, (i : Int)) := by
  simp only [wholeS, h, if_neg hy, List.append_nil]
theorem digS_ddg (b : Int) : digS b = if ddg b = -1 then none else some (ddg b) := by
  unfold digS ddg
  repeat' split
  all_goals first
    | rfl
    | omega
    | simp_all
/-- a run's rest: what stands behind it lets it go, or tells it. -/
def dropR (x : List Int) : Bool := x.isEmpty || decide (brk x > 0)
theorem flush (hi : Int) (q : List Int) (x : List Int) (e : Nat) (o : List Int) (h : ∀ b r, x = b :: r → ¬ (b = 9 ∨ b = 32)) : wholeS 0 hi q x e o = wholeS 0 hi [] x e (o ++ if dropR x then [] else q) := by
  match x with
  | [] => simp [wholeS, endS, dropR]
  | b :: r =>
    have hb := h b r rfl
    by_cases h10 : b = 10
    · subst h10
      rw [ws_cons (s2 := 0) (h2 := hi) (q2 := []) (e2 := [10]) (by simp [stepS, plainS]), ws_cons (s2 := 0) (h2 := hi) (q2 := []) (e2 := [10]) (by simp [stepS, plainS])]
      simp [dropR, brk]
    · by_cases h13 : b = 13
      · subst h13
        rw [ws_cons (s2 := 4) (h2 := hi) (q2 := q) (e2 := []) (by simp [stepS, plainS]), ws_cons (s2 := 4) (h2 := hi) (q2 := []) (e2 := []) (by simp [stepS, plainS])]
        match r with
        | [] => simp [wholeS, endS, dropR, brk]
        | c :: r =>
          by_cases hc : c = 10
          · subst hc
            rw [ws_cons (s2 := 0) (h2 := hi) (q2 := []) (e2 := [13, 10]) (by simp [stepS]), ws_cons (s2 := 0) (h2 := hi) (q2 := []) (e2 := [13, 10]) (by simp [stepS])]
            simp [dropR, brk]
          · have hd : dropR (13 :: c :: r) = false := by
              have : brk (13 :: c :: r) = 0 := by unfold brk; split <;> simp_all
              simp [dropR, this]
            rw [hd, ws_cons (s2 := (plainS [] c).1) (h2 := hi) (q2 := (plainS [] c).2.1) (e2 := q ++ [13] ++ (plainS [] c).2.2) (by simp [stepS, hc]), ws_cons (s2 := (plainS [] c).1) (h2 := hi) (q2 := (plainS [] c).2.1) (e2 := [] ++ [13] ++ (plainS [] c).2.2) (by simp [stepS, hc])]
            simp
      · have hd : dropR (b :: r) = false := by
          have : brk (b :: r) = 0 := by unfold brk; split <;> simp_all
          simp [dropR, this]
        rw [hd]
        by_cases h61 : b = 61
        · subst h61
          rw [ws_cons (s2 := 1) (h2 := hi) (q2 := []) (e2 := q) (by simp [stepS, plainS]), ws_cons (s2 := 1) (h2 := hi) (q2 := []) (e2 := []) (by simp [stepS, plainS])]
          simp
        · rw [ws_cons (s2 := 0) (h2 := hi) (q2 := []) (e2 := q ++ [b]) (by simp [stepS, plainS, hb, h10, h13, h61]), ws_cons (s2 := 0) (h2 := hi) (q2 := []) (e2 := [] ++ [b]) (by simp [stepS, plainS, hb, h10, h13, h61])]
          simp
/-- a run of blanks: the last 64 wait. -/
theorem blanks_run (hi : Int) (m : Nat) : ∀ (q x : List Int) (i : Nat) (o : List Int), q.length ≤ 64 → (∀ b ∈ x, b = 9 ∨ b = 32) → x.length = m → ∀ y, wholeS 0 hi q (x ++ y) i o = wholeS 0 hi ((q ++ x).drop ((q ++ x).length - 64)) y (i + m) (o ++ (q ++ x).take ((q ++ x).length - 64)) := by
  induction m with
  | zero =>
    intro q x i o hq hx hm y
    have : x = [] := List.length_eq_zero_iff.1 hm
    subst this
    have : q.length - 64 = 0 := by omega
    simp [this]
  | succ m ih =>
    intro q x i o hq hx hm y
    match x with
    | b :: x =>
      have hb := hx b (by simp)
      have hx' : ∀ c ∈ x, c = 9 ∨ c = 32 := fun c hc => hx c (by simp [hc])
      have hm' : x.length = m := by simpa using hm
      rw [List.cons_append]
      by_cases h64 : q.length = 64
      · rw [ws_cons (s2 := 0) (h2 := hi) (q2 := q.drop 1 ++ [b]) (e2 := q.take 1) (by simp [stepS, plainS, hb, h64]), ih _ x _ _ (by simp; omega) hx' hm' y]
        match q with
        | c :: q =>
          have hq2 : q.length = 63 := by simpa using h64
          simp [hm', hq2, Nat.add_comm, Nat.add_left_comm, Nat.add_assoc]
      · rw [ws_cons (s2 := 0) (h2 := hi) (q2 := q ++ [b]) (e2 := []) (by simp [stepS, plainS, hb, h64]), ih _ x _ _ (by simp; omega) hx' hm' y]
        simp [Nat.add_comm, Nat.add_left_comm, Nat.add_assoc]
theorem blkO_eq (l : List Int) (drop : Bool) (m : Nat) : ∀ k e, k + m = e → e ≤ l.length → blkO l e drop k m = ((l.drop k).take m).take (m - 64) ++ if drop then [] else ((l.drop k).take m).drop (m - 64) := by
  induction m with
  | zero => intro k e h he; simp [blkO]
  | succ m ih =>
    intro k e h he
    have hk : k < l.length := by omega
    have hg : l.getD k 0 = l[k] := by simp [List.getD_eq_getElem?_getD, List.getElem?_eq_getElem hk]
    rw [List.drop_eq_getElem_cons hk, List.take_succ_cons]
    simp only [blkO]
    rw [ih (k + 1) e (by omega) he, hg]
    by_cases hf : k + 64 < e
    · rw [if_pos hf, show m + 1 - 64 = (m - 64) + 1 by omega]
      simp
    · rw [if_neg hf, show m + 1 - 64 = 0 by omega, show m - 64 = 0 by omega]
      cases drop <;> simp
theorem run_at (l : List Int) (L i : Nat) (hl : l.length = L) (hi : i ≤ L) (h : Int) (o : List Int) : wholeS 0 h [] (l.drop i) i o = wholeS 0 h [] (l.drop (i + nB (l.drop i))) (i + nB (l.drop i)) (o ++ blkO l (i + nB (l.drop i)) (blDrop l L (i + nB (l.drop i))) i (nB (l.drop i))) := by
  have hn := nB_le (l.drop i)
  have hn2 := hn
  rw [List.length_drop, hl] at hn2
  have hx : ∀ b ∈ (l.drop i).take (nB (l.drop i)), b = 9 ∨ b = 32 := by
    intro b hb
    obtain ⟨j, hj, rfl⟩ := List.getElem_of_mem hb
    have hj2 : j < nB (l.drop i) := by rw [List.length_take] at hj; omega
    have h1 := nB_all (l.drop i) j hj2
    rw [List.getElem_take]
    rw [List.getD_eq_getElem?_getD, List.getElem?_eq_getElem (by omega)] at h1
    exact h1
  have hlen : ((l.drop i).take (nB (l.drop i))).length = nB (l.drop i) := by rw [List.length_take]; omega
  have hsp : l.drop i = (l.drop i).take (nB (l.drop i)) ++ l.drop (i + nB (l.drop i)) := by
    rw [← List.drop_drop, List.take_append_drop]
  have h1 := blanks_run h (nB (l.drop i)) [] ((l.drop i).take (nB (l.drop i))) i o (by simp) hx hlen (l.drop (i + nB (l.drop i)))
  rw [← hsp, List.nil_append, hlen] at h1
  rw [h1, flush]
  · rw [blkO_eq l _ _ i _ rfl (by omega), List.append_assoc]
    have hd : dropR (l.drop (i + nB (l.drop i))) = blDrop l L (i + nB (l.drop i)) := by
      unfold dropR blDrop
      congr 1
      by_cases he : i + nB (l.drop i) = L
      · rw [he, ← hl]; simp
      · rw [decide_eq_false he]
        have : (l.drop (i + nB (l.drop i))).length ≠ 0 := by rw [List.length_drop]; omega
        cases hc : l.drop (i + nB (l.drop i)) with
        | nil => rw [hc] at this; simp at this
        | cons => rfl
    rw [hd]
  · intro b r hb
    have hlt : i + nB (l.drop i) < L := by
      have : (l.drop (i + nB (l.drop i))).length ≠ 0 := by rw [hb]; simp
      rw [List.length_drop] at this; omega
    have h2 := nB_end (l.drop i) (by rw [List.length_drop]; omega)
    rw [getD_drop0] at h2
    have h3 : l.getD (i + nB (l.drop i)) 0 = b := by
      have := getD_drop0 l (i + nB (l.drop i)) 0
      rw [hb] at this
      simpa using this.symm
    rw [h3] at h2
    exact h2
theorem brk_1 {b : Int} {r : List Int} (h : brk (b :: r) = 1) : b = 10 := by unfold brk at h; split at h <;> simp_all
theorem brk_2 {b : Int} {r : List Int} (h : brk (b :: r) = 2) : b = 13 ∧ ∃ r', r = 10 :: r' := by unfold brk at h; split at h <;> simp_all
theorem brk_0 {b : Int} {r : List Int} (h : brk (b :: r) = 0) : b ≠ 10 ∧ (b = 13 → ∀ c r', r = c :: r' → c ≠ 10) := by
  refine ⟨fun hb => ?_, fun hb c r' hr hc => ?_⟩
  · subst hb; simp [brk] at h
  · subst hb; subst hr; subst hc; simp [brk] at h
theorem gd {l : List Int} {i : Nat} {b : Int} {r : List Int} (h : l.drop i = b :: r) : l.getD i 0 = b := by
  have := getD_drop0 l i 0
  rw [h] at this
  simpa using this.symm
def pick3 (r : List Int × List Int × Int × Int) : List Int × Int × Int := (r.1, r.2.2.1, r.2.2.2)
theorem go_on {l : List Int} {L k i n : Nat} {o t o2 t2 : List Int} (hi : i < L) (h : ofS l L i o t 0 (L : Int) = ((n : Int), o2, t2, 0, (L : Int))) : pick3 (ofR l L (k + 1) i o t 0 (L : Int)) = pick3 (ofR l L k (i + n) o2 t2 0 (L : Int)) := by
  rw [ofR_step ⟨hi, rfl⟩ h rfl]
theorem go_bad {l : List Int} {L k i n : Nat} {o t o2 t2 : List Int} {y a : Int} (hi : i < L) (hk : L + 2 ≤ i + (k + 1)) (h : ofS l L i o t 0 (L : Int) = ((n : Int), o2, t2, y, a)) (hy : y ≠ 0) : pick3 (ofR l L (k + 1) i o t 0 (L : Int)) = (o2, y, a) := by
  obtain ⟨k', rfl⟩ : ∃ k', k = k' + 1 := ⟨k - 1, by omega⟩
  rw [ofR_step ⟨hi, rfl⟩ h rfl, ofR_stop (by simp [hy])]
  rfl
theorem whole_all (l : List Int) (L : Nat) (hl : l.length = L) (k : Nat) : ∀ (i : Nat) (h : Int) (o t : List Int), i ≤ L → L + 2 ≤ i + k → wholeS 0 h [] (l.drop i) i o = pick3 (ofR l L k i o t 0 (L : Int)) := by
  induction k with
  | zero => intro i h o t h1 h2; omega
  | succ k ih =>
    intro i h o t hiL hk
    by_cases hi : i < L
    · have nx : ∀ (n : Nat) (h' : Int) (o2 t2 : List Int), ofS l L i o t 0 (L : Int) = ((n : Int), o2, t2, 0, (L : Int)) → 1 ≤ n → i + n ≤ L → wholeS 0 h [] (l.drop i) i o = wholeS 0 h' [] (l.drop (i + n)) (i + n) o2 → wholeS 0 h [] (l.drop i) i o = pick3 (ofR l L (k + 1) i o t 0 (L : Int)) := by
        intro n h' o2 t2 hs hn hin hw
        rw [go_on hi hs, hw]
        exact ih _ _ _ _ hin (by omega)
      have bd : ∀ (n : Nat) (o2 t2 : List Int) (y a : Int), ofS l L i o t 0 (L : Int) = ((n : Int), o2, t2, y, a) → y ≠ 0 → wholeS 0 h [] (l.drop i) i o = (o2, y, a) → wholeS 0 h [] (l.drop i) i o = pick3 (ofR l L (k + 1) i o t 0 (L : Int)) := by
        intro n o2 t2 y a hs hy hw
        rw [go_bad hi hk hs hy, hw]
      obtain ⟨b, r, hb⟩ : ∃ b r, l.drop i = b :: r := ⟨_, _, List.drop_eq_getElem_cons (by omega)⟩
      obtain ⟨_, _, hr⟩ := brd_drop hb
      have hg := gd hb
      rcases brk_012 (l.drop i) with hk0 | hk0 | hk0
      · have h10 := hk0
        rw [hb] at h10
        obtain rfl := brk_1 h10
        refine nx 1 h _ (t ++ [(i : Int)]) (by unfold ofS; rw [if_pos hk0]; rfl) (by omega) (by omega) ?_
        rw [hb, ws_cons (s2 := 0) (h2 := h) (q2 := []) (e2 := [10]) (by simp [stepS, plainS]), hr]
      · have h10 := hk0
        rw [hb] at h10
        obtain ⟨rfl, r', rfl⟩ := brk_2 h10
        obtain ⟨h2l, _, hr2⟩ := brd_drop hr
        refine nx 2 h _ (t ++ [((i + 1 : Nat) : Int)] ++ [((i + 1 : Nat) : Int)]) (by unfold ofS; rw [if_neg (by omega), if_pos hk0]; rfl) (by omega) (by omega) ?_
        rw [hb, ws_cons (s2 := 4) (h2 := h) (q2 := []) (e2 := []) (by simp [stepS, plainS]), ws_cons (s2 := 0) (h2 := h) (q2 := []) (e2 := [13, 10]) (by simp [stepS]), show i + 2 = i + 1 + 1 by omega, hr2]
        simp
      · have h0 := hk0
        rw [hb] at h0
        obtain ⟨hn10, hn13⟩ := brk_0 h0
        by_cases h61 : b = 61
        · subst h61
          have hs0 : ofS l L i o t 0 (L : Int) = escS l L i o t 0 (L : Int) := by unfold ofS; rw [if_neg (by omega), if_neg (by omega), hg, if_pos rfl]
          have hw : wholeS 0 h [] (l.drop i) i o = wholeS 1 h [] (l.drop (i + 1)) (i + 1) o := by
            rw [hb, ws_cons (s2 := 1) (h2 := h) (q2 := []) (e2 := []) (by simp [stepS, plainS]), hr, List.append_nil]
          have hlen : (l.drop (i + 1)).length = L - (i + 1) := by rw [List.length_drop, hl]
          cases hr1 : l.drop (i + 1) with
          | nil =>
            rw [hr1] at hlen
            have hL1 : i + 1 = L := by simp at hlen; omega
            refine nx 1 h o t (by rw [hs0]; unfold escS; rw [hr1, if_neg (by simp [brk]), if_neg (by simp [brk]), if_pos hL1]; rfl) (by omega) (by omega) ?_
            rw [hw, hr1]; simp [wholeS, endS]
          | cons b1 r1 =>
            have hg1 := gd hr1
            obtain ⟨hl1, _, hr2⟩ := brd_drop hr1
            have hlen2 : (l.drop (i + 1 + 1)).length = L - (i + 2) := by rw [List.length_drop, hl]
            rw [hr2] at hlen2
            rcases brk_012 (l.drop (i + 1)) with hq | hq | hq
            · have hq1 := hq
              rw [hr1] at hq1
              obtain rfl := brk_1 hq1
              refine nx 2 h o t (by rw [hs0]; unfold escS; rw [if_pos hq]; rfl) (by omega) (by omega) ?_
              rw [hw, hr1, ws_cons (s2 := 0) (h2 := h) (q2 := []) (e2 := []) (by simp [stepS, digS]), show i + 2 = i + 1 + 1 by omega, hr2, List.append_nil]
            · have hq1 := hq
              rw [hr1] at hq1
              obtain ⟨rfl, r', rfl⟩ := brk_2 hq1
              obtain ⟨hl2, _, hr3⟩ := brd_drop hr2
              refine nx 3 h o t (by rw [hs0]; unfold escS; rw [if_neg (by omega), if_pos hq]; rfl) (by omega) (by omega) ?_
              rw [hw, hr1, ws_cons (s2 := 3) (h2 := h) (q2 := []) (e2 := []) (by simp [stepS, digS]), ws_cons (s2 := 0) (h2 := h) (q2 := []) (e2 := []) (by simp [stepS]), show i + 3 = i + 1 + 1 + 1 by omega, hr3, List.append_nil, List.append_nil]
            · have hq1 := hq
              rw [hr1] at hq1
              obtain ⟨m10, m13⟩ := brk_0 hq1
              have hne : ¬ i + 1 = L := by omega
              by_cases h13 : b1 = 13
              · subst h13
                match r1, hr2, hlen2, m13 with
                | [], hr2, hlen2, _ =>
                  have hL2 : ¬ i + 2 < L := by simp at hlen2; omega
                  refine nx 2 h o t (by rw [hs0]; unfold escS; rw [if_neg (by omega), if_neg (by omega), if_neg hne, hg1, if_pos rfl, if_neg hL2]; rfl) (by omega) (by omega) ?_
                  rw [hw, hr1, ws_cons (s2 := 3) (h2 := h) (q2 := []) (e2 := []) (by simp [stepS, digS]), show i + 2 = i + 1 + 1 by omega, hr2]
                  simp [wholeS, endS]
                | b2 :: r2, hr2, hlen2, m13 =>
                  have hc := m13 rfl b2 r2 rfl
                  have hL2 : i + 2 < L := by simp at hlen2; omega
                  refine bd 2 o t 22 ((i + 2 : Nat) : Int) (by rw [hs0]; unfold escS; rw [if_neg (by omega), if_neg (by omega), if_neg hne, hg1, if_pos rfl, if_pos hL2]; rfl) (by decide) ?_
                  rw [hw, hr1, ws_cons (s2 := 3) (h2 := h) (q2 := []) (e2 := []) (by simp [stepS, digS]), ws_bad (s2 := 0) (h2 := h) (q2 := []) (y := 22) (by simp [stepS, hc]) (by decide), List.append_nil]
              · rcases ddg_r b1 with hd | hd
                · refine bd 0 o t 22 ((i + 1 : Nat) : Int) (by rw [hs0]; unfold escS; rw [if_neg (by omega), if_neg (by omega), if_neg hne, hg1, if_neg h13, if_pos hd]; rfl) (by decide) ?_
                  rw [hw, hr1, ws_bad (s2 := 0) (h2 := h) (q2 := []) (y := 22) (by simp [stepS, digS_ddg, hd, h13, m10]) (by decide)]
                · have hd1 : ¬ ddg b1 = -1 := by omega
                  have hst : stepS 1 h [] b1 = (2, ddg b1, 0, [], []) := by simp [stepS, digS_ddg, hd1]
                  match r1, hr2, hlen2 with
                  | [], hr2, hlen2 =>
                    have hL2 : i + 2 = L := by simp at hlen2; omega
                    refine bd 0 o t 1 (L : Int) (by rw [hs0]; unfold escS; rw [if_neg (by omega), if_neg (by omega), if_neg hne, hg1, if_neg h13, if_neg hd1, if_pos hL2]; rfl) (by decide) ?_
                    rw [hw, hr1, ws_cons hst, ← hL2]
                    simp [wholeS, endS]
                    omega
                  | b2 :: r2, hr2, hlen2 =>
                    have hL2 : i + 2 < L := by simp at hlen2; omega
                    have hg2 : l.getD (i + 2) 0 = b2 := gd hr2
                    obtain ⟨_, _, hr3⟩ := brd_drop hr2
                    rcases ddg_r b2 with he | he
                    · refine bd 0 o t 22 ((i + 2 : Nat) : Int) (by rw [hs0]; unfold escS; rw [if_neg (by omega), if_neg (by omega), if_neg hne, hg1, hg2, if_neg h13, if_neg hd1, if_neg (by omega), if_pos he]; rfl) (by decide) ?_
                      rw [hw, hr1, ws_cons hst, ws_bad (s2 := 0) (h2 := ddg b1) (q2 := []) (y := 22) (by simp [stepS, digS_ddg, he]) (by decide), List.append_nil]
                    · have he1 : ¬ ddg b2 = -1 := by omega
                      refine nx 3 (ddg b1) (o ++ [16 * ddg b1 + ddg b2]) (t ++ [((i + 2 : Nat) : Int)]) (by rw [hs0]; unfold escS; rw [if_neg (by omega), if_neg (by omega), if_neg hne, hg1, hg2, if_neg h13, if_neg hd1, if_neg (by omega), if_neg he1]; rfl) (by omega) (by omega) ?_
                      rw [hw, hr1, ws_cons hst, ws_cons (s2 := 0) (h2 := ddg b1) (q2 := []) (e2 := [16 * ddg b1 + ddg b2]) (by simp [stepS, digS_ddg, he1]), show i + 3 = i + 1 + 1 + 1 by omega, hr3, List.append_nil]
        · by_cases h9 : b = 9 ∨ b = 32
          · have hn := nB_le (l.drop i)
            rw [List.length_drop, hl] at hn
            refine nx (nB (l.drop i)) h _ _ (by unfold ofS; rw [if_neg (by omega), if_neg (by omega), hg, if_neg h61, if_pos h9]) (by rw [hb]; simp only [nB]; rw [if_pos h9]; omega) (by omega) (run_at l L i hl hiL h o)
          · by_cases h13 : b = 13
            · subst h13
              refine nx 1 h _ (t ++ [((i + 1 : Nat) : Int)]) (by unfold ofS; rw [if_neg (by omega), if_neg (by omega), hg, if_neg h61, if_neg h9, if_pos rfl]; rfl) (by omega) (by omega) ?_
              rw [hb, ws_cons (s2 := 4) (h2 := h) (q2 := []) (e2 := []) (by simp [stepS, plainS]), hr]
              match r, hn13 with
              | [], _ => simp [wholeS, endS]
              | c :: r, hn13 =>
                have hc := hn13 rfl c r rfl
                rw [ws_cons (s2 := (plainS [] c).1) (h2 := h) (q2 := (plainS [] c).2.1) (e2 := [] ++ [13] ++ (plainS [] c).2.2) (by simp [stepS, hc]), ws_cons (s2 := (plainS [] c).1) (h2 := h) (q2 := (plainS [] c).2.1) (e2 := (plainS [] c).2.2) (by simp [stepS])]
                simp
            · refine nx 1 h _ (t ++ [(i : Int)]) (by unfold ofS; rw [if_neg (by omega), if_neg (by omega), hg, if_neg h61, if_neg h9, if_neg h13]; rfl) (by omega) (by omega) ?_
              rw [hb, ws_cons (s2 := 0) (h2 := h) (q2 := []) (e2 := [b]) (by simp [stepS, plainS, h9, h13, hn10, h61]), hr]
    · obtain rfl : i = L := by omega
      rw [ofR_stop (by omega)]
      have : l.drop i = [] := by rw [← hl]; simp
      rw [this]
      simp [wholeS, endS, pick3]
theorem whole_of (l : List Int) : wholeS 0 0 [] l 0 [] = ((ofA l).1, (ofA l).2.2.1, (ofA l).2.2.2) := by
  have h := whole_all l l.length rfl (l.length + 2) 0 0 [] [] (by omega) (by omega)
  rw [List.drop_zero] at h
  exact h
end Go.Proofs.Ytemdlahghbbkoaa.Pure
