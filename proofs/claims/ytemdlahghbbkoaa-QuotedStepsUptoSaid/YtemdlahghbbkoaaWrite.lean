/- Write: bytes in quoted-printable, in lines of a width. -/
import Derived.Test.YtemdlahghbbkoaaWhole
import Derived.Test.YtemdlahghbbkoaaPAllx2
import Derived.Test.YtemdlahghbbkoaaPAllx3
namespace Go.Proofs.Ytemdlahghbbkoaa.PAll
open Go.RowKit Go.Proofs.YtemdlahghbbkoaaW.PrintWords Go.Proofs.YtemdlahghbbkoaaW.PrintLast Go.Proofs.YtemdlahghbbkoaaW.PrintMore
attribute [local go_sem] max2_int min2_int max_two min_two max_three min_three max_four min_four   -- for this text's walks alone
set_option linter.unusedVariables false
set_option linter.unusedSimpArgs false
def startsL : List Int → Bool
  | 13 :: 10 :: _ => true
  | _ => false
def hexD (n : Int) : Int := if n < 10 then 48 + n else 55 + n
def pieceL (c : Int) (last : Bool) : List Int :=
  if (32 < c ∧ c < 127 ∧ c ≠ 61) ∨ ((c = 9 ∨ c = 32) ∧ last = false) then [c] else [61, hexD (c / 16), hexD (c % 16)]
/-- the place in the line behind a piece, and what is written with it. -/
def stepW (wd n : Int) (p : List Int) : Int × List Int := if wd ≤ n + p.length then ((p.length : Int), [61, 13, 10] ++ p) else (n + p.length, p)
def writeS (wd : Int) : List Int → Int → List Int → List Int
  | [], _, o => o
  | [b], n, o => o ++ (stepW wd n (pieceL b true)).2
  | b :: c :: r, n, o => if b = 13 ∧ c = 10 then writeS wd r 0 (o ++ [13, 10]) else writeS wd (c :: r) (stepW wd n (pieceL b (startsL (c :: r)))).1 (o ++ (stepW wd n (pieceL b (startsL (c :: r)))).2)
def quoted_Write.f (l0 : List Int) (a1 : Int) : Option (List Int) := if 6 * l0.length + 100 ≤ 140737488355328 ∧ bytesB l0 = true then some (writeS (if a1 < 4 ∨ a1 > 76 then 76 else a1) l0 0 []) else none
theorem piece_f (b : Int) (l : Bool) (h0 : 0 ≤ b) (h1 : b ≤ 255) : ∃ P, quoted_piece.f b l = some P ∧ bytesOf P = pieceL b l := by
  have key : ∀ n : Fin 256, ∀ l : Bool, (match quoted_piece.f ((n.1 : Nat) : Int) l with | some P => decide (bytesOf P = pieceL ((n.1 : Nat) : Int) l) | none => false) = true := by decide +kernel
  have := key ⟨b.toNat, by omega⟩ l
  simp only [Int.toNat_of_nonneg h0] at this
  cases hp : quoted_piece.f b l with
  | none => rw [hp] at this; cases this
  | some P => rw [hp] at this; exact ⟨P, rfl, of_decide_eq_true this⟩
theorem starts_f (l : List Int) : quoted_starts.f l = some (startsL l) := by
  unfold quoted_starts.f
  match l with
  | [] => rfl
  | [b] => simp [startsL]
  | b :: c :: r =>
    have h0 : rd (b :: c :: r) 0 = b := rfl
    have h1 : rd (b :: c :: r) 1 = c := rfl
    rw [h0, h1, if_pos (by simp; omega), if_pos (by simp; omega)]
    by_cases hb : b = 13
    · subst hb
      rw [if_pos rfl, if_pos (by simp; omega)]
      by_cases hc : c = 10
      · subst hc; rfl
      · have : (c == 10) = false := beq_eq_false_iff_ne.2 hc
        rw [this]
        simp [startsL, hc]
    · rw [if_neg hb]
      simp [startsL, hb]
theorem pieceL_len (b : Int) (l : Bool) : 1 ≤ (pieceL b l).length ∧ (pieceL b l).length ≤ 3 := by unfold pieceL; split <;> simp
theorem starts_calls {w W : World} {A : Option Addr} {m c : Nat} {r : List Int} {s : Bool} (hB : Aside0 (Below w.heap.size w W)) (hR : Aside0 (ReadsOf (Value.int .u8) (0 : Int) w A m r)) (hm : Aside0 (r.length = m)) (hc : Aside0 (m ≤ c)) (hs : Aside0 (startsL r = s)) :
    Calls Try.prog 29 #[.slice A m c] W fun e W' => e = .returned (.bool s) ∧ Drawn0 W W' := by
  have h1 := hm.out
  subst h1
  exact quoted_starts.calls A c r s W (Kd.C_of_reads (d := (0 : Int)) (h1 := fun _ => rfl) (hR.out.below hB.out)) hc.out (by rw [starts_f, hs.out])
theorem lit_two (W : World) (x y : Int) : ReadsOf (Value.int .u8) (0 : Int) (W.alloc (.cells #[.int .u8 x, .int .u8 y] 5)) (some ⟨W.heap.size, 0, none⟩) 2 [x, y] := by
  refine ⟨rfl, by omega, fun _ => ⟨_, rfl, fun j hj => ?_⟩⟩
  have hA : (⟨W.heap.size, 0, none⟩ : Addr).add j = ⟨W.heap.size, 0 + j, none⟩ := Addr.add_mid W.heap.size 0 j
  rw [hA, Nat.zero_add, blk_cell (heap_alloc_new W _)]
  have : j = 0 ∨ j = 1 := by omega
  rcases this with rfl | rfl <;> rfl
/-- what holds at the head of the loop. -/
def InvW (wd : Int) (R rest o : List Int) (n : Int) : Prop := writeS wd rest n o = R ∧ 0 ≤ n ∧ n ≤ 80 ∧ o.length + 6 * rest.length ≤ 140737488355228 ∧ bytesB rest = true
theorem writeS_starts (wd n : Int) (r o : List Int) : writeS wd (13 :: 10 :: r) n o = writeS wd r 0 (o ++ [13, 10]) := by simp [writeS]
theorem startsL_inv {l : List Int} (h : startsL l = true) : ∃ r, l = 13 :: 10 :: r := by
  unfold startsL at h
  split at h
  · exact ⟨_, rfl⟩
  · cases h
theorem writeS_other (wd n b : Int) (r o : List Int) (h : startsL (b :: r) = false) : writeS wd (b :: r) n o = writeS wd r (stepW wd n (pieceL b (r.isEmpty || startsL r))).1 (o ++ (stepW wd n (pieceL b (r.isEmpty || startsL r))).2) := by
  match r with
  | [] => simp [writeS]
  | c :: r =>
    have : ¬ (b = 13 ∧ c = 10) := by
      rintro ⟨rfl, rfl⟩
      simp [startsL] at h
    simp [writeS, this]
theorem invW_starts {wd : Int} {R r o : List Int} {n : Int} (h : InvW wd R (13 :: 10 :: r) o n) : InvW wd R r (o ++ [13, 10]) 0 := by
  obtain ⟨h1, h2, h3, h4, h5⟩ := h
  rw [writeS_starts] at h1
  refine ⟨h1, by omega, by omega, by simp at h4 ⊢; omega, ?_⟩
  simp [bytesB] at h5 ⊢
  exact h5
theorem bytesB_tail {b : Int} {r : List Int} (h : bytesB (b :: r) = true) : (0 ≤ b ∧ b ≤ 255) ∧ bytesB r = true := by
  simp [bytesB] at h ⊢
  exact h
/-- a piece: the next head, in both cases. -/
theorem invW_piece {wd : Int} {R r o : List Int} {n b : Int} {P : ByteArray} {s : Bool} (h : InvW wd R (b :: r) o n) (hw : 4 ≤ wd ∧ wd ≤ 76) (hs : startsL (b :: r) = false) (hl : (r.isEmpty || startsL r) = s) (hP : bytesOf P = pieceL b s) :
    (wd ≤ n + (P.size : Int) → InvW wd R r (o ++ bytesOf ⟨#[61, 13, 10]⟩ ++ bytesOf P) (P.size : Int)) ∧ (¬ wd ≤ n + (P.size : Int) → InvW wd R r (o ++ bytesOf P) (n + (P.size : Int))) ∧ (o.length + (⟨#[61, 13, 10]⟩ : ByteArray).size ≤ 140737488355328 ∧ (o ++ bytesOf ⟨#[61, 13, 10]⟩).length + P.size ≤ 140737488355328 ∧ o.length + P.size ≤ 140737488355328) ∧ P.size ≤ 3 := by
  obtain ⟨h1, h2, h3, h4, h5⟩ := h
  obtain ⟨hb, h6⟩ := bytesB_tail h5
  rw [writeS_other _ _ _ _ _ hs, hl, ← hP] at h1
  have hsz : (bytesOf P).length = P.size := bytesOf_length P
  have hp3 := (pieceL_len b s).2
  rw [← hP, hsz] at hp3
  have e3 : bytesOf ⟨#[61, 13, 10]⟩ = [61, 13, 10] := by decide +kernel
  have e4 : (⟨#[61, 13, 10]⟩ : ByteArray).size = 3 := rfl
  simp only [List.length_cons] at h4
  unfold stepW at h1
  rw [hsz] at h1
  refine ⟨fun hg => ?_, fun hg => ?_, ⟨by rw [e4]; omega, by rw [e3, List.length_append]; simp; omega, by omega⟩, hp3⟩
  · rw [if_pos hg] at h1
    refine ⟨by rw [e3, List.append_assoc]; exact h1, by omega, by omega, by rw [e3, List.length_append, List.length_append, hsz]; simp; omega, h6⟩
  · rw [if_neg hg] at h1
    refine ⟨h1, by omega, by omega, by rw [List.length_append, hsz]; omega, h6⟩
theorem own_drew {W : World} {base : Nat} {e : TypeId} {size n : Nat} {v : Value} {xs : List Value} (h : W.ownsRow base e size v n xs) : W.drew.ownsRow base e size v n xs := h
theorem last_of {r : List Int} {m : Nat} {s : Bool} (h : r.length = m) (hm : 0 < m) (hs : startsL r = s) : (r.isEmpty || startsL r) = s := by
  rw [hs]
  cases r with
  | nil => simp at h; omega
  | cons x r => rfl
def WrapF (x : Int) : Prop := wrap64 x = x
def WrP (w : World) (R : List Int) (e : Ending) (w' : World) : Prop := ∃ v0_ : Value, e = .returned v0_ ∧ Kd.R (Kd.int .u8) 5 w' w.heap.size (fun _ => True) v0_ R ∧ Below w.heap.size w w'
theorem wr_cut (A : Option Addr) (c m : Nat) (rest r : List Int) (w : World) (j : Nat) (hm : rest.length = m) (hj : j ≤ m) (hr : rest.drop j = r) (hc : m ≤ c) (hR : ReadsOf (Value.int .u8) (0 : Int) w A m rest) : ∃ (A2 : Option Addr) (m2 c2 : Nat), m2 + j = m ∧ Aside0 (r.length = m2) ∧ Aside0 (m2 ≤ c2) ∧ Aside0 (ReadsOf (Value.int .u8) (0 : Int) w A2 m2 r) ∧
    Aside0 (∀ W : World, (Instr.slice 22 (.slice A m c) (some (.int .i64 (j : Int))) none none).run Try.prog W = .ok (.slice A2 m2 c2) W) := by
  obtain ⟨i05, hi05, _, hsz5, _⟩ := info_parts info5'
  subst hm
  obtain ⟨A2, hdk, hdR, hdC⟩ := print_drop_of (P := Try.prog) (Value.int .u8) (0 : Int) 22 5 .i64 Try.underlying22 hi05 hsz5 A c rest (j : Int) (by omega) (by omega) hc
  rw [Int.toNat_natCast] at hdk hdR hdC
  have e : (rest.drop j).length = rest.length - j := List.length_drop
  rw [e] at hdk hdR hdC
  subst hr
  exact ⟨A2, rest.length - j, c - j, by omega, ⟨e⟩, ⟨hdC⟩, ⟨hdR w hR⟩, ⟨hdk⟩⟩
set_option maxHeartbeats 8000000 in
set_option maxRecDepth 100000 in
theorem write_walk (A0 : Option Addr) (c0 : Nat) (l : List Int) (a1 wd : Int) (R : List Int) (w : World) (hR : Aside0 (ReadsOf (Value.int .u8) (0 : Int) w A0 l.length l)) (hc0 : Aside0 (l.length ≤ c0)) (hw : Aside0 (wd = if a1 < 4 ∨ a1 > 76 then 76 else a1)) (hI : Aside0 (InvW wd R l [] 0)) :
    Calls Try.prog 14 #[.slice A0 l.length c0, .int .i64 a1] w fun e w' => WrP w R e w' := by
  have HWD := Aside0.mk (show 4 ≤ wd ∧ wd ≤ 76 by have := hw.out; split at this <;> omega)
  obtain ⟨m0, hm0⟩ : ∃ m0, l.length = m0 := ⟨_, rfl⟩
  have HM0 := Aside0.mk hm0
  have hmx : m0 ≤ 140737488355228 := by have := hI.out.2.2.2.1; omega
  rw [hm0] at hR hc0 ⊢
  clear hm0
  have hwc : (decide (a1 < 4) = true ∧ wd = 76) ∨ (decide (a1 < 4) = false ∧ decide (76 < a1) = true ∧ wd = 76) ∨ (decide (a1 < 4) = false ∧ decide (76 < a1) = false ∧ wd = a1) := by
    have := hw.out
    by_cases h1 : a1 < 4
    · exact .inl ⟨decide_eq_true h1, by rw [this, if_pos (.inl h1)]⟩
    · by_cases h2 : 76 < a1
      · exact .inr (.inl ⟨decide_eq_false h1, decide_eq_true h2, by rw [this, if_pos (.inr h2)]⟩)
      · exact .inr (.inr ⟨decide_eq_false h1, decide_eq_false h2, by rw [this, if_neg (by omega)]⟩)
  have HWC := Aside0.mk hwc
  clear hwc hw
  rcases HWC.out with ⟨h1, h2⟩ | ⟨h1, h2, h3⟩ | ⟨h1, h2, h3⟩
  · clear HWC
    have H2 := Aside0.mk h2
    clear h2
    go_enter Try.func14, Try.ntmps14
    go_upto_region 3 with (fail)
    rw [show (76 : Int) = wd from H2.out.symm]
    clear H2 h1
    go_wp2
    go_loopg [0, 5, 6] (m0 + 1) (fun kq v0 v5 v6 w' => ∃ (A : Option Addr) (c m : Nat) (rest : List Int) (u : Value) (o : List Int) (n : Int), v0 = .slice A m c ∧ u = v5 ∧ v6 = .int .i64 n ∧ Aside0 (rest.length = m) ∧ Aside0 (m ≤ c) ∧ Aside0 (ReadsOf (Value.int .u8) (0 : Int) w A m rest) ∧ Aside0 (w'.ownsRow w.heap.size 5 1 u o.length (nums .u8 o)) ∧ Aside0 (Below w.heap.size w w') ∧ Aside0 (InvW wd R rest o n) ∧ m < kq)
    case atStart => exact ⟨A0, c0, m0, l, _, [], 0, rfl, rfl, rfl, HM0, hc0, hR, ⟨own_nil _ _ _ _⟩, ⟨Below.refl _ _⟩, hI, by omega⟩
    case round =>
      clear hR hc0 hI HM0
      obtain ⟨A, c, m, rest, u, o, n, rfl, rfl, rfl, HM, HC, HR, HO, HB, HI, hk⟩ := hrel
      have hm1 : m ≤ 140737488355228 := by have := HM.out; have := HI.out.2.2.2.1; omega
      cases gk with
      | zero => exact absurd hk (by omega)
      | succ k1 =>
      by_cases hp : 0 < m
      · have hpb : decide ((0 : Int) < (m : Int)) = true := decide_eq_true (by omega)
        have hpb2 : decide (0 < m) = true := decide_eq_true hp
        cases hs : startsL rest with
        | true =>
          obtain ⟨r, hrr⟩ := startsL_inv hs
          obtain ⟨A2, m2, c2, hm2, HM2, HC2, HR2, HDK⟩ := wr_cut A c m rest r w 2 HM.out (by have := HM.out; rw [hrr] at this; simp at this; omega) (by rw [hrr]; rfl) HC.out HR.out
          have HN := Aside0.mk (invW_starts (by have := HI.out; rw [hrr] at this; exact this))
          have HS := Aside0.mk hs
          have HLL := Aside0.mk (show (o.length + ([13, 10] : List Int).length) * 1 ≤ 140737488355328 by have := HI.out.2.2.2.1; simp; omega)
          have hdk : ∀ W : World, (Instr.slice 22 (.slice A m c) (some (.int .i64 2)) none none).run Try.prog W = .ok (.slice A2 m2 c2) W := HDK.out
          clear hs hrr HDK HI
          go_wp2_with (first
            | (go_at_call 29; (with_reducible refine (starts_calls HB HR HM HC HS).mono ?_); rintro e w4 ⟨rfl, hd⟩; have HB4 := Aside0.mk (below_step HB.out hd.below); have HO4 := Aside0.mk (Own.own_below HO.out hd.below); have HOA := Aside0.mk (Own.own_below HO4.out (below_alloc (Below.refl w4.heap.size w4) (.cells #[.int .u8 13, .int .u8 10] 5))); have HBA := Aside0.mk (below_step HB4.out (below_alloc (Below.refl w4.heap.size w4) (.cells #[.int .u8 13, .int .u8 10] 5))); clear hd HB HO HB4 HO4)
            | (at_builtin; refine Own.app_rows (W := w4.alloc (.cells #[.int .u8 13, .int .u8 10] 5)) (enc := Value.int .u8) (fun _ => rfl) 0 w.heap.size rfl (.tmp 19) (.tmp 20) 22 5 (.int .u8 0) 1 rfl Try.underlying22 info5' rfl (by decide) u o [13, 10] (some ⟨w4.heap.size, 0, none⟩) 2 2 rfl rfl rfl HOA.out (lit_two w4 13 10) HBA.out.size HLL.out ?_; intro v7 w7 hown hgrow hat; have HO8 := Aside0.mk hown; have HB8 := Aside0.mk (HBA.out.grown hgrow HBA.out.size (own_base HOA.out)); clear hown hgrow hat HOA HBA))
          clear hdk
          go_roundg k1
          case measure => omega
          case rel => exact ⟨A2, c2, m2, r, v7, o ++ [13, 10], 0, rfl, rfl, rfl, HM2, HC2, HR2, HO8, HB8, HN, by omega⟩
        | false =>
          obtain ⟨b, r, hrr⟩ : ∃ b r, rest = b :: r := by
            rcases rest with _ | ⟨b, r⟩
            · have := HM.out; simp at this; omega
            · exact ⟨b, r, rfl⟩
          subst hrr
          obtain ⟨A2, m2, c2, hm2, HM2, HC2, HR2, HDK⟩ := wr_cut A c m (b :: r) r w 1 HM.out (by omega) rfl HC.out HR.out
          have hdk1 : ∀ W : World, (Instr.slice 22 (.slice A m c) (some (.int .i64 1)) none none).run Try.prog W = .ok (.slice A2 m2 c2) W := HDK.out
          obtain ⟨ad, hAe, hx⟩ := ReadsOf.at_ HR.out 0 (by omega) (by omega)
          have hx0 : w.cell? ad = some (.int .u8 b) := by
            have : rdOf (0 : Int) (b :: r) 0 = b := rfl
            rw [this] at hx
            have e : ad.add (0 : Int).toNat = ad := by show ad.add 0 = ad; unfold Addr.add; split <;> simp_all
            rw [e] at hx
            exact hx
          have HX := Aside0.mk hx0
          have HS := Aside0.mk hs
          have hbr := (bytesB_tail HI.out.2.2.2.2).1
          have HBR := Aside0.mk hbr
          clear hx hx0 HDK hbr
          by_cases hm1' : m = 1
          · have hs0 : r = [] := List.eq_nil_of_length_eq_zero (by have := HM2.out; omega)
            obtain ⟨P, hP, hPb⟩ := piece_f b true HBR.out.1 HBR.out.2
            obtain ⟨q1, q2, q3, q4⟩ := invW_piece (s := true) HI.out HWD.out HS.out (by rw [hs0]; rfl) hPb
            have HP := Aside0.mk hP
            have HNX := Aside0.mk (And.intro q1 q2)
            have HLO := Aside0.mk q3
            have HWN := Aside0.mk (show WrapF (n + (P.size : Int)) by have := HI.out.2.1; have := HI.out.2.2.1; unfold WrapF wrap64; omega)
            have HWP := Aside0.mk (show WrapF (P.size : Int) by unfold WrapF wrap64; omega)
            have hn0 : 0 ≤ n := HI.out.2.1
            have hmb : ((m : Int) == 1) = true := beq_iff_eq.2 (by omega)
            have hmb2 : (m == 1) = true := beq_iff_eq.2 hm1'
            obtain rfl := hAe
            clear hs0 hP hPb q1 q2 q3 q4 hs hm1' HBR
            go_wp2_with (go_at_call 29; (with_reducible refine (starts_calls HB HR HM HC HS).mono ?_); rintro e w4 ⟨rfl, hd⟩; have HB5 := Aside0.mk (below_drew (below_step HB.out hd.below)); have HO5 := Aside0.mk (own_drew (Own.own_below HO.out hd.below)); have hx := pw_cell_below HB5.out HX.out; clear hd HB HO)
            refine start_ (n := 13) (S := fun w' => w'.cell? ad = some (.int .u8 b)) (ds := []) #[false, false, false, false, false, false, false, false, false, false, false, false, false] (by kernel_rfl) rfl rfl (hx) (fun hHeld => ?_)
            generalize w4.drew = w5 at HB5 HO5 hx hHeld ⊢
            refine pure_ (i := 0) (N := some 24) (v := ?_) (a' := ?_) #[true, false, false, false, false, false, false, false, false, false, false, false, false] rfl rfl (by kernel_rfl) (fun _ _ _ h => h) (Or.inl ⟨by rfl, ?_⟩) ?_ ?_
            rotate_left
            · intro w'
              go_simp
              with_reducible rfl
            rotate_left
            · simp only [Act.put, List.setIfInBounds_toArray, List.set_cons_zero, List.set_cons_succ, i64_w, i32_w]
              rfl
            refine pure_ (i := 1) (N := some 25) (v := ?_) (a' := ?_) #[true, true, false, false, false, false, false, false, false, false, false, false, false] rfl rfl (by kernel_rfl) (fun _ _ _ h => h) (Or.inl ⟨by rfl, ?_⟩) ?_ ?_
            rotate_left
            · intro w'
              go_simp
              with_reducible rfl
            rotate_left
            · simp only [Act.put, List.setIfInBounds_toArray, List.set_cons_zero, List.set_cons_succ, i64_w, i32_w]
              rfl
            refine pure_ (i := 3) (N := some 27) (v := ?_) (a' := ?_) #[true, true, false, true, false, false, false, false, false, false, false, false, false] rfl rfl (by kernel_rfl) (fun _ _ _ h => h) (Or.inl ⟨by rfl, ?_⟩) ?_ ?_
            rotate_left
            · intro w'
              go_simp
              with_reducible rfl
            rotate_left
            · simp only [Act.put, List.setIfInBounds_toArray, List.set_cons_zero, List.set_cons_succ, i64_w, i32_w]
              rfl
            refine pure_ (i := 4) (N := some 28) (v := ?_) (a' := ?_) #[true, true, false, true, true, false, false, false, false, false, false, false, false] rfl rfl (by kernel_rfl) (fun _ _ _ h => h) (Or.inl ⟨by rfl, ?_⟩) ?_ ?_
            rotate_left
            · intro w'
              go_simp
              with_reducible rfl
            rotate_left
            · simp only [Act.put, List.setIfInBounds_toArray, List.set_cons_zero, List.set_cons_succ, i64_w, i32_w]
              rfl
            refine pure_ (i := 5) (N := some 29) (v := ?_) (a' := ?_) #[true, true, false, true, true, true, false, false, false, false, false, false, false] rfl rfl (by kernel_rfl) (fun _ _ _ h => h) (Or.inl ⟨by rfl, ?_⟩) ?_ ?_
            rotate_left
            · intro w'
              go_simp
              with_reducible rfl
            rotate_left
            · simp only [Act.put, List.setIfInBounds_toArray, List.set_cons_zero, List.set_cons_succ, i64_w, i32_w]
              rfl
            refine pure_ (i := 6) (N := some 30) (v := ?_) (a' := ?_) #[true, true, false, true, true, true, true, false, false, false, false, false, false] rfl rfl (by kernel_rfl) (fun _ _ _ h => h) (Or.inl ⟨by rfl, ?_⟩) ?_ ?_
            rotate_left
            · intro w'
              go_simp
              with_reducible rfl
            rotate_left
            · simp only [Act.put, List.setIfInBounds_toArray, List.set_cons_zero, List.set_cons_succ, i64_w, i32_w]
              rfl
            refine pure_ (i := 7) (N := some 31) (v := undef) (a' := ?_) #[true, true, false, true, true, true, true, true, false, false, false, false, false] rfl rfl (by kernel_rfl) (fun _ _ _ h => h) (Or.inr ⟨by rfl, rfl⟩) ?_ ?_
            rotate_left
            · simp only [Act.put, List.setIfInBounds_toArray, List.set_cons_zero, List.set_cons_succ, i64_w, i32_w]
              rfl
            refine pure_ (i := 8) (N := some 32) (v := undef) (a' := ?_) #[true, true, false, true, true, true, true, true, true, false, false, false, false] rfl rfl (by kernel_rfl) (fun _ _ _ h => h) (Or.inr ⟨by rfl, rfl⟩) ?_ ?_
            rotate_left
            · simp only [Act.put, List.setIfInBounds_toArray, List.set_cons_zero, List.set_cons_succ, i64_w, i32_w]
              rfl
            refine pure_ (i := 9) (N := some 33) (v := undef) (a' := ?_) #[true, true, false, true, true, true, true, true, true, true, false, false, false] rfl rfl (by kernel_rfl) (fun _ _ _ h => h) (Or.inr ⟨by rfl, rfl⟩) ?_ ?_
            rotate_left
            · simp only [Act.put, List.setIfInBounds_toArray, List.set_cons_zero, List.set_cons_succ, i64_w, i32_w]
              rfl
            refine pure_ (i := 10) (N := some 34) (v := ?_) (a' := ?_) #[true, true, false, true, true, true, true, true, true, true, true, false, false] rfl rfl (by kernel_rfl) (fun _ _ _ h => h) (Or.inl ⟨by rfl, ?_⟩) ?_ ?_
            rotate_left
            · intro w'
              go_simp
              with_reducible rfl
            rotate_left
            · simp only [Act.put, List.setIfInBounds_toArray, List.set_cons_zero, List.set_cons_succ, i64_w, i32_w]
              rfl
            refine take_ (i := 2) (N := some 26) (v := ?_) (a' := ?_) #[true, true, true, true, true, true, true, true, true, true, true, false, false] rfl rfl (by kernel_rfl) (fun _ _ _ h => h) (Or.inl ⟨by rfl, ?_⟩) hHeld ?_ ?_
            rotate_left
            · intro w' s0
              go_simp
              with_reducible rfl
            rotate_left
            · simp only [Act.put, List.setIfInBounds_toArray, List.set_cons_zero, List.set_cons_succ, i64_w, i32_w]
              rfl
            refine one_ (i := 11) (N := some 35) #[true, true, true, true, true, true, true, true, true, true, true, true, false] rfl rfl (by kernel_rfl) (by decide) (fun K hK => ?_)
            refine goes_ Try.func30 (by kernel_rfl) rfl #[.int .u8 b, .bool true] (by rfl) rfl rfl (by simp only [List.map_toArray, List.map_cons, List.map_nil]; rfl) ?_
            with_reducible refine (quoted_piece.calls b true P _ HP.out).mono ?_
            rintro e w6 ⟨rfl, hb⟩
            refine ⟨_, rfl, ?_⟩
            have HB6 := Aside0.mk (below_step HB5.out hb)
            have HO6 := Aside0.mk (Own.own_below HO5.out hb)
            clear hb HB5 HO5
            refine hK.out _ _ (pw_cell_below HB6.out HX.out) (fun hHeld => ?_)
            clear hK K
            refine norm_ (a' := ?_) ?_ ?_
            rotate_left
            · show Act.put _ (some 35) _ = _
              simp only [Act.put, List.setIfInBounds_toArray, List.set_cons_zero, List.set_cons_succ, i64_w, i32_w]
              rfl
            refine pure_ (i := 12) (N := some 7) (v := ?_) (a' := ?_) #[true, true, true, true, true, true, true, true, true, true, true, true, true] rfl rfl (by kernel_rfl) (fun _ _ _ h => h) (Or.inl ⟨by rfl, ?_⟩) ?_ ?_
            rotate_left
            · intro w'
              go_simp
              with_reducible rfl
            rotate_left
            · simp only [Act.put, List.setIfInBounds_toArray, List.set_cons_zero, List.set_cons_succ, i64_w, i32_w]
              rfl
            refine done_ (by kernel_rfl) ?_
            have hwn : wrap64 (n + (P.size : Int)) = n + (P.size : Int) := HWN.out
            have hwp : wrap64 (P.size : Int) = (P.size : Int) := HWP.out
            clear hx hHeld
            by_cases hge : wd ≤ n + (P.size : Int)
            · have hgb : decide (wd ≤ n + (P.size : Int)) = true := decide_eq_true hge
              have HN := Aside0.mk (HNX.out.1 (by omega))
              clear hge hwn hwp
              have hwn : wrap64 (n + (P.size : Int)) = n + (P.size : Int) := HWN.out
              have hwp : wrap64 (P.size : Int) = (P.size : Int) := HWP.out
              go_wp2_with (first
                | (at_builtin; refine print_append_str (w0 := w) (W := w6) w.heap.size rfl (.tmp 42) (.const (.string ⟨#[61, 13, 10]⟩)) 22 9 5 rfl Try.underlying22 Try.underlying9 info5' u o ⟨#[61, 13, 10]⟩ rfl rfl HO6.out HB6.out HB6.out.size HLO.out.1 ?_; intro v7 w7 hown hb _; have HO7 := Aside0.mk hown; have HB7 := Aside0.mk hb; clear hown hb HO6 HB6)
                | (at_builtin; refine print_append_str (w0 := w) (W := w7) w.heap.size rfl (.tmp 44) (.tmp 45) 22 9 5 rfl Try.underlying22 Try.underlying9 info5' v7 (o ++ bytesOf ⟨#[61, 13, 10]⟩) P rfl rfl HO7.out HB7.out HB7.out.size HLO.out.2.1 ?_; intro v8 w8 hown hb _; have HO8 := Aside0.mk hown; have HB8 := Aside0.mk hb; clear hown hb HO7 HB7))
              clear hwn hwp
              go_roundg k1
              case measure => omega
              case rel => exact ⟨A2, c2, m2, r, v8, o ++ bytesOf ⟨#[61, 13, 10]⟩ ++ bytesOf P, (P.size : Int), rfl, rfl, (by first | rfl | rw [show wrap64 (P.size : Int) = (P.size : Int) from HWP.out]), HM2, HC2, HR2, HO8, HB8, HN, by omega⟩
            · have hgb : decide (wd ≤ n + (P.size : Int)) = false := decide_eq_false hge
              have HN := Aside0.mk (HNX.out.2 (by omega))
              clear hge hwn hwp
              have hwn : wrap64 (n + (P.size : Int)) = n + (P.size : Int) := HWN.out
              have hwp : wrap64 (P.size : Int) = (P.size : Int) := HWP.out
              go_wp2_with (at_builtin; refine print_append_str (w0 := w) (W := w6) w.heap.size rfl (.tmp 44) (.tmp 45) 22 9 5 rfl Try.underlying22 Try.underlying9 info5' u o P rfl rfl HO6.out HB6.out HB6.out.size HLO.out.2.2 ?_; intro v8 w8 hown hb _; have HO8 := Aside0.mk hown; have HB8 := Aside0.mk hb; clear hown hb HO6 HB6)
              clear hwn hwp
              go_roundg k1
              case measure => omega
              case rel => exact ⟨A2, c2, m2, r, v8, o ++ bytesOf P, n + (P.size : Int), rfl, rfl, (by first | rfl | rw [show wrap64 (n + (P.size : Int)) = n + (P.size : Int) from HWN.out]), HM2, HC2, HR2, HO8, HB8, HN, by omega⟩
          · obtain ⟨s, hsr⟩ : ∃ s, startsL r = s := ⟨_, rfl⟩
            have HS2 := Aside0.mk hsr
            obtain ⟨P, hP, hPb⟩ := piece_f b s HBR.out.1 HBR.out.2
            obtain ⟨q1, q2, q3, q4⟩ := invW_piece (s := s) HI.out HWD.out HS.out (last_of HM2.out (by omega) hsr) hPb
            have HP := Aside0.mk hP
            have HNX := Aside0.mk (And.intro q1 q2)
            have HLO := Aside0.mk q3
            have HWN := Aside0.mk (show WrapF (n + (P.size : Int)) by have := HI.out.2.1; have := HI.out.2.2.1; unfold WrapF wrap64; omega)
            have HWP := Aside0.mk (show WrapF (P.size : Int) by unfold WrapF wrap64; omega)
            have hn0 : 0 ≤ n := HI.out.2.1
            have hmb : ((m : Int) == 1) = false := beq_eq_false_iff_ne.2 (by omega)
            have hmb2 : (m == 1) = false := beq_eq_false_iff_ne.2 hm1'
            obtain rfl := hAe
            clear hsr hP hPb q1 q2 q3 q4 hs hm1' HBR
            go_wp2_with (go_at_call 29; (with_reducible refine (starts_calls HB HR HM HC HS).mono ?_); rintro e w4 ⟨rfl, hd⟩; have HB5 := Aside0.mk (below_drew (below_step HB.out hd.below)); have HO5 := Aside0.mk (own_drew (Own.own_below HO.out hd.below)); have hx := pw_cell_below HB5.out HX.out; clear hd HB HO)
            refine start_ (n := 13) (S := fun w' => w'.cell? ad = some (.int .u8 b)) (ds := []) #[false, false, false, false, false, false, false, false, false, false, false, false, false] (by kernel_rfl) rfl rfl (hx) (fun hHeld => ?_)
            generalize w4.drew = w5 at HB5 HO5 hx hHeld ⊢
            refine pure_ (i := 0) (N := some 24) (v := ?_) (a' := ?_) #[true, false, false, false, false, false, false, false, false, false, false, false, false] rfl rfl (by kernel_rfl) (fun _ _ _ h => h) (Or.inl ⟨by rfl, ?_⟩) ?_ ?_
            rotate_left
            · intro w'
              go_simp
              with_reducible rfl
            rotate_left
            · simp only [Act.put, List.setIfInBounds_toArray, List.set_cons_zero, List.set_cons_succ, i64_w, i32_w]
              rfl
            refine pure_ (i := 1) (N := some 25) (v := ?_) (a' := ?_) #[true, true, false, false, false, false, false, false, false, false, false, false, false] rfl rfl (by kernel_rfl) (fun _ _ _ h => h) (Or.inl ⟨by rfl, ?_⟩) ?_ ?_
            rotate_left
            · intro w'
              go_simp
              with_reducible rfl
            rotate_left
            · simp only [Act.put, List.setIfInBounds_toArray, List.set_cons_zero, List.set_cons_succ, i64_w, i32_w]
              rfl
            refine pure_ (i := 3) (N := some 27) (v := ?_) (a' := ?_) #[true, true, false, true, false, false, false, false, false, false, false, false, false] rfl rfl (by kernel_rfl) (fun _ _ _ h => h) (Or.inl ⟨by rfl, ?_⟩) ?_ ?_
            rotate_left
            · intro w'
              go_simp
              with_reducible rfl
            rotate_left
            · simp only [Act.put, List.setIfInBounds_toArray, List.set_cons_zero, List.set_cons_succ, i64_w, i32_w]
              rfl
            refine pure_ (i := 4) (N := some 28) (v := ?_) (a' := ?_) #[true, true, false, true, true, false, false, false, false, false, false, false, false] rfl rfl (by kernel_rfl) (fun _ _ _ h => h) (Or.inl ⟨by rfl, ?_⟩) ?_ ?_
            rotate_left
            · intro w'
              go_simp
              with_reducible rfl
            rotate_left
            · simp only [Act.put, List.setIfInBounds_toArray, List.set_cons_zero, List.set_cons_succ, i64_w, i32_w]
              rfl
            refine pure_ (i := 5) (N := some 29) (v := ?_) (a' := ?_) #[true, true, false, true, true, true, false, false, false, false, false, false, false] rfl rfl (by kernel_rfl) (fun _ _ _ h => h) (Or.inl ⟨by rfl, ?_⟩) ?_ ?_
            rotate_left
            · intro w'
              go_simp
              with_reducible rfl
            rotate_left
            · simp only [Act.put, List.setIfInBounds_toArray, List.set_cons_zero, List.set_cons_succ, i64_w, i32_w]
              rfl
            refine pure_ (i := 6) (N := some 30) (v := ?_) (a' := ?_) #[true, true, false, true, true, true, true, false, false, false, false, false, false] rfl rfl (by kernel_rfl) (fun _ _ _ h => h) (Or.inl ⟨by rfl, ?_⟩) ?_ ?_
            rotate_left
            · intro w'
              go_simp
              with_reducible rfl
            rotate_left
            · simp only [Act.put, List.setIfInBounds_toArray, List.set_cons_zero, List.set_cons_succ, i64_w, i32_w]
              rfl
            refine pure_ (i := 7) (N := some 31) (v := ?_) (a' := ?_) #[true, true, false, true, true, true, true, true, false, false, false, false, false] rfl rfl (by kernel_rfl) (fun _ _ _ h => h) (Or.inl ⟨by rfl, ?_⟩) ?_ ?_
            rotate_left
            · intro w'
              go_simp
              with_reducible rfl
            rotate_left
            · simp only [Act.put, List.setIfInBounds_toArray, List.set_cons_zero, List.set_cons_succ, i64_w, i32_w]
              rfl
            refine pure_ (i := 8) (N := some 32) (v := ?_) (a' := ?_) #[true, true, false, true, true, true, true, true, true, false, false, false, false] rfl rfl (by kernel_rfl) (fun _ _ _ h => h) (Or.inl ⟨by rfl, ?_⟩) ?_ ?_
            rotate_left
            · intro w'
              go_simp
              with_reducible rfl
            rotate_left
            · simp only [Act.put, List.setIfInBounds_toArray, List.set_cons_zero, List.set_cons_succ, i64_w, i32_w]
              rfl
            refine take_ (i := 2) (N := some 26) (v := ?_) (a' := ?_) #[true, true, true, true, true, true, true, true, true, false, false, false, false] rfl rfl (by kernel_rfl) (fun _ _ _ h => h) (Or.inl ⟨by rfl, ?_⟩) hHeld ?_ ?_
            rotate_left
            · intro w' s0
              go_simp
              with_reducible rfl
            rotate_left
            · simp only [Act.put, List.setIfInBounds_toArray, List.set_cons_zero, List.set_cons_succ, i64_w, i32_w]
              rfl
            refine one_ (i := 9) (N := some 33) #[true, true, true, true, true, true, true, true, true, true, false, false, false] rfl rfl (by kernel_rfl) (by decide) (fun K hK => ?_)
            refine goes_ Try.func29 (by kernel_rfl) rfl #[.slice A2 m2 c2] (by rfl) rfl rfl (by simp only [List.map_toArray, List.map_cons, List.map_nil]; rfl) ?_
            with_reducible refine (starts_calls HB5 HR2 HM2 HC2 HS2).mono ?_
            rintro e w7 ⟨rfl, hd⟩
            refine ⟨_, rfl, ?_⟩
            have HB8 := Aside0.mk (below_step HB5.out hd.below)
            have HO8 := Aside0.mk (Own.own_below HO5.out hd.below)
            clear hd HB5 HO5
            have HB5 := HB8
            have HO5 := HO8
            clear HB8 HO8
            refine hK.out _ _ (pw_cell_below HB5.out HX.out) (fun hHeld => ?_)
            clear hK K
            refine norm_ (a' := ?_) ?_ ?_
            rotate_left
            · show Act.put _ (some 33) _ = _
              simp only [Act.put, List.setIfInBounds_toArray, List.set_cons_zero, List.set_cons_succ, i64_w, i32_w]
              rfl
            refine pure_ (i := 10) (N := some 34) (v := ?_) (a' := ?_) #[true, true, true, true, true, true, true, true, true, true, true, false, false] rfl rfl (by kernel_rfl) (fun _ _ _ h => h) (Or.inl ⟨by rfl, ?_⟩) ?_ ?_
            rotate_left
            · intro w'
              go_simp
              with_reducible rfl
            rotate_left
            · simp only [Act.put, List.setIfInBounds_toArray, List.set_cons_zero, List.set_cons_succ, i64_w, i32_w]
              rfl
            refine one_ (i := 11) (N := some 35) #[true, true, true, true, true, true, true, true, true, true, true, true, false] rfl rfl (by kernel_rfl) (by decide) (fun K hK => ?_)
            refine goes_ Try.func30 (by kernel_rfl) rfl #[.int .u8 b, .bool s] (by rfl) rfl rfl (by simp only [List.map_toArray, List.map_cons, List.map_nil]; rfl) ?_
            with_reducible refine (quoted_piece.calls b s P _ HP.out).mono ?_
            rintro e w6 ⟨rfl, hb⟩
            refine ⟨_, rfl, ?_⟩
            have HB6 := Aside0.mk (below_step HB5.out hb)
            have HO6 := Aside0.mk (Own.own_below HO5.out hb)
            clear hb HB5 HO5
            refine hK.out _ _ (pw_cell_below HB6.out HX.out) (fun hHeld => ?_)
            clear hK K
            refine norm_ (a' := ?_) ?_ ?_
            rotate_left
            · show Act.put _ (some 35) _ = _
              simp only [Act.put, List.setIfInBounds_toArray, List.set_cons_zero, List.set_cons_succ, i64_w, i32_w]
              rfl
            refine pure_ (i := 12) (N := some 7) (v := ?_) (a' := ?_) #[true, true, true, true, true, true, true, true, true, true, true, true, true] rfl rfl (by kernel_rfl) (fun _ _ _ h => h) (Or.inl ⟨by rfl, ?_⟩) ?_ ?_
            rotate_left
            · intro w'
              go_simp
              with_reducible rfl
            rotate_left
            · simp only [Act.put, List.setIfInBounds_toArray, List.set_cons_zero, List.set_cons_succ, i64_w, i32_w]
              rfl
            refine done_ (by kernel_rfl) ?_
            have hwn : wrap64 (n + (P.size : Int)) = n + (P.size : Int) := HWN.out
            have hwp : wrap64 (P.size : Int) = (P.size : Int) := HWP.out
            clear hx hHeld
            by_cases hge : wd ≤ n + (P.size : Int)
            · have hgb : decide (wd ≤ n + (P.size : Int)) = true := decide_eq_true hge
              have HN := Aside0.mk (HNX.out.1 (by omega))
              clear hge hwn hwp
              have hwn : wrap64 (n + (P.size : Int)) = n + (P.size : Int) := HWN.out
              have hwp : wrap64 (P.size : Int) = (P.size : Int) := HWP.out
              go_wp2_with (first
                | (at_builtin; refine print_append_str (w0 := w) (W := w6) w.heap.size rfl (.tmp 42) (.const (.string ⟨#[61, 13, 10]⟩)) 22 9 5 rfl Try.underlying22 Try.underlying9 info5' u o ⟨#[61, 13, 10]⟩ rfl rfl HO6.out HB6.out HB6.out.size HLO.out.1 ?_; intro v7 w7 hown hb _; have HO7 := Aside0.mk hown; have HB7 := Aside0.mk hb; clear hown hb HO6 HB6)
                | (at_builtin; refine print_append_str (w0 := w) (W := w7) w.heap.size rfl (.tmp 44) (.tmp 45) 22 9 5 rfl Try.underlying22 Try.underlying9 info5' v7 (o ++ bytesOf ⟨#[61, 13, 10]⟩) P rfl rfl HO7.out HB7.out HB7.out.size HLO.out.2.1 ?_; intro v8 w8 hown hb _; have HO8 := Aside0.mk hown; have HB8 := Aside0.mk hb; clear hown hb HO7 HB7))
              clear hwn hwp
              go_roundg k1
              case measure => omega
              case rel => exact ⟨A2, c2, m2, r, v8, o ++ bytesOf ⟨#[61, 13, 10]⟩ ++ bytesOf P, (P.size : Int), rfl, rfl, (by first | rfl | rw [show wrap64 (P.size : Int) = (P.size : Int) from HWP.out]), HM2, HC2, HR2, HO8, HB8, HN, by omega⟩
            · have hgb : decide (wd ≤ n + (P.size : Int)) = false := decide_eq_false hge
              have HN := Aside0.mk (HNX.out.2 (by omega))
              clear hge hwn hwp
              have hwn : wrap64 (n + (P.size : Int)) = n + (P.size : Int) := HWN.out
              have hwp : wrap64 (P.size : Int) = (P.size : Int) := HWP.out
              go_wp2_with (at_builtin; refine print_append_str (w0 := w) (W := w6) w.heap.size rfl (.tmp 44) (.tmp 45) 22 9 5 rfl Try.underlying22 Try.underlying9 info5' u o P rfl rfl HO6.out HB6.out HB6.out.size HLO.out.2.2 ?_; intro v8 w8 hown hb _; have HO8 := Aside0.mk hown; have HB8 := Aside0.mk hb; clear hown hb HO6 HB6)
              clear hwn hwp
              go_roundg k1
              case measure => omega
              case rel => exact ⟨A2, c2, m2, r, v8, o ++ bytesOf P, n + (P.size : Int), rfl, rfl, (by first | rfl | rw [show wrap64 (n + (P.size : Int)) = n + (P.size : Int) from HWN.out]), HM2, HC2, HR2, HO8, HB8, HN, by omega⟩
      · have hpb : decide ((0 : Int) < (m : Int)) = false := decide_eq_false (by omega)
        have hpb2 : decide (0 < m) = false := decide_eq_false hp
        have HE := Aside0.mk (show o = R by
          have h1 := HI.out.1
          have h2 := HM.out
          obtain rfl : rest = [] := List.eq_nil_of_length_eq_zero (by omega)
          exact h1)
        obtain ⟨A5, c5, hu⟩ := own_slice HO.out
        subst hu
        clear HI
        go_wp2
        go_ret
        exact ⟨_, rfl, Kd.R_of_own (enc := Value.int .u8) (h1 := fun _ => rfl) (by rw [← HE.out]; exact HO.out) (fun _ _ => trivial), HB.out⟩
  · clear HWC
    have H3 := Aside0.mk h3
    clear h3
    go_enter Try.func14, Try.ntmps14
    go_upto_region 3 with (fail)
    rw [show (76 : Int) = wd from H3.out.symm]
    clear H3 h1 h2
    go_wp2
    go_loopg [0, 5, 6] (m0 + 1) (fun kq v0 v5 v6 w' => ∃ (A : Option Addr) (c m : Nat) (rest : List Int) (u : Value) (o : List Int) (n : Int), v0 = .slice A m c ∧ u = v5 ∧ v6 = .int .i64 n ∧ Aside0 (rest.length = m) ∧ Aside0 (m ≤ c) ∧ Aside0 (ReadsOf (Value.int .u8) (0 : Int) w A m rest) ∧ Aside0 (w'.ownsRow w.heap.size 5 1 u o.length (nums .u8 o)) ∧ Aside0 (Below w.heap.size w w') ∧ Aside0 (InvW wd R rest o n) ∧ m < kq)
    case atStart => exact ⟨A0, c0, m0, l, _, [], 0, rfl, rfl, rfl, HM0, hc0, hR, ⟨own_nil _ _ _ _⟩, ⟨Below.refl _ _⟩, hI, by omega⟩
    case round =>
      clear hR hc0 hI HM0
      obtain ⟨A, c, m, rest, u, o, n, rfl, rfl, rfl, HM, HC, HR, HO, HB, HI, hk⟩ := hrel
      have hm1 : m ≤ 140737488355228 := by have := HM.out; have := HI.out.2.2.2.1; omega
      cases gk with
      | zero => exact absurd hk (by omega)
      | succ k1 =>
      by_cases hp : 0 < m
      · have hpb : decide ((0 : Int) < (m : Int)) = true := decide_eq_true (by omega)
        have hpb2 : decide (0 < m) = true := decide_eq_true hp
        cases hs : startsL rest with
        | true =>
          obtain ⟨r, hrr⟩ := startsL_inv hs
          obtain ⟨A2, m2, c2, hm2, HM2, HC2, HR2, HDK⟩ := wr_cut A c m rest r w 2 HM.out (by have := HM.out; rw [hrr] at this; simp at this; omega) (by rw [hrr]; rfl) HC.out HR.out
          have HN := Aside0.mk (invW_starts (by have := HI.out; rw [hrr] at this; exact this))
          have HS := Aside0.mk hs
          have HLL := Aside0.mk (show (o.length + ([13, 10] : List Int).length) * 1 ≤ 140737488355328 by have := HI.out.2.2.2.1; simp; omega)
          have hdk : ∀ W : World, (Instr.slice 22 (.slice A m c) (some (.int .i64 2)) none none).run Try.prog W = .ok (.slice A2 m2 c2) W := HDK.out
          clear hs hrr HDK HI
          go_wp2_with (first
            | (go_at_call 29; (with_reducible refine (starts_calls HB HR HM HC HS).mono ?_); rintro e w4 ⟨rfl, hd⟩; have HB4 := Aside0.mk (below_step HB.out hd.below); have HO4 := Aside0.mk (Own.own_below HO.out hd.below); have HOA := Aside0.mk (Own.own_below HO4.out (below_alloc (Below.refl w4.heap.size w4) (.cells #[.int .u8 13, .int .u8 10] 5))); have HBA := Aside0.mk (below_step HB4.out (below_alloc (Below.refl w4.heap.size w4) (.cells #[.int .u8 13, .int .u8 10] 5))); clear hd HB HO HB4 HO4)
            | (at_builtin; refine Own.app_rows (W := w4.alloc (.cells #[.int .u8 13, .int .u8 10] 5)) (enc := Value.int .u8) (fun _ => rfl) 0 w.heap.size rfl (.tmp 19) (.tmp 20) 22 5 (.int .u8 0) 1 rfl Try.underlying22 info5' rfl (by decide) u o [13, 10] (some ⟨w4.heap.size, 0, none⟩) 2 2 rfl rfl rfl HOA.out (lit_two w4 13 10) HBA.out.size HLL.out ?_; intro v7 w7 hown hgrow hat; have HO8 := Aside0.mk hown; have HB8 := Aside0.mk (HBA.out.grown hgrow HBA.out.size (own_base HOA.out)); clear hown hgrow hat HOA HBA))
          clear hdk
          go_roundg k1
          case measure => omega
          case rel => exact ⟨A2, c2, m2, r, v7, o ++ [13, 10], 0, rfl, rfl, rfl, HM2, HC2, HR2, HO8, HB8, HN, by omega⟩
        | false =>
          obtain ⟨b, r, hrr⟩ : ∃ b r, rest = b :: r := by
            rcases rest with _ | ⟨b, r⟩
            · have := HM.out; simp at this; omega
            · exact ⟨b, r, rfl⟩
          subst hrr
          obtain ⟨A2, m2, c2, hm2, HM2, HC2, HR2, HDK⟩ := wr_cut A c m (b :: r) r w 1 HM.out (by omega) rfl HC.out HR.out
          have hdk1 : ∀ W : World, (Instr.slice 22 (.slice A m c) (some (.int .i64 1)) none none).run Try.prog W = .ok (.slice A2 m2 c2) W := HDK.out
          obtain ⟨ad, hAe, hx⟩ := ReadsOf.at_ HR.out 0 (by omega) (by omega)
          have hx0 : w.cell? ad = some (.int .u8 b) := by
            have : rdOf (0 : Int) (b :: r) 0 = b := rfl
            rw [this] at hx
            have e : ad.add (0 : Int).toNat = ad := by show ad.add 0 = ad; unfold Addr.add; split <;> simp_all
            rw [e] at hx
            exact hx
          have HX := Aside0.mk hx0
          have HS := Aside0.mk hs
          have hbr := (bytesB_tail HI.out.2.2.2.2).1
          have HBR := Aside0.mk hbr
          clear hx hx0 HDK hbr
          by_cases hm1' : m = 1
          · have hs0 : r = [] := List.eq_nil_of_length_eq_zero (by have := HM2.out; omega)
            obtain ⟨P, hP, hPb⟩ := piece_f b true HBR.out.1 HBR.out.2
            obtain ⟨q1, q2, q3, q4⟩ := invW_piece (s := true) HI.out HWD.out HS.out (by rw [hs0]; rfl) hPb
            have HP := Aside0.mk hP
            have HNX := Aside0.mk (And.intro q1 q2)
            have HLO := Aside0.mk q3
            have HWN := Aside0.mk (show WrapF (n + (P.size : Int)) by have := HI.out.2.1; have := HI.out.2.2.1; unfold WrapF wrap64; omega)
            have HWP := Aside0.mk (show WrapF (P.size : Int) by unfold WrapF wrap64; omega)
            have hn0 : 0 ≤ n := HI.out.2.1
            have hmb : ((m : Int) == 1) = true := beq_iff_eq.2 (by omega)
            have hmb2 : (m == 1) = true := beq_iff_eq.2 hm1'
            obtain rfl := hAe
            clear hs0 hP hPb q1 q2 q3 q4 hs hm1' HBR
            go_wp2_with (go_at_call 29; (with_reducible refine (starts_calls HB HR HM HC HS).mono ?_); rintro e w4 ⟨rfl, hd⟩; have HB5 := Aside0.mk (below_drew (below_step HB.out hd.below)); have HO5 := Aside0.mk (own_drew (Own.own_below HO.out hd.below)); have hx := pw_cell_below HB5.out HX.out; clear hd HB HO)
            refine start_ (n := 13) (S := fun w' => w'.cell? ad = some (.int .u8 b)) (ds := []) #[false, false, false, false, false, false, false, false, false, false, false, false, false] (by kernel_rfl) rfl rfl (hx) (fun hHeld => ?_)
            generalize w4.drew = w5 at HB5 HO5 hx hHeld ⊢
            refine pure_ (i := 0) (N := some 24) (v := ?_) (a' := ?_) #[true, false, false, false, false, false, false, false, false, false, false, false, false] rfl rfl (by kernel_rfl) (fun _ _ _ h => h) (Or.inl ⟨by rfl, ?_⟩) ?_ ?_
            rotate_left
            · intro w'
              go_simp
              with_reducible rfl
            rotate_left
            · simp only [Act.put, List.setIfInBounds_toArray, List.set_cons_zero, List.set_cons_succ, i64_w, i32_w]
              rfl
            refine pure_ (i := 1) (N := some 25) (v := ?_) (a' := ?_) #[true, true, false, false, false, false, false, false, false, false, false, false, false] rfl rfl (by kernel_rfl) (fun _ _ _ h => h) (Or.inl ⟨by rfl, ?_⟩) ?_ ?_
            rotate_left
            · intro w'
              go_simp
              with_reducible rfl
            rotate_left
            · simp only [Act.put, List.setIfInBounds_toArray, List.set_cons_zero, List.set_cons_succ, i64_w, i32_w]
              rfl
            refine pure_ (i := 3) (N := some 27) (v := ?_) (a' := ?_) #[true, true, false, true, false, false, false, false, false, false, false, false, false] rfl rfl (by kernel_rfl) (fun _ _ _ h => h) (Or.inl ⟨by rfl, ?_⟩) ?_ ?_
            rotate_left
            · intro w'
              go_simp
              with_reducible rfl
            rotate_left
            · simp only [Act.put, List.setIfInBounds_toArray, List.set_cons_zero, List.set_cons_succ, i64_w, i32_w]
              rfl
            refine pure_ (i := 4) (N := some 28) (v := ?_) (a' := ?_) #[true, true, false, true, true, false, false, false, false, false, false, false, false] rfl rfl (by kernel_rfl) (fun _ _ _ h => h) (Or.inl ⟨by rfl, ?_⟩) ?_ ?_
            rotate_left
            · intro w'
              go_simp
              with_reducible rfl
            rotate_left
            · simp only [Act.put, List.setIfInBounds_toArray, List.set_cons_zero, List.set_cons_succ, i64_w, i32_w]
              rfl
            refine pure_ (i := 5) (N := some 29) (v := ?_) (a' := ?_) #[true, true, false, true, true, true, false, false, false, false, false, false, false] rfl rfl (by kernel_rfl) (fun _ _ _ h => h) (Or.inl ⟨by rfl, ?_⟩) ?_ ?_
            rotate_left
            · intro w'
              go_simp
              with_reducible rfl
            rotate_left
            · simp only [Act.put, List.setIfInBounds_toArray, List.set_cons_zero, List.set_cons_succ, i64_w, i32_w]
              rfl
            refine pure_ (i := 6) (N := some 30) (v := ?_) (a' := ?_) #[true, true, false, true, true, true, true, false, false, false, false, false, false] rfl rfl (by kernel_rfl) (fun _ _ _ h => h) (Or.inl ⟨by rfl, ?_⟩) ?_ ?_
            rotate_left
            · intro w'
              go_simp
              with_reducible rfl
            rotate_left
            · simp only [Act.put, List.setIfInBounds_toArray, List.set_cons_zero, List.set_cons_succ, i64_w, i32_w]
              rfl
            refine pure_ (i := 7) (N := some 31) (v := undef) (a' := ?_) #[true, true, false, true, true, true, true, true, false, false, false, false, false] rfl rfl (by kernel_rfl) (fun _ _ _ h => h) (Or.inr ⟨by rfl, rfl⟩) ?_ ?_
            rotate_left
            · simp only [Act.put, List.setIfInBounds_toArray, List.set_cons_zero, List.set_cons_succ, i64_w, i32_w]
              rfl
            refine pure_ (i := 8) (N := some 32) (v := undef) (a' := ?_) #[true, true, false, true, true, true, true, true, true, false, false, false, false] rfl rfl (by kernel_rfl) (fun _ _ _ h => h) (Or.inr ⟨by rfl, rfl⟩) ?_ ?_
            rotate_left
            · simp only [Act.put, List.setIfInBounds_toArray, List.set_cons_zero, List.set_cons_succ, i64_w, i32_w]
              rfl
            refine pure_ (i := 9) (N := some 33) (v := undef) (a' := ?_) #[true, true, false, true, true, true, true, true, true, true, false, false, false] rfl rfl (by kernel_rfl) (fun _ _ _ h => h) (Or.inr ⟨by rfl, rfl⟩) ?_ ?_
            rotate_left
            · simp only [Act.put, List.setIfInBounds_toArray, List.set_cons_zero, List.set_cons_succ, i64_w, i32_w]
              rfl
            refine pure_ (i := 10) (N := some 34) (v := ?_) (a' := ?_) #[true, true, false, true, true, true, true, true, true, true, true, false, false] rfl rfl (by kernel_rfl) (fun _ _ _ h => h) (Or.inl ⟨by rfl, ?_⟩) ?_ ?_
            rotate_left
            · intro w'
              go_simp
              with_reducible rfl
            rotate_left
            · simp only [Act.put, List.setIfInBounds_toArray, List.set_cons_zero, List.set_cons_succ, i64_w, i32_w]
              rfl
            refine take_ (i := 2) (N := some 26) (v := ?_) (a' := ?_) #[true, true, true, true, true, true, true, true, true, true, true, false, false] rfl rfl (by kernel_rfl) (fun _ _ _ h => h) (Or.inl ⟨by rfl, ?_⟩) hHeld ?_ ?_
            rotate_left
            · intro w' s0
              go_simp
              with_reducible rfl
            rotate_left
            · simp only [Act.put, List.setIfInBounds_toArray, List.set_cons_zero, List.set_cons_succ, i64_w, i32_w]
              rfl
            refine one_ (i := 11) (N := some 35) #[true, true, true, true, true, true, true, true, true, true, true, true, false] rfl rfl (by kernel_rfl) (by decide) (fun K hK => ?_)
            refine goes_ Try.func30 (by kernel_rfl) rfl #[.int .u8 b, .bool true] (by rfl) rfl rfl (by simp only [List.map_toArray, List.map_cons, List.map_nil]; rfl) ?_
            with_reducible refine (quoted_piece.calls b true P _ HP.out).mono ?_
            rintro e w6 ⟨rfl, hb⟩
            refine ⟨_, rfl, ?_⟩
            have HB6 := Aside0.mk (below_step HB5.out hb)
            have HO6 := Aside0.mk (Own.own_below HO5.out hb)
            clear hb HB5 HO5
            refine hK.out _ _ (pw_cell_below HB6.out HX.out) (fun hHeld => ?_)
            clear hK K
            refine norm_ (a' := ?_) ?_ ?_
            rotate_left
            · show Act.put _ (some 35) _ = _
              simp only [Act.put, List.setIfInBounds_toArray, List.set_cons_zero, List.set_cons_succ, i64_w, i32_w]
              rfl
            refine pure_ (i := 12) (N := some 7) (v := ?_) (a' := ?_) #[true, true, true, true, true, true, true, true, true, true, true, true, true] rfl rfl (by kernel_rfl) (fun _ _ _ h => h) (Or.inl ⟨by rfl, ?_⟩) ?_ ?_
            rotate_left
            · intro w'
              go_simp
              with_reducible rfl
            rotate_left
            · simp only [Act.put, List.setIfInBounds_toArray, List.set_cons_zero, List.set_cons_succ, i64_w, i32_w]
              rfl
            refine done_ (by kernel_rfl) ?_
            have hwn : wrap64 (n + (P.size : Int)) = n + (P.size : Int) := HWN.out
            have hwp : wrap64 (P.size : Int) = (P.size : Int) := HWP.out
            clear hx hHeld
            by_cases hge : wd ≤ n + (P.size : Int)
            · have hgb : decide (wd ≤ n + (P.size : Int)) = true := decide_eq_true hge
              have HN := Aside0.mk (HNX.out.1 (by omega))
              clear hge hwn hwp
              have hwn : wrap64 (n + (P.size : Int)) = n + (P.size : Int) := HWN.out
              have hwp : wrap64 (P.size : Int) = (P.size : Int) := HWP.out
              go_wp2_with (first
                | (at_builtin; refine print_append_str (w0 := w) (W := w6) w.heap.size rfl (.tmp 42) (.const (.string ⟨#[61, 13, 10]⟩)) 22 9 5 rfl Try.underlying22 Try.underlying9 info5' u o ⟨#[61, 13, 10]⟩ rfl rfl HO6.out HB6.out HB6.out.size HLO.out.1 ?_; intro v7 w7 hown hb _; have HO7 := Aside0.mk hown; have HB7 := Aside0.mk hb; clear hown hb HO6 HB6)
                | (at_builtin; refine print_append_str (w0 := w) (W := w7) w.heap.size rfl (.tmp 44) (.tmp 45) 22 9 5 rfl Try.underlying22 Try.underlying9 info5' v7 (o ++ bytesOf ⟨#[61, 13, 10]⟩) P rfl rfl HO7.out HB7.out HB7.out.size HLO.out.2.1 ?_; intro v8 w8 hown hb _; have HO8 := Aside0.mk hown; have HB8 := Aside0.mk hb; clear hown hb HO7 HB7))
              clear hwn hwp
              go_roundg k1
              case measure => omega
              case rel => exact ⟨A2, c2, m2, r, v8, o ++ bytesOf ⟨#[61, 13, 10]⟩ ++ bytesOf P, (P.size : Int), rfl, rfl, (by first | rfl | rw [show wrap64 (P.size : Int) = (P.size : Int) from HWP.out]), HM2, HC2, HR2, HO8, HB8, HN, by omega⟩
            · have hgb : decide (wd ≤ n + (P.size : Int)) = false := decide_eq_false hge
              have HN := Aside0.mk (HNX.out.2 (by omega))
              clear hge hwn hwp
              have hwn : wrap64 (n + (P.size : Int)) = n + (P.size : Int) := HWN.out
              have hwp : wrap64 (P.size : Int) = (P.size : Int) := HWP.out
              go_wp2_with (at_builtin; refine print_append_str (w0 := w) (W := w6) w.heap.size rfl (.tmp 44) (.tmp 45) 22 9 5 rfl Try.underlying22 Try.underlying9 info5' u o P rfl rfl HO6.out HB6.out HB6.out.size HLO.out.2.2 ?_; intro v8 w8 hown hb _; have HO8 := Aside0.mk hown; have HB8 := Aside0.mk hb; clear hown hb HO6 HB6)
              clear hwn hwp
              go_roundg k1
              case measure => omega
              case rel => exact ⟨A2, c2, m2, r, v8, o ++ bytesOf P, n + (P.size : Int), rfl, rfl, (by first | rfl | rw [show wrap64 (n + (P.size : Int)) = n + (P.size : Int) from HWN.out]), HM2, HC2, HR2, HO8, HB8, HN, by omega⟩
          · obtain ⟨s, hsr⟩ : ∃ s, startsL r = s := ⟨_, rfl⟩
            have HS2 := Aside0.mk hsr
            obtain ⟨P, hP, hPb⟩ := piece_f b s HBR.out.1 HBR.out.2
            obtain ⟨q1, q2, q3, q4⟩ := invW_piece (s := s) HI.out HWD.out HS.out (last_of HM2.out (by omega) hsr) hPb
            have HP := Aside0.mk hP
            have HNX := Aside0.mk (And.intro q1 q2)
            have HLO := Aside0.mk q3
            have HWN := Aside0.mk (show WrapF (n + (P.size : Int)) by have := HI.out.2.1; have := HI.out.2.2.1; unfold WrapF wrap64; omega)
            have HWP := Aside0.mk (show WrapF (P.size : Int) by unfold WrapF wrap64; omega)
            have hn0 : 0 ≤ n := HI.out.2.1
            have hmb : ((m : Int) == 1) = false := beq_eq_false_iff_ne.2 (by omega)
            have hmb2 : (m == 1) = false := beq_eq_false_iff_ne.2 hm1'
            obtain rfl := hAe
            clear hsr hP hPb q1 q2 q3 q4 hs hm1' HBR
            go_wp2_with (go_at_call 29; (with_reducible refine (starts_calls HB HR HM HC HS).mono ?_); rintro e w4 ⟨rfl, hd⟩; have HB5 := Aside0.mk (below_drew (below_step HB.out hd.below)); have HO5 := Aside0.mk (own_drew (Own.own_below HO.out hd.below)); have hx := pw_cell_below HB5.out HX.out; clear hd HB HO)
            refine start_ (n := 13) (S := fun w' => w'.cell? ad = some (.int .u8 b)) (ds := []) #[false, false, false, false, false, false, false, false, false, false, false, false, false] (by kernel_rfl) rfl rfl (hx) (fun hHeld => ?_)
            generalize w4.drew = w5 at HB5 HO5 hx hHeld ⊢
            refine pure_ (i := 0) (N := some 24) (v := ?_) (a' := ?_) #[true, false, false, false, false, false, false, false, false, false, false, false, false] rfl rfl (by kernel_rfl) (fun _ _ _ h => h) (Or.inl ⟨by rfl, ?_⟩) ?_ ?_
            rotate_left
            · intro w'
              go_simp
              with_reducible rfl
            rotate_left
            · simp only [Act.put, List.setIfInBounds_toArray, List.set_cons_zero, List.set_cons_succ, i64_w, i32_w]
              rfl
            refine pure_ (i := 1) (N := some 25) (v := ?_) (a' := ?_) #[true, true, false, false, false, false, false, false, false, false, false, false, false] rfl rfl (by kernel_rfl) (fun _ _ _ h => h) (Or.inl ⟨by rfl, ?_⟩) ?_ ?_
            rotate_left
            · intro w'
              go_simp
              with_reducible rfl
            rotate_left
            · simp only [Act.put, List.setIfInBounds_toArray, List.set_cons_zero, List.set_cons_succ, i64_w, i32_w]
              rfl
            refine pure_ (i := 3) (N := some 27) (v := ?_) (a' := ?_) #[true, true, false, true, false, false, false, false, false, false, false, false, false] rfl rfl (by kernel_rfl) (fun _ _ _ h => h) (Or.inl ⟨by rfl, ?_⟩) ?_ ?_
            rotate_left
            · intro w'
              go_simp
              with_reducible rfl
            rotate_left
            · simp only [Act.put, List.setIfInBounds_toArray, List.set_cons_zero, List.set_cons_succ, i64_w, i32_w]
              rfl
            refine pure_ (i := 4) (N := some 28) (v := ?_) (a' := ?_) #[true, true, false, true, true, false, false, false, false, false, false, false, false] rfl rfl (by kernel_rfl) (fun _ _ _ h => h) (Or.inl ⟨by rfl, ?_⟩) ?_ ?_
            rotate_left
            · intro w'
              go_simp
              with_reducible rfl
            rotate_left
            · simp only [Act.put, List.setIfInBounds_toArray, List.set_cons_zero, List.set_cons_succ, i64_w, i32_w]
              rfl
            refine pure_ (i := 5) (N := some 29) (v := ?_) (a' := ?_) #[true, true, false, true, true, true, false, false, false, false, false, false, false] rfl rfl (by kernel_rfl) (fun _ _ _ h => h) (Or.inl ⟨by rfl, ?_⟩) ?_ ?_
            rotate_left
            · intro w'
              go_simp
              with_reducible rfl
            rotate_left
            · simp only [Act.put, List.setIfInBounds_toArray, List.set_cons_zero, List.set_cons_succ, i64_w, i32_w]
              rfl
            refine pure_ (i := 6) (N := some 30) (v := ?_) (a' := ?_) #[true, true, false, true, true, true, true, false, false, false, false, false, false] rfl rfl (by kernel_rfl) (fun _ _ _ h => h) (Or.inl ⟨by rfl, ?_⟩) ?_ ?_
            rotate_left
            · intro w'
              go_simp
              with_reducible rfl
            rotate_left
            · simp only [Act.put, List.setIfInBounds_toArray, List.set_cons_zero, List.set_cons_succ, i64_w, i32_w]
              rfl
            refine pure_ (i := 7) (N := some 31) (v := ?_) (a' := ?_) #[true, true, false, true, true, true, true, true, false, false, false, false, false] rfl rfl (by kernel_rfl) (fun _ _ _ h => h) (Or.inl ⟨by rfl, ?_⟩) ?_ ?_
            rotate_left
            · intro w'
              go_simp
              with_reducible rfl
            rotate_left
            · simp only [Act.put, List.setIfInBounds_toArray, List.set_cons_zero, List.set_cons_succ, i64_w, i32_w]
              rfl
            refine pure_ (i := 8) (N := some 32) (v := ?_) (a' := ?_) #[true, true, false, true, true, true, true, true, true, false, false, false, false] rfl rfl (by kernel_rfl) (fun _ _ _ h => h) (Or.inl ⟨by rfl, ?_⟩) ?_ ?_
            rotate_left
            · intro w'
              go_simp
              with_reducible rfl
            rotate_left
            · simp only [Act.put, List.setIfInBounds_toArray, List.set_cons_zero, List.set_cons_succ, i64_w, i32_w]
              rfl
            refine take_ (i := 2) (N := some 26) (v := ?_) (a' := ?_) #[true, true, true, true, true, true, true, true, true, false, false, false, false] rfl rfl (by kernel_rfl) (fun _ _ _ h => h) (Or.inl ⟨by rfl, ?_⟩) hHeld ?_ ?_
            rotate_left
            · intro w' s0
              go_simp
              with_reducible rfl
            rotate_left
            · simp only [Act.put, List.setIfInBounds_toArray, List.set_cons_zero, List.set_cons_succ, i64_w, i32_w]
              rfl
            refine one_ (i := 9) (N := some 33) #[true, true, true, true, true, true, true, true, true, true, false, false, false] rfl rfl (by kernel_rfl) (by decide) (fun K hK => ?_)
            refine goes_ Try.func29 (by kernel_rfl) rfl #[.slice A2 m2 c2] (by rfl) rfl rfl (by simp only [List.map_toArray, List.map_cons, List.map_nil]; rfl) ?_
            with_reducible refine (starts_calls HB5 HR2 HM2 HC2 HS2).mono ?_
            rintro e w7 ⟨rfl, hd⟩
            refine ⟨_, rfl, ?_⟩
            have HB8 := Aside0.mk (below_step HB5.out hd.below)
            have HO8 := Aside0.mk (Own.own_below HO5.out hd.below)
            clear hd HB5 HO5
            have HB5 := HB8
            have HO5 := HO8
            clear HB8 HO8
            refine hK.out _ _ (pw_cell_below HB5.out HX.out) (fun hHeld => ?_)
            clear hK K
            refine norm_ (a' := ?_) ?_ ?_
            rotate_left
            · show Act.put _ (some 33) _ = _
              simp only [Act.put, List.setIfInBounds_toArray, List.set_cons_zero, List.set_cons_succ, i64_w, i32_w]
              rfl
            refine pure_ (i := 10) (N := some 34) (v := ?_) (a' := ?_) #[true, true, true, true, true, true, true, true, true, true, true, false, false] rfl rfl (by kernel_rfl) (fun _ _ _ h => h) (Or.inl ⟨by rfl, ?_⟩) ?_ ?_
            rotate_left
            · intro w'
              go_simp
              with_reducible rfl
            rotate_left
            · simp only [Act.put, List.setIfInBounds_toArray, List.set_cons_zero, List.set_cons_succ, i64_w, i32_w]
              rfl
            refine one_ (i := 11) (N := some 35) #[true, true, true, true, true, true, true, true, true, true, true, true, false] rfl rfl (by kernel_rfl) (by decide) (fun K hK => ?_)
            refine goes_ Try.func30 (by kernel_rfl) rfl #[.int .u8 b, .bool s] (by rfl) rfl rfl (by simp only [List.map_toArray, List.map_cons, List.map_nil]; rfl) ?_
            with_reducible refine (quoted_piece.calls b s P _ HP.out).mono ?_
            rintro e w6 ⟨rfl, hb⟩
            refine ⟨_, rfl, ?_⟩
            have HB6 := Aside0.mk (below_step HB5.out hb)
            have HO6 := Aside0.mk (Own.own_below HO5.out hb)
            clear hb HB5 HO5
            refine hK.out _ _ (pw_cell_below HB6.out HX.out) (fun hHeld => ?_)
            clear hK K
            refine norm_ (a' := ?_) ?_ ?_
            rotate_left
            · show Act.put _ (some 35) _ = _
              simp only [Act.put, List.setIfInBounds_toArray, List.set_cons_zero, List.set_cons_succ, i64_w, i32_w]
              rfl
            refine pure_ (i := 12) (N := some 7) (v := ?_) (a' := ?_) #[true, true, true, true, true, true, true, true, true, true, true, true, true] rfl rfl (by kernel_rfl) (fun _ _ _ h => h) (Or.inl ⟨by rfl, ?_⟩) ?_ ?_
            rotate_left
            · intro w'
              go_simp
              with_reducible rfl
            rotate_left
            · simp only [Act.put, List.setIfInBounds_toArray, List.set_cons_zero, List.set_cons_succ, i64_w, i32_w]
              rfl
            refine done_ (by kernel_rfl) ?_
            have hwn : wrap64 (n + (P.size : Int)) = n + (P.size : Int) := HWN.out
            have hwp : wrap64 (P.size : Int) = (P.size : Int) := HWP.out
            clear hx hHeld
            by_cases hge : wd ≤ n + (P.size : Int)
            · have hgb : decide (wd ≤ n + (P.size : Int)) = true := decide_eq_true hge
              have HN := Aside0.mk (HNX.out.1 (by omega))
              clear hge hwn hwp
              have hwn : wrap64 (n + (P.size : Int)) = n + (P.size : Int) := HWN.out
              have hwp : wrap64 (P.size : Int) = (P.size : Int) := HWP.out
              go_wp2_with (first
                | (at_builtin; refine print_append_str (w0 := w) (W := w6) w.heap.size rfl (.tmp 42) (.const (.string ⟨#[61, 13, 10]⟩)) 22 9 5 rfl Try.underlying22 Try.underlying9 info5' u o ⟨#[61, 13, 10]⟩ rfl rfl HO6.out HB6.out HB6.out.size HLO.out.1 ?_; intro v7 w7 hown hb _; have HO7 := Aside0.mk hown; have HB7 := Aside0.mk hb; clear hown hb HO6 HB6)
                | (at_builtin; refine print_append_str (w0 := w) (W := w7) w.heap.size rfl (.tmp 44) (.tmp 45) 22 9 5 rfl Try.underlying22 Try.underlying9 info5' v7 (o ++ bytesOf ⟨#[61, 13, 10]⟩) P rfl rfl HO7.out HB7.out HB7.out.size HLO.out.2.1 ?_; intro v8 w8 hown hb _; have HO8 := Aside0.mk hown; have HB8 := Aside0.mk hb; clear hown hb HO7 HB7))
              clear hwn hwp
              go_roundg k1
              case measure => omega
              case rel => exact ⟨A2, c2, m2, r, v8, o ++ bytesOf ⟨#[61, 13, 10]⟩ ++ bytesOf P, (P.size : Int), rfl, rfl, (by first | rfl | rw [show wrap64 (P.size : Int) = (P.size : Int) from HWP.out]), HM2, HC2, HR2, HO8, HB8, HN, by omega⟩
            · have hgb : decide (wd ≤ n + (P.size : Int)) = false := decide_eq_false hge
              have HN := Aside0.mk (HNX.out.2 (by omega))
              clear hge hwn hwp
              have hwn : wrap64 (n + (P.size : Int)) = n + (P.size : Int) := HWN.out
              have hwp : wrap64 (P.size : Int) = (P.size : Int) := HWP.out
              go_wp2_with (at_builtin; refine print_append_str (w0 := w) (W := w6) w.heap.size rfl (.tmp 44) (.tmp 45) 22 9 5 rfl Try.underlying22 Try.underlying9 info5' u o P rfl rfl HO6.out HB6.out HB6.out.size HLO.out.2.2 ?_; intro v8 w8 hown hb _; have HO8 := Aside0.mk hown; have HB8 := Aside0.mk hb; clear hown hb HO6 HB6)
              clear hwn hwp
              go_roundg k1
              case measure => omega
              case rel => exact ⟨A2, c2, m2, r, v8, o ++ bytesOf P, n + (P.size : Int), rfl, rfl, (by first | rfl | rw [show wrap64 (n + (P.size : Int)) = n + (P.size : Int) from HWN.out]), HM2, HC2, HR2, HO8, HB8, HN, by omega⟩
      · have hpb : decide ((0 : Int) < (m : Int)) = false := decide_eq_false (by omega)
        have hpb2 : decide (0 < m) = false := decide_eq_false hp
        have HE := Aside0.mk (show o = R by
          have h1 := HI.out.1
          have h2 := HM.out
          obtain rfl : rest = [] := List.eq_nil_of_length_eq_zero (by omega)
          exact h1)
        obtain ⟨A5, c5, hu⟩ := own_slice HO.out
        subst hu
        clear HI
        go_wp2
        go_ret
        exact ⟨_, rfl, Kd.R_of_own (enc := Value.int .u8) (h1 := fun _ => rfl) (by rw [← HE.out]; exact HO.out) (fun _ _ => trivial), HB.out⟩
  · clear HWC
    have H3 := Aside0.mk h3
    clear h3
    go_enter Try.func14, Try.ntmps14
    go_upto_region 3 with (fail)
    rw [show (a1 : Int) = wd from H3.out.symm]
    clear H3 h1 h2
    go_wp2
    go_loopg [0, 5, 6] (m0 + 1) (fun kq v0 v5 v6 w' => ∃ (A : Option Addr) (c m : Nat) (rest : List Int) (u : Value) (o : List Int) (n : Int), v0 = .slice A m c ∧ u = v5 ∧ v6 = .int .i64 n ∧ Aside0 (rest.length = m) ∧ Aside0 (m ≤ c) ∧ Aside0 (ReadsOf (Value.int .u8) (0 : Int) w A m rest) ∧ Aside0 (w'.ownsRow w.heap.size 5 1 u o.length (nums .u8 o)) ∧ Aside0 (Below w.heap.size w w') ∧ Aside0 (InvW wd R rest o n) ∧ m < kq)
    case atStart => exact ⟨A0, c0, m0, l, _, [], 0, rfl, rfl, rfl, HM0, hc0, hR, ⟨own_nil _ _ _ _⟩, ⟨Below.refl _ _⟩, hI, by omega⟩
    case round =>
      clear hR hc0 hI HM0
      obtain ⟨A, c, m, rest, u, o, n, rfl, rfl, rfl, HM, HC, HR, HO, HB, HI, hk⟩ := hrel
      have hm1 : m ≤ 140737488355228 := by have := HM.out; have := HI.out.2.2.2.1; omega
      cases gk with
      | zero => exact absurd hk (by omega)
      | succ k1 =>
      by_cases hp : 0 < m
      · have hpb : decide ((0 : Int) < (m : Int)) = true := decide_eq_true (by omega)
        have hpb2 : decide (0 < m) = true := decide_eq_true hp
        cases hs : startsL rest with
        | true =>
          obtain ⟨r, hrr⟩ := startsL_inv hs
          obtain ⟨A2, m2, c2, hm2, HM2, HC2, HR2, HDK⟩ := wr_cut A c m rest r w 2 HM.out (by have := HM.out; rw [hrr] at this; simp at this; omega) (by rw [hrr]; rfl) HC.out HR.out
          have HN := Aside0.mk (invW_starts (by have := HI.out; rw [hrr] at this; exact this))
          have HS := Aside0.mk hs
          have HLL := Aside0.mk (show (o.length + ([13, 10] : List Int).length) * 1 ≤ 140737488355328 by have := HI.out.2.2.2.1; simp; omega)
          have hdk : ∀ W : World, (Instr.slice 22 (.slice A m c) (some (.int .i64 2)) none none).run Try.prog W = .ok (.slice A2 m2 c2) W := HDK.out
          clear hs hrr HDK HI
          go_wp2_with (first
            | (go_at_call 29; (with_reducible refine (starts_calls HB HR HM HC HS).mono ?_); rintro e w4 ⟨rfl, hd⟩; have HB4 := Aside0.mk (below_step HB.out hd.below); have HO4 := Aside0.mk (Own.own_below HO.out hd.below); have HOA := Aside0.mk (Own.own_below HO4.out (below_alloc (Below.refl w4.heap.size w4) (.cells #[.int .u8 13, .int .u8 10] 5))); have HBA := Aside0.mk (below_step HB4.out (below_alloc (Below.refl w4.heap.size w4) (.cells #[.int .u8 13, .int .u8 10] 5))); clear hd HB HO HB4 HO4)
            | (at_builtin; refine Own.app_rows (W := w4.alloc (.cells #[.int .u8 13, .int .u8 10] 5)) (enc := Value.int .u8) (fun _ => rfl) 0 w.heap.size rfl (.tmp 19) (.tmp 20) 22 5 (.int .u8 0) 1 rfl Try.underlying22 info5' rfl (by decide) u o [13, 10] (some ⟨w4.heap.size, 0, none⟩) 2 2 rfl rfl rfl HOA.out (lit_two w4 13 10) HBA.out.size HLL.out ?_; intro v7 w7 hown hgrow hat; have HO8 := Aside0.mk hown; have HB8 := Aside0.mk (HBA.out.grown hgrow HBA.out.size (own_base HOA.out)); clear hown hgrow hat HOA HBA))
          clear hdk
          go_roundg k1
          case measure => omega
          case rel => exact ⟨A2, c2, m2, r, v7, o ++ [13, 10], 0, rfl, rfl, rfl, HM2, HC2, HR2, HO8, HB8, HN, by omega⟩
        | false =>
          obtain ⟨b, r, hrr⟩ : ∃ b r, rest = b :: r := by
            rcases rest with _ | ⟨b, r⟩
            · have := HM.out; simp at this; omega
            · exact ⟨b, r, rfl⟩
          subst hrr
          obtain ⟨A2, m2, c2, hm2, HM2, HC2, HR2, HDK⟩ := wr_cut A c m (b :: r) r w 1 HM.out (by omega) rfl HC.out HR.out
          have hdk1 : ∀ W : World, (Instr.slice 22 (.slice A m c) (some (.int .i64 1)) none none).run Try.prog W = .ok (.slice A2 m2 c2) W := HDK.out
          obtain ⟨ad, hAe, hx⟩ := ReadsOf.at_ HR.out 0 (by omega) (by omega)
          have hx0 : w.cell? ad = some (.int .u8 b) := by
            have : rdOf (0 : Int) (b :: r) 0 = b := rfl
            rw [this] at hx
            have e : ad.add (0 : Int).toNat = ad := by show ad.add 0 = ad; unfold Addr.add; split <;> simp_all
            rw [e] at hx
            exact hx
          have HX := Aside0.mk hx0
          have HS := Aside0.mk hs
          have hbr := (bytesB_tail HI.out.2.2.2.2).1
          have HBR := Aside0.mk hbr
          clear hx hx0 HDK hbr
          by_cases hm1' : m = 1
          · have hs0 : r = [] := List.eq_nil_of_length_eq_zero (by have := HM2.out; omega)
            obtain ⟨P, hP, hPb⟩ := piece_f b true HBR.out.1 HBR.out.2
            obtain ⟨q1, q2, q3, q4⟩ := invW_piece (s := true) HI.out HWD.out HS.out (by rw [hs0]; rfl) hPb
            have HP := Aside0.mk hP
            have HNX := Aside0.mk (And.intro q1 q2)
            have HLO := Aside0.mk q3
            have HWN := Aside0.mk (show WrapF (n + (P.size : Int)) by have := HI.out.2.1; have := HI.out.2.2.1; unfold WrapF wrap64; omega)
            have HWP := Aside0.mk (show WrapF (P.size : Int) by unfold WrapF wrap64; omega)
            have hn0 : 0 ≤ n := HI.out.2.1
            have hmb : ((m : Int) == 1) = true := beq_iff_eq.2 (by omega)
            have hmb2 : (m == 1) = true := beq_iff_eq.2 hm1'
            obtain rfl := hAe
            clear hs0 hP hPb q1 q2 q3 q4 hs hm1' HBR
            go_wp2_with (go_at_call 29; (with_reducible refine (starts_calls HB HR HM HC HS).mono ?_); rintro e w4 ⟨rfl, hd⟩; have HB5 := Aside0.mk (below_drew (below_step HB.out hd.below)); have HO5 := Aside0.mk (own_drew (Own.own_below HO.out hd.below)); have hx := pw_cell_below HB5.out HX.out; clear hd HB HO)
            refine start_ (n := 13) (S := fun w' => w'.cell? ad = some (.int .u8 b)) (ds := []) #[false, false, false, false, false, false, false, false, false, false, false, false, false] (by kernel_rfl) rfl rfl (hx) (fun hHeld => ?_)
            generalize w4.drew = w5 at HB5 HO5 hx hHeld ⊢
            refine pure_ (i := 0) (N := some 24) (v := ?_) (a' := ?_) #[true, false, false, false, false, false, false, false, false, false, false, false, false] rfl rfl (by kernel_rfl) (fun _ _ _ h => h) (Or.inl ⟨by rfl, ?_⟩) ?_ ?_
            rotate_left
            · intro w'
              go_simp
              with_reducible rfl
            rotate_left
            · simp only [Act.put, List.setIfInBounds_toArray, List.set_cons_zero, List.set_cons_succ, i64_w, i32_w]
              rfl
            refine pure_ (i := 1) (N := some 25) (v := ?_) (a' := ?_) #[true, true, false, false, false, false, false, false, false, false, false, false, false] rfl rfl (by kernel_rfl) (fun _ _ _ h => h) (Or.inl ⟨by rfl, ?_⟩) ?_ ?_
            rotate_left
            · intro w'
              go_simp
              with_reducible rfl
            rotate_left
            · simp only [Act.put, List.setIfInBounds_toArray, List.set_cons_zero, List.set_cons_succ, i64_w, i32_w]
              rfl
            refine pure_ (i := 3) (N := some 27) (v := ?_) (a' := ?_) #[true, true, false, true, false, false, false, false, false, false, false, false, false] rfl rfl (by kernel_rfl) (fun _ _ _ h => h) (Or.inl ⟨by rfl, ?_⟩) ?_ ?_
            rotate_left
            · intro w'
              go_simp
              with_reducible rfl
            rotate_left
            · simp only [Act.put, List.setIfInBounds_toArray, List.set_cons_zero, List.set_cons_succ, i64_w, i32_w]
              rfl
            refine pure_ (i := 4) (N := some 28) (v := ?_) (a' := ?_) #[true, true, false, true, true, false, false, false, false, false, false, false, false] rfl rfl (by kernel_rfl) (fun _ _ _ h => h) (Or.inl ⟨by rfl, ?_⟩) ?_ ?_
            rotate_left
            · intro w'
              go_simp
              with_reducible rfl
            rotate_left
            · simp only [Act.put, List.setIfInBounds_toArray, List.set_cons_zero, List.set_cons_succ, i64_w, i32_w]
              rfl
            refine pure_ (i := 5) (N := some 29) (v := ?_) (a' := ?_) #[true, true, false, true, true, true, false, false, false, false, false, false, false] rfl rfl (by kernel_rfl) (fun _ _ _ h => h) (Or.inl ⟨by rfl, ?_⟩) ?_ ?_
            rotate_left
            · intro w'
              go_simp
              with_reducible rfl
            rotate_left
            · simp only [Act.put, List.setIfInBounds_toArray, List.set_cons_zero, List.set_cons_succ, i64_w, i32_w]
              rfl
            refine pure_ (i := 6) (N := some 30) (v := ?_) (a' := ?_) #[true, true, false, true, true, true, true, false, false, false, false, false, false] rfl rfl (by kernel_rfl) (fun _ _ _ h => h) (Or.inl ⟨by rfl, ?_⟩) ?_ ?_
            rotate_left
            · intro w'
              go_simp
              with_reducible rfl
            rotate_left
            · simp only [Act.put, List.setIfInBounds_toArray, List.set_cons_zero, List.set_cons_succ, i64_w, i32_w]
              rfl
            refine pure_ (i := 7) (N := some 31) (v := undef) (a' := ?_) #[true, true, false, true, true, true, true, true, false, false, false, false, false] rfl rfl (by kernel_rfl) (fun _ _ _ h => h) (Or.inr ⟨by rfl, rfl⟩) ?_ ?_
            rotate_left
            · simp only [Act.put, List.setIfInBounds_toArray, List.set_cons_zero, List.set_cons_succ, i64_w, i32_w]
              rfl
            refine pure_ (i := 8) (N := some 32) (v := undef) (a' := ?_) #[true, true, false, true, true, true, true, true, true, false, false, false, false] rfl rfl (by kernel_rfl) (fun _ _ _ h => h) (Or.inr ⟨by rfl, rfl⟩) ?_ ?_
            rotate_left
            · simp only [Act.put, List.setIfInBounds_toArray, List.set_cons_zero, List.set_cons_succ, i64_w, i32_w]
              rfl
            refine pure_ (i := 9) (N := some 33) (v := undef) (a' := ?_) #[true, true, false, true, true, true, true, true, true, true, false, false, false] rfl rfl (by kernel_rfl) (fun _ _ _ h => h) (Or.inr ⟨by rfl, rfl⟩) ?_ ?_
            rotate_left
            · simp only [Act.put, List.setIfInBounds_toArray, List.set_cons_zero, List.set_cons_succ, i64_w, i32_w]
              rfl
            refine pure_ (i := 10) (N := some 34) (v := ?_) (a' := ?_) #[true, true, false, true, true, true, true, true, true, true, true, false, false] rfl rfl (by kernel_rfl) (fun _ _ _ h => h) (Or.inl ⟨by rfl, ?_⟩) ?_ ?_
            rotate_left
            · intro w'
              go_simp
              with_reducible rfl
            rotate_left
            · simp only [Act.put, List.setIfInBounds_toArray, List.set_cons_zero, List.set_cons_succ, i64_w, i32_w]
              rfl
            refine take_ (i := 2) (N := some 26) (v := ?_) (a' := ?_) #[true, true, true, true, true, true, true, true, true, true, true, false, false] rfl rfl (by kernel_rfl) (fun _ _ _ h => h) (Or.inl ⟨by rfl, ?_⟩) hHeld ?_ ?_
            rotate_left
            · intro w' s0
              go_simp
              with_reducible rfl
            rotate_left
            · simp only [Act.put, List.setIfInBounds_toArray, List.set_cons_zero, List.set_cons_succ, i64_w, i32_w]
              rfl
            refine one_ (i := 11) (N := some 35) #[true, true, true, true, true, true, true, true, true, true, true, true, false] rfl rfl (by kernel_rfl) (by decide) (fun K hK => ?_)
            refine goes_ Try.func30 (by kernel_rfl) rfl #[.int .u8 b, .bool true] (by rfl) rfl rfl (by simp only [List.map_toArray, List.map_cons, List.map_nil]; rfl) ?_
            with_reducible refine (quoted_piece.calls b true P _ HP.out).mono ?_
            rintro e w6 ⟨rfl, hb⟩
            refine ⟨_, rfl, ?_⟩
            have HB6 := Aside0.mk (below_step HB5.out hb)
            have HO6 := Aside0.mk (Own.own_below HO5.out hb)
            clear hb HB5 HO5
            refine hK.out _ _ (pw_cell_below HB6.out HX.out) (fun hHeld => ?_)
            clear hK K
            refine norm_ (a' := ?_) ?_ ?_
            rotate_left
            · show Act.put _ (some 35) _ = _
              simp only [Act.put, List.setIfInBounds_toArray, List.set_cons_zero, List.set_cons_succ, i64_w, i32_w]
              rfl
            refine pure_ (i := 12) (N := some 7) (v := ?_) (a' := ?_) #[true, true, true, true, true, true, true, true, true, true, true, true, true] rfl rfl (by kernel_rfl) (fun _ _ _ h => h) (Or.inl ⟨by rfl, ?_⟩) ?_ ?_
            rotate_left
            · intro w'
              go_simp
              with_reducible rfl
            rotate_left
            · simp only [Act.put, List.setIfInBounds_toArray, List.set_cons_zero, List.set_cons_succ, i64_w, i32_w]
              rfl
            refine done_ (by kernel_rfl) ?_
            have hwn : wrap64 (n + (P.size : Int)) = n + (P.size : Int) := HWN.out
            have hwp : wrap64 (P.size : Int) = (P.size : Int) := HWP.out
            clear hx hHeld
            by_cases hge : wd ≤ n + (P.size : Int)
            · have hgb : decide (wd ≤ n + (P.size : Int)) = true := decide_eq_true hge
              have HN := Aside0.mk (HNX.out.1 (by omega))
              clear hge hwn hwp
              have hwn : wrap64 (n + (P.size : Int)) = n + (P.size : Int) := HWN.out
              have hwp : wrap64 (P.size : Int) = (P.size : Int) := HWP.out
              go_wp2_with (first
                | (at_builtin; refine print_append_str (w0 := w) (W := w6) w.heap.size rfl (.tmp 42) (.const (.string ⟨#[61, 13, 10]⟩)) 22 9 5 rfl Try.underlying22 Try.underlying9 info5' u o ⟨#[61, 13, 10]⟩ rfl rfl HO6.out HB6.out HB6.out.size HLO.out.1 ?_; intro v7 w7 hown hb _; have HO7 := Aside0.mk hown; have HB7 := Aside0.mk hb; clear hown hb HO6 HB6)
                | (at_builtin; refine print_append_str (w0 := w) (W := w7) w.heap.size rfl (.tmp 44) (.tmp 45) 22 9 5 rfl Try.underlying22 Try.underlying9 info5' v7 (o ++ bytesOf ⟨#[61, 13, 10]⟩) P rfl rfl HO7.out HB7.out HB7.out.size HLO.out.2.1 ?_; intro v8 w8 hown hb _; have HO8 := Aside0.mk hown; have HB8 := Aside0.mk hb; clear hown hb HO7 HB7))
              clear hwn hwp
              go_roundg k1
              case measure => omega
              case rel => exact ⟨A2, c2, m2, r, v8, o ++ bytesOf ⟨#[61, 13, 10]⟩ ++ bytesOf P, (P.size : Int), rfl, rfl, (by first | rfl | rw [show wrap64 (P.size : Int) = (P.size : Int) from HWP.out]), HM2, HC2, HR2, HO8, HB8, HN, by omega⟩
            · have hgb : decide (wd ≤ n + (P.size : Int)) = false := decide_eq_false hge
              have HN := Aside0.mk (HNX.out.2 (by omega))
              clear hge hwn hwp
              have hwn : wrap64 (n + (P.size : Int)) = n + (P.size : Int) := HWN.out
              have hwp : wrap64 (P.size : Int) = (P.size : Int) := HWP.out
              go_wp2_with (at_builtin; refine print_append_str (w0 := w) (W := w6) w.heap.size rfl (.tmp 44) (.tmp 45) 22 9 5 rfl Try.underlying22 Try.underlying9 info5' u o P rfl rfl HO6.out HB6.out HB6.out.size HLO.out.2.2 ?_; intro v8 w8 hown hb _; have HO8 := Aside0.mk hown; have HB8 := Aside0.mk hb; clear hown hb HO6 HB6)
              clear hwn hwp
              go_roundg k1
              case measure => omega
              case rel => exact ⟨A2, c2, m2, r, v8, o ++ bytesOf P, n + (P.size : Int), rfl, rfl, (by first | rfl | rw [show wrap64 (n + (P.size : Int)) = n + (P.size : Int) from HWN.out]), HM2, HC2, HR2, HO8, HB8, HN, by omega⟩
          · obtain ⟨s, hsr⟩ : ∃ s, startsL r = s := ⟨_, rfl⟩
            have HS2 := Aside0.mk hsr
            obtain ⟨P, hP, hPb⟩ := piece_f b s HBR.out.1 HBR.out.2
            obtain ⟨q1, q2, q3, q4⟩ := invW_piece (s := s) HI.out HWD.out HS.out (last_of HM2.out (by omega) hsr) hPb
            have HP := Aside0.mk hP
            have HNX := Aside0.mk (And.intro q1 q2)
            have HLO := Aside0.mk q3
            have HWN := Aside0.mk (show WrapF (n + (P.size : Int)) by have := HI.out.2.1; have := HI.out.2.2.1; unfold WrapF wrap64; omega)
            have HWP := Aside0.mk (show WrapF (P.size : Int) by unfold WrapF wrap64; omega)
            have hn0 : 0 ≤ n := HI.out.2.1
            have hmb : ((m : Int) == 1) = false := beq_eq_false_iff_ne.2 (by omega)
            have hmb2 : (m == 1) = false := beq_eq_false_iff_ne.2 hm1'
            obtain rfl := hAe
            clear hsr hP hPb q1 q2 q3 q4 hs hm1' HBR
            go_wp2_with (go_at_call 29; (with_reducible refine (starts_calls HB HR HM HC HS).mono ?_); rintro e w4 ⟨rfl, hd⟩; have HB5 := Aside0.mk (below_drew (below_step HB.out hd.below)); have HO5 := Aside0.mk (own_drew (Own.own_below HO.out hd.below)); have hx := pw_cell_below HB5.out HX.out; clear hd HB HO)
            refine start_ (n := 13) (S := fun w' => w'.cell? ad = some (.int .u8 b)) (ds := []) #[false, false, false, false, false, false, false, false, false, false, false, false, false] (by kernel_rfl) rfl rfl (hx) (fun hHeld => ?_)
            generalize w4.drew = w5 at HB5 HO5 hx hHeld ⊢
            refine pure_ (i := 0) (N := some 24) (v := ?_) (a' := ?_) #[true, false, false, false, false, false, false, false, false, false, false, false, false] rfl rfl (by kernel_rfl) (fun _ _ _ h => h) (Or.inl ⟨by rfl, ?_⟩) ?_ ?_
            rotate_left
            · intro w'
              go_simp
              with_reducible rfl
            rotate_left
            · simp only [Act.put, List.setIfInBounds_toArray, List.set_cons_zero, List.set_cons_succ, i64_w, i32_w]
              rfl
            refine pure_ (i := 1) (N := some 25) (v := ?_) (a' := ?_) #[true, true, false, false, false, false, false, false, false, false, false, false, false] rfl rfl (by kernel_rfl) (fun _ _ _ h => h) (Or.inl ⟨by rfl, ?_⟩) ?_ ?_
            rotate_left
            · intro w'
              go_simp
              with_reducible rfl
            rotate_left
            · simp only [Act.put, List.setIfInBounds_toArray, List.set_cons_zero, List.set_cons_succ, i64_w, i32_w]
              rfl
            refine pure_ (i := 3) (N := some 27) (v := ?_) (a' := ?_) #[true, true, false, true, false, false, false, false, false, false, false, false, false] rfl rfl (by kernel_rfl) (fun _ _ _ h => h) (Or.inl ⟨by rfl, ?_⟩) ?_ ?_
            rotate_left
            · intro w'
              go_simp
              with_reducible rfl
            rotate_left
            · simp only [Act.put, List.setIfInBounds_toArray, List.set_cons_zero, List.set_cons_succ, i64_w, i32_w]
              rfl
            refine pure_ (i := 4) (N := some 28) (v := ?_) (a' := ?_) #[true, true, false, true, true, false, false, false, false, false, false, false, false] rfl rfl (by kernel_rfl) (fun _ _ _ h => h) (Or.inl ⟨by rfl, ?_⟩) ?_ ?_
            rotate_left
            · intro w'
              go_simp
              with_reducible rfl
            rotate_left
            · simp only [Act.put, List.setIfInBounds_toArray, List.set_cons_zero, List.set_cons_succ, i64_w, i32_w]
              rfl
            refine pure_ (i := 5) (N := some 29) (v := ?_) (a' := ?_) #[true, true, false, true, true, true, false, false, false, false, false, false, false] rfl rfl (by kernel_rfl) (fun _ _ _ h => h) (Or.inl ⟨by rfl, ?_⟩) ?_ ?_
            rotate_left
            · intro w'
              go_simp
              with_reducible rfl
            rotate_left
            · simp only [Act.put, List.setIfInBounds_toArray, List.set_cons_zero, List.set_cons_succ, i64_w, i32_w]
              rfl
            refine pure_ (i := 6) (N := some 30) (v := ?_) (a' := ?_) #[true, true, false, true, true, true, true, false, false, false, false, false, false] rfl rfl (by kernel_rfl) (fun _ _ _ h => h) (Or.inl ⟨by rfl, ?_⟩) ?_ ?_
            rotate_left
            · intro w'
              go_simp
              with_reducible rfl
            rotate_left
            · simp only [Act.put, List.setIfInBounds_toArray, List.set_cons_zero, List.set_cons_succ, i64_w, i32_w]
              rfl
            refine pure_ (i := 7) (N := some 31) (v := ?_) (a' := ?_) #[true, true, false, true, true, true, true, true, false, false, false, false, false] rfl rfl (by kernel_rfl) (fun _ _ _ h => h) (Or.inl ⟨by rfl, ?_⟩) ?_ ?_
            rotate_left
            · intro w'
              go_simp
              with_reducible rfl
            rotate_left
            · simp only [Act.put, List.setIfInBounds_toArray, List.set_cons_zero, List.set_cons_succ, i64_w, i32_w]
              rfl
            refine pure_ (i := 8) (N := some 32) (v := ?_) (a' := ?_) #[true, true, false, true, true, true, true, true, true, false, false, false, false] rfl rfl (by kernel_rfl) (fun _ _ _ h => h) (Or.inl ⟨by rfl, ?_⟩) ?_ ?_
            rotate_left
            · intro w'
              go_simp
              with_reducible rfl
            rotate_left
            · simp only [Act.put, List.setIfInBounds_toArray, List.set_cons_zero, List.set_cons_succ, i64_w, i32_w]
              rfl
            refine take_ (i := 2) (N := some 26) (v := ?_) (a' := ?_) #[true, true, true, true, true, true, true, true, true, false, false, false, false] rfl rfl (by kernel_rfl) (fun _ _ _ h => h) (Or.inl ⟨by rfl, ?_⟩) hHeld ?_ ?_
            rotate_left
            · intro w' s0
              go_simp
              with_reducible rfl
            rotate_left
            · simp only [Act.put, List.setIfInBounds_toArray, List.set_cons_zero, List.set_cons_succ, i64_w, i32_w]
              rfl
            refine one_ (i := 9) (N := some 33) #[true, true, true, true, true, true, true, true, true, true, false, false, false] rfl rfl (by kernel_rfl) (by decide) (fun K hK => ?_)
            refine goes_ Try.func29 (by kernel_rfl) rfl #[.slice A2 m2 c2] (by rfl) rfl rfl (by simp only [List.map_toArray, List.map_cons, List.map_nil]; rfl) ?_
            with_reducible refine (starts_calls HB5 HR2 HM2 HC2 HS2).mono ?_
            rintro e w7 ⟨rfl, hd⟩
            refine ⟨_, rfl, ?_⟩
            have HB8 := Aside0.mk (below_step HB5.out hd.below)
            have HO8 := Aside0.mk (Own.own_below HO5.out hd.below)
            clear hd HB5 HO5
            have HB5 := HB8
            have HO5 := HO8
            clear HB8 HO8
            refine hK.out _ _ (pw_cell_below HB5.out HX.out) (fun hHeld => ?_)
            clear hK K
            refine norm_ (a' := ?_) ?_ ?_
            rotate_left
            · show Act.put _ (some 33) _ = _
              simp only [Act.put, List.setIfInBounds_toArray, List.set_cons_zero, List.set_cons_succ, i64_w, i32_w]
              rfl
            refine pure_ (i := 10) (N := some 34) (v := ?_) (a' := ?_) #[true, true, true, true, true, true, true, true, true, true, true, false, false] rfl rfl (by kernel_rfl) (fun _ _ _ h => h) (Or.inl ⟨by rfl, ?_⟩) ?_ ?_
            rotate_left
            · intro w'
              go_simp
              with_reducible rfl
            rotate_left
            · simp only [Act.put, List.setIfInBounds_toArray, List.set_cons_zero, List.set_cons_succ, i64_w, i32_w]
              rfl
            refine one_ (i := 11) (N := some 35) #[true, true, true, true, true, true, true, true, true, true, true, true, false] rfl rfl (by kernel_rfl) (by decide) (fun K hK => ?_)
            refine goes_ Try.func30 (by kernel_rfl) rfl #[.int .u8 b, .bool s] (by rfl) rfl rfl (by simp only [List.map_toArray, List.map_cons, List.map_nil]; rfl) ?_
            with_reducible refine (quoted_piece.calls b s P _ HP.out).mono ?_
            rintro e w6 ⟨rfl, hb⟩
            refine ⟨_, rfl, ?_⟩
            have HB6 := Aside0.mk (below_step HB5.out hb)
            have HO6 := Aside0.mk (Own.own_below HO5.out hb)
            clear hb HB5 HO5
            refine hK.out _ _ (pw_cell_below HB6.out HX.out) (fun hHeld => ?_)
            clear hK K
            refine norm_ (a' := ?_) ?_ ?_
            rotate_left
            · show Act.put _ (some 35) _ = _
              simp only [Act.put, List.setIfInBounds_toArray, List.set_cons_zero, List.set_cons_succ, i64_w, i32_w]
              rfl
            refine pure_ (i := 12) (N := some 7) (v := ?_) (a' := ?_) #[true, true, true, true, true, true, true, true, true, true, true, true, true] rfl rfl (by kernel_rfl) (fun _ _ _ h => h) (Or.inl ⟨by rfl, ?_⟩) ?_ ?_
            rotate_left
            · intro w'
              go_simp
              with_reducible rfl
            rotate_left
            · simp only [Act.put, List.setIfInBounds_toArray, List.set_cons_zero, List.set_cons_succ, i64_w, i32_w]
              rfl
            refine done_ (by kernel_rfl) ?_
            have hwn : wrap64 (n + (P.size : Int)) = n + (P.size : Int) := HWN.out
            have hwp : wrap64 (P.size : Int) = (P.size : Int) := HWP.out
            clear hx hHeld
            by_cases hge : wd ≤ n + (P.size : Int)
            · have hgb : decide (wd ≤ n + (P.size : Int)) = true := decide_eq_true hge
              have HN := Aside0.mk (HNX.out.1 (by omega))
              clear hge hwn hwp
              have hwn : wrap64 (n + (P.size : Int)) = n + (P.size : Int) := HWN.out
              have hwp : wrap64 (P.size : Int) = (P.size : Int) := HWP.out
              go_wp2_with (first
                | (at_builtin; refine print_append_str (w0 := w) (W := w6) w.heap.size rfl (.tmp 42) (.const (.string ⟨#[61, 13, 10]⟩)) 22 9 5 rfl Try.underlying22 Try.underlying9 info5' u o ⟨#[61, 13, 10]⟩ rfl rfl HO6.out HB6.out HB6.out.size HLO.out.1 ?_; intro v7 w7 hown hb _; have HO7 := Aside0.mk hown; have HB7 := Aside0.mk hb; clear hown hb HO6 HB6)
                | (at_builtin; refine print_append_str (w0 := w) (W := w7) w.heap.size rfl (.tmp 44) (.tmp 45) 22 9 5 rfl Try.underlying22 Try.underlying9 info5' v7 (o ++ bytesOf ⟨#[61, 13, 10]⟩) P rfl rfl HO7.out HB7.out HB7.out.size HLO.out.2.1 ?_; intro v8 w8 hown hb _; have HO8 := Aside0.mk hown; have HB8 := Aside0.mk hb; clear hown hb HO7 HB7))
              clear hwn hwp
              go_roundg k1
              case measure => omega
              case rel => exact ⟨A2, c2, m2, r, v8, o ++ bytesOf ⟨#[61, 13, 10]⟩ ++ bytesOf P, (P.size : Int), rfl, rfl, (by first | rfl | rw [show wrap64 (P.size : Int) = (P.size : Int) from HWP.out]), HM2, HC2, HR2, HO8, HB8, HN, by omega⟩
            · have hgb : decide (wd ≤ n + (P.size : Int)) = false := decide_eq_false hge
              have HN := Aside0.mk (HNX.out.2 (by omega))
              clear hge hwn hwp
              have hwn : wrap64 (n + (P.size : Int)) = n + (P.size : Int) := HWN.out
              have hwp : wrap64 (P.size : Int) = (P.size : Int) := HWP.out
              go_wp2_with (at_builtin; refine print_append_str (w0 := w) (W := w6) w.heap.size rfl (.tmp 44) (.tmp 45) 22 9 5 rfl Try.underlying22 Try.underlying9 info5' u o P rfl rfl HO6.out HB6.out HB6.out.size HLO.out.2.2 ?_; intro v8 w8 hown hb _; have HO8 := Aside0.mk hown; have HB8 := Aside0.mk hb; clear hown hb HO6 HB6)
              clear hwn hwp
              go_roundg k1
              case measure => omega
              case rel => exact ⟨A2, c2, m2, r, v8, o ++ bytesOf P, n + (P.size : Int), rfl, rfl, (by first | rfl | rw [show wrap64 (n + (P.size : Int)) = n + (P.size : Int) from HWN.out]), HM2, HC2, HR2, HO8, HB8, HN, by omega⟩
      · have hpb : decide ((0 : Int) < (m : Int)) = false := decide_eq_false (by omega)
        have hpb2 : decide (0 < m) = false := decide_eq_false hp
        have HE := Aside0.mk (show o = R by
          have h1 := HI.out.1
          have h2 := HM.out
          obtain rfl : rest = [] := List.eq_nil_of_length_eq_zero (by omega)
          exact h1)
        obtain ⟨A5, c5, hu⟩ := own_slice HO.out
        subst hu
        clear HI
        go_wp2
        go_ret
        exact ⟨_, rfl, Kd.R_of_own (enc := Value.int .u8) (h1 := fun _ => rfl) (by rw [← HE.out]; exact HO.out) (fun _ _ => trivial), HB.out⟩
theorem writeS_bytes (l : List Int) (a1 : Int) : InvW (if a1 < 4 ∨ a1 > 76 then 76 else a1) (writeS (if a1 < 4 ∨ a1 > 76 then 76 else a1) l 0 []) l [] 0 ↔ 6 * l.length ≤ 140737488355228 ∧ bytesB l = true := by
  unfold InvW
  simp
theorem quoted_Write.calls (A0 : Option Addr) (c0 : Nat) (l0 : List Int) (a1 : Int) (r : List Int) (w : World) (hr0 : Kd.C (Kd.int .u8) w A0 l0.length l0) (hc0 : l0.length ≤ c0) (h : quoted_Write.f l0 a1 = some r) :
    Calls Try.prog 14 #[.slice A0 l0.length c0, .int .i64 a1] w fun e w' => ∃ v0_ : Value, e = .returned (v0_) ∧ Kd.R (Kd.int .u8) 5 w' w.heap.size (fun _ => True) v0_ r ∧ Below w.heap.size w w' := by
  unfold quoted_Write.f at h
  split at h
  · rename_i hc
    refine write_walk A0 c0 l0 a1 _ r w ⟨Kd.reads_of_C (enc := Value.int .u8) (d := (0 : Int)) (h1 := fun _ => rfl) hr0⟩ ⟨hc0⟩ ⟨rfl⟩ ⟨?_⟩
    rw [← Option.some.inj h]
    exact (writeS_bytes l0 a1).2 ⟨by omega, hc.2⟩
  · cases h
end Go.Proofs.Ytemdlahghbbkoaa.PAll
