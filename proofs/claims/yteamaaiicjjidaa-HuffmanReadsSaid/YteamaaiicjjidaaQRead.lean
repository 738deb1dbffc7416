/- The document's Read: a symbol out of a row of bits. -/
import Derived.Test.YteamaaiicjjidaaQLook
namespace Go.Proofs.Yteamaaiicjjidaa.PAll
open Go.RowKit Go.Proofs.Yteamaaiicjjidaa.Huf Go.Proofs.YteamaaiicjjidaaW.PrintWords Go.Proofs.YteamaaiicjjidaaW.PrintLast Go.Proofs.YteamaaiicjjidaaW.PrintMore
set_option linter.unusedVariables false
set_option linter.unusedSimpArgs false
theorem drop_facts {w W : World} {A : Option Addr} {c : Nat} {bs : List Bool} (HO : W.ownsRow w.heap.size 4 1 (.slice A bs.length c) bs.length (encs Value.bool bs)) (k : Nat) (hk : k ≤ bs.length) :
    ∃ (A' : Option Addr) (c' n : Nat), (∀ W : World, (Instr.slice 45 (.slice A bs.length c) (some (.int .i64 (k : Int))) none none).run Try.prog W = .ok (.slice A' n c') W) ∧ (bs.drop k).length = n ∧ ∀ W1 : World, Below W.heap.size W W1 → ReadsOf Value.bool false W1 A' n (bs.drop k) := by
  have hcap := own_cap HO
  obtain ⟨i0, hi, _, hsz, _⟩ := info_parts info4
  obtain ⟨A', h1, h2⟩ := print_cut_of (P := Try.prog) Value.bool false 45 4 .i64 Try.underlying45 hi hsz A bs.length c k hk
  obtain ⟨A2, c2, e, hrd⟩ := own_reads_of (d := false) HO
  cases e
  exact ⟨A', c - k, bs.length - k, h1, List.length_drop, fun W1 hb => h2 W1 bs hcap (hrd.below hb)⟩
theorem rb_below {w W W' : World} {g : Nat} {bs : List Bool} (h : RB w W g bs) (hb : Below W.heap.size W W') : RB w W' g bs := by
  obtain ⟨v, h1, h2, h3, h4⟩ := h
  exact ⟨v, blk_below h1 hb, h2, Own.own_below h3 hb, below_step h4 hb⟩
theorem look_le {l : List Int} {bs : List Bool} {s how n : Nat} (h : LookAt l bs s how n) : n ≤ bs.length := by
  rcases h with ⟨_, hh, rfl⟩ | ⟨_, _, rfl, _⟩ | ⟨_, _, rfl, _⟩
  · exact hit_le hh
  · exact Nat.zero_le _
  · exact Nat.zero_le _
set_option maxHeartbeats 8000000 in
set_option maxRecDepth 100000 in
theorem qread_calls {w W : World} {g cb r : Nat} {l : List Int} {bs : List Bool} (s how n : Nat) (h : Aside0 (QT W g cb l)) (hr : Aside0 (RB w W r bs)) (hO : Ok l) (hK : kr l ≤ 32768) (hl320 : l.length ≤ 320) (hb : bs.length ≤ 1000000) (hL : LookAt l bs s how n) :
    Calls Try.prog 18 #[.pointer (some ⟨g, 0, none⟩), .pointer (some ⟨r, 0, none⟩)] W fun e W' => e = .returned (.tuple #[.int .i64 (s : Int), .int .i64 (how : Int)]) ∧ RB w W' r (bs.drop n) ∧ Own.Foot W W' r 4 := by
  obtain ⟨v, HG0, hg, HO0, HB0⟩ := hr.out
  obtain ⟨A, c, rfl⟩ := own_slice HO0
  have hc0 : W.cell? ⟨r, 0, none⟩ = some (.slice A bs.length c) := cellRB HG0
  obtain ⟨A2, c2, e, hrd⟩ := own_reads_of (d := false) HO0
  cases e
  have hC := Kd.C_of_reads (enc := Value.bool) (d := false) (h1 := fun _ => rfl) hrd
  have HC := Aside0.mk (look_calls s how n A c h hO hK hl320 hC (own_cap HO0) hb hL)
  have HK := Aside0.mk (look_le hL)
  have HLN := Aside0.mk (show (([] : List Bool).length + (bs.drop n).length) * 1 ≤ 140737488355328 by rw [List.length_drop]; simp; omega)
  have HOW := Aside0.mk HO0
  have HGG := Aside0.mk HG0
  have HBB := Aside0.mk HB0
  obtain ⟨A', c', m, hsl, hdl, hrd2⟩ := drop_facts HO0 n HK.out
  have HDL := Aside0.mk hdl
  have HRD := Aside0.mk hrd2
  clear hO hK hl320 hb hL hC hrd HO0 HB0 HG0 h hr hdl hrd2
  go_enter Try.func18, Try.ntmps18
  go_wp2_with (first
    | (go_at_call 26; (with_reducible refine (HC.out).mono ?_); rintro e w1 ⟨rfl, hd⟩; have HB1 := Aside0.mk (below_step HBB.out hd.below); have HD1 := Aside0.mk hd; have HG1 := Aside0.mk (blk_below HGG.out hd.below); have hc1 : (w1.alloc (.cells #[] 4)).cell? ⟨r, 0, none⟩ = some (.slice A bs.length c) := cellRB (Own.below_blk HG1.out (below_alloc (Below.refl _ _) _)); clear hd hc0)
    | (at_builtin; refine Own.app_rows (W := w1.alloc (.cells #[] 4)) (enc := Value.bool) (fun _ => rfl) false w.heap.size rfl (.tmp 20) (.tmp 26) 45 4 (.bool false) 1 rfl Try.underlying45 info4 rfl (by decide) (.slice (some ⟨w1.heap.size, 0, none⟩) 0 0) [] (bs.drop n) A' m c' rfl rfl HDL.out (own_lit_of w1 w.heap.size 4 ([] : List Bool) HB1.out.size (by simp)) (HRD.out _ (below_step HD1.out.below (below_alloc (Below.refl _ _) _))) (Nat.le_trans HB1.out.size (by simp)) HLN.out ?_; intro v2 w2 hown hgrow hat; obtain ⟨A5, c5, hv2⟩ := own_slice hown; subst hv2; have HA := Aside0.mk (own_lit_of (enc := Value.bool) w1 w.heap.size 4 ([] : List Bool) HB1.out.size (by simp)); have HG2 := Aside0.mk (Own.grown_blk HA.out hgrow (Own.below_blk HG1.out (below_alloc (Below.refl _ _) _)) (by decide)); have HB2 := Aside0.mk ((HB1.out.alloc HB1.out.size (.cells #[] 4)).grown hgrow (Nat.le_trans HB1.out.size (by simp)) (own_base HA.out)); have HF2 := Aside0.mk ((Own.Foot.below (g := r) (t := 4) HD1.out.below).trans ((Own.Foot.below (g := r) (t := 4) (below_alloc (Below.refl _ _) (.cells #[] 4))).trans (Own.Foot.grown (g := r) HA.out hgrow))); have HO2 := Aside0.mk hown; have hc2 := cellRB HG2.out; have hf2 := blk_frozen HG2.out 0; clear hown hgrow hat HA hc1 hsl HG1 HB1 HD1 HDL HRD))
  go_ret2
  exact ⟨rfl, rb_set HG2.out hg (by have := HO2.out; have e : (bs.drop n).length = bs.length - n := List.length_drop; rw [← e]; simpa only [List.length_append, List.nil_append, List.length_nil, Nat.zero_add] using this) HB2.out, HF2.out.trans (Own.Foot.set 0 _)⟩
end Go.Proofs.Yteamaaiicjjidaa.PAll
