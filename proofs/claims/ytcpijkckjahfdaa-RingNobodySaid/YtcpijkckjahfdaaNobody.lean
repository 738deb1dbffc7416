/- RingNobody: a window that is not there. -/
import Derived.Test.YtcpijkckjahfdaaRSmall
namespace Go.Proofs.Ytcpijkckjahfdaa.PAll
open Go.RowKit Go.Proofs.YtcpijkckjahfdaaW.PrintWords Go.Proofs.YtcpijkckjahfdaaW.PrintLast Go.Proofs.YtcpijkckjahfdaaW.PrintMore
attribute [local go_sem] max2_int min2_int max_two min_two max_three min_three max_four min_four   -- for this text's walks alone
set_option linter.unusedVariables false
set_option linter.unusedSimpArgs false
section
variable (W : World)
theorem nil_put (x : Int) : Calls Try.prog 9 #[.pointer none, .int .u8 x] W fun e W' => e = .returned (.tuple #[]) ∧ Drawn0 W W' := by
  go_enter Try.func9, Try.ntmps9
  go_wp2
  (try simp only [Exit.inBlock, Exit.then])
  refine bodyPost_ret (results_none rfl _ _ _) rfl ?_
  exact ⟨rfl, by repeat (first | exact Drawn0.refl _ | apply Drawn0.step)⟩
theorem nil_clear : Calls Try.prog 20 #[.pointer none] W fun e W' => e = .returned (.tuple #[]) ∧ Drawn0 W W' := by
  go_enter Try.func20, Try.ntmps20
  go_wp2
  go_end0
  exact ⟨rfl, by repeat (first | exact Drawn0.refl _ | apply Drawn0.step)⟩
theorem nil_back (d : Int) : Calls Try.prog 13 #[.pointer none, .int .i64 d] W fun e W' => e = .returned (.tuple #[.int .u8 0, .bool false]) ∧ Drawn0 W W' := by
  go_enter Try.func13, Try.ntmps13
  go_wp2
  go_ret2
  exact ⟨rfl, by repeat (first | exact Drawn0.refl _ | apply Drawn0.step)⟩
theorem nil_repeat (d n : Int) : Calls Try.prog 14 #[.pointer none, .int .i64 d, .int .i64 n] W fun e W' => e = .returned (.tuple #[.slice none 0 0, .bool false]) ∧ Drawn0 W W' := by
  go_enter Try.func14, Try.ntmps14
  go_wp2_with (go_at_call 13; (with_reducible refine (nil_back W d).mono ?_); rintro e w1 ⟨rfl, hd⟩; have HD := Aside0.mk hd; clear hd)
  go_ret2
  exact ⟨rfl, HD.out⟩
theorem nil_tail : Calls Try.prog 11 #[.pointer none] W fun e W' => e = .returned (.slice none 0 0) ∧ Drawn0 W W' := by
  go_enter Try.func11, Try.ntmps11
  go_wp2
  go_ret
  exact ⟨rfl, by repeat (first | exact Drawn0.refl _ | apply Drawn0.step)⟩
theorem nil_len : Calls Try.prog 12 #[.pointer none] W fun e W' => e = .returned (.int .i64 0) ∧ Drawn0 W W' := by
  go_enter Try.func12, Try.ntmps12
  go_wp2
  go_ret
  exact ⟨rfl, by repeat (first | exact Drawn0.refl _ | apply Drawn0.step)⟩
theorem nil_size : Calls Try.prog 21 #[.pointer none] W fun e W' => e = .returned (.int .i64 0) ∧ Drawn0 W W' := by
  go_enter Try.func21, Try.ntmps21
  go_wp2
  go_ret
  exact ⟨rfl, by repeat (first | exact Drawn0.refl _ | apply Drawn0.step)⟩
end
def NB (w W : World) : Prop := Below w.heap.size w W
theorem nb_drawn {w W W' : World} (h : NB w W) (hd : Drawn0 W W') : NB w W' := below_step h hd.below
set_option maxHeartbeats 8000000 in
set_option maxRecDepth 100000 in
theorem nobody (x d n : Int) (w : World) (_ : (Lit.int .u8 x).wf = true) (_ : (Lit.int .i64 d).wf = true) (_ : (Lit.int .i64 n).wf = true) : Calls Try.prog 7 #[.int .u8 x, .int .i64 d, .int .i64 n] w fun e W' => e = .returned (.bool true) ∧ Below w.heap.size w W' := by
  have HB : Aside0 (NB w w) := ⟨Below.refl _ _⟩
  have HNW : Aside0 (∀ W : World, Calls Try.prog 8 #[.int .i64 1] W fun e W' => e = .returned (.tuple #[.pointer (some ⟨W.heap.size + 1, 0, none⟩), .int .i64 0]) ∧ RB W' (W.heap.size + 1) W.heap.size 1 0 0 (List.replicate 1 0) ∧ Below W.heap.size W W') := ⟨fun W => ring_new W 1 (by decide) (by decide)⟩
  go_enter Try.func7, Try.ntmps7
  go_wp2_with (first
    | (go_at_call 9; (with_reducible refine (nil_put _ x).mono ?_); rintro e wn ⟨rfl, hd⟩; have HB' := Aside0.mk (nb_drawn HB.out hd); clear HB hd; have HB := HB'; clear HB')
    | (go_at_call 20; (with_reducible refine (nil_clear _).mono ?_); rintro e wn ⟨rfl, hd⟩; have HB' := Aside0.mk (nb_drawn HB.out hd); clear HB hd; have HB := HB'; clear HB')
    | (go_at_call 13; (with_reducible refine (nil_back _ d).mono ?_); rintro e wn ⟨rfl, hd⟩; have HB' := Aside0.mk (nb_drawn HB.out hd); clear HB hd; have HB := HB'; clear HB')
    | (go_at_call 14; (with_reducible refine (nil_repeat _ d n).mono ?_); rintro e wn ⟨rfl, hd⟩; have HB' := Aside0.mk (nb_drawn HB.out hd); clear HB hd; have HB := HB'; clear HB')
    | (go_at_call 11; (with_reducible refine (nil_tail _).mono ?_); rintro e wn ⟨rfl, hd⟩; have HB' := Aside0.mk (nb_drawn HB.out hd); have HS' := Aside0.mk (rb_below HS.out hd.below); clear HB HS hd; have HB := HB'; have HS := HS'; clear HB' HS')
    | (go_at_call 12; (with_reducible refine (nil_len _).mono ?_); rintro e wn ⟨rfl, hd⟩; have HB' := Aside0.mk (nb_drawn HB.out hd); have HS' := Aside0.mk (rb_below HS.out hd.below); clear HB HS hd; have HB := HB'; have HS := HS'; clear HB' HS')
    | (go_at_call 21; (with_reducible refine (nil_size _).mono ?_); rintro e wn ⟨rfl, hd⟩; have HB' := Aside0.mk (nb_drawn HB.out hd); have HS' := Aside0.mk (rb_below HS.out hd.below); clear HB HS hd; have HB := HB'; have HS := HS'; clear HB' HS')
    | (go_at_call 21; (with_reducible refine (ring_size HS).mono ?_); rintro e wn ⟨rfl, hd⟩; have HB' := Aside0.mk (nb_drawn HB.out hd); clear HB HS hd; have HB := HB'; clear HB')
    | (go_at_call 8; (with_reducible refine (HNW.out _).mono ?_); rintro e wn ⟨rfl, hs, hb⟩; have HS := Aside0.mk hs; have HB' := Aside0.mk (below_step HB.out hb); clear HB hb hs; have HB := HB'; clear HB'))
  go_ret
  exact ⟨rfl, HB.out⟩
end Go.Proofs.Ytcpijkckjahfdaa.PAll
