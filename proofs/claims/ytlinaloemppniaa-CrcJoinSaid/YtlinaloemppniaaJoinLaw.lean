/- CrcJoin: any two numbers are joined as the document says, whatever the length; nothing joined changes nothing. -/
import Derived.Test.YtlinaloemppniaaRJoin
namespace Go.Proofs.Ytlinaloemppniaa.PAll
open Go.RowKit Go.Proofs.Ytlinaloemppniaa.Crc Go.Proofs.Ytlinaloemppniaa.CrcMath Go.Proofs.YtlinaloemppniaaW.PrintWords Go.Proofs.YtlinaloemppniaaW.PrintLast Go.Proofs.YtlinaloemppniaaW.PrintMore
attribute [local go_sem] max2_int min2_int max_two min_two max_three min_three max_four min_four   -- for this text's walks alone
set_option linter.unusedVariables false
set_option linter.unusedSimpArgs false
theorem join_none (a : B) : joinB a 0#32 0 = a := by unfold joinB; simp [mvn]
set_option maxHeartbeats 8000000 in
set_option maxRecDepth 100000 in
theorem crcJoin_bits (a b : B) (n : Int) (hn : n ≤ 9223372036854775807) (w : World) : Calls Try.prog 3 #[.int .u32 (I a), .int .u32 (I b), .int .i64 n] w fun e w' => e = .returned (.bool true) ∧ Below w.heap.size w w' := by
  have HB := Aside0.mk (Below.refl w.heap.size w)
  have H1 := Aside0.mk (fun W => join_calls a b n hn W)
  have H2 := Aside0.mk (fun W => rjoin_calls a b n hn W)
  have H3 := Aside0.mk (fun W => join_calls a 0#32 0 (by decide) W)
  rw [join_none] at H3
  have e0 : I 0#32 = 0 := rfl
  rw [e0] at H3
  clear e0
  generalize joinB a b n = X at *
  have hxx : (I X == I X) = true := beq_self_eq_true _
  have haa : (I a == I a) = true := beq_self_eq_true _
  clear hn
  go_enter Try.func3, Try.ntmps3
  go_wp2_with (first
    | (go_at_call 5; (with_reducible refine (H2.out _).mono ?_); rintro e w2 ⟨rfl, hb⟩; have HB2 := Aside0.mk (below_step HB1.out hb); clear hb HB1)
    | (go_at_call 4; (with_reducible refine (H1.out _).mono ?_); rintro e w1 ⟨rfl, hb⟩; have HB1 := Aside0.mk (below_step HB.out hb); clear hb HB H1)
    | (go_at_call 4; (with_reducible refine (H3.out _).mono ?_); rintro e w3 ⟨rfl, hb⟩; have HB3 := Aside0.mk (below_step HB2.out hb); clear hb HB2 H3))
  go_ret
  exact ⟨rfl, HB3.out⟩
theorem crcJoin_walk (a b n : Int) (w : World) (ha : (Lit.int .u32 a).wf = true) (hb : (Lit.int .u32 b).wf = true) (hn : (Lit.int .i64 n).wf = true) : Calls Try.prog 3 #[.int .u32 a, .int .u32 b, .int .i64 n] w fun e w' => e = .returned (.bool true) ∧ Below w.heap.size w w' := by
  obtain ⟨a, rfl⟩ := u32_I ha
  obtain ⟨b, rfl⟩ := u32_I hb
  exact crcJoin_bits a b n (by have h' : -9223372036854775808 ≤ n ∧ n ≤ 9223372036854775807 := by simpa [Lit.wf, IntKind.min, IntKind.max, IntKind.signed, IntKind.bits] using hn
                               exact h'.2) w
end Go.Proofs.Ytlinaloemppniaa.PAll
