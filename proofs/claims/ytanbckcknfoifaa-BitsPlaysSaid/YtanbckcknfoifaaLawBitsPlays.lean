-- Laid by a program of this session (a row for a walk by hand)
import Derived.Test.YtanbckcknfoifaaRows
import Derived.Test.YtanbckcknfoifaaPlays
import Derived.WalkKit
import Derived.ProofKit
import Derived.OpenShut
import Derived.ShutString
import Derived.ChangeOld
import Derived.Below
import Derived.SizedLaws
import Derived.JoinedCond
import Derived.Test.YtanbckcknfoifaaWSized
import Derived.Test.YtanbckcknfoifaaActs
namespace Go.Proofs.Ytanbckcknfoifaa.bitsPlays
open Go.ChangeShapes Go.WideShapes Go.ChangeAt Go.RowKit
open Go.ChangeMaps (open_string shut_string)
set_option linter.unusedVariables false
theorem own : ownKnob Try.prog.godebug = none := by kernel_rfl
theorem laidOut : laidOutB Try.prog = true := by kernel_rfl
set_option maxRecDepth 100000 in
theorem lifted (os : Os) (started : os.Started) (H : Type) (enc : TypeId × Value → H) :
    ReturnsInHanded {} Try.checked os 7 .any (Rows.bitsPlaysSpec.pre6 enc Try.prog Try.f7 Rows.bitsPlaysRow.domain false) (Rows.bitsPlaysSpec.post enc Try.prog Try.f7 false true false false) := by
  refine returnsInHanded_of_change_sized (C := Try.checked) own started (by kernel_rfl) Try.func7
    (ChangeSpec.witness6 (enc := enc) (C := Try.checked) false ⟨#[], #[.slice none 0 0], []⟩ 8 (by kernel_rfl) (by kernel_rfl) (by kernel_rfl) (by kernel_rfl)) ?_
  intro W base args ds gs before hval0 hW hcnd hsz0 _
  have hsz : (DataW.weightsEach Try.prog (Try.f7.params.toList ++ Rows.bitsPlaysSpec.plain.varTypes Try.prog) (ds ++ gs)).all (· ≤ reachBytes) = true := hsz0
  have hval : ∀ (j : Nat) t v, Try.f7.params[j]? = some t → args[j]? = some v → Value.okWide Try.prog W .any base t v := hval0
  have hW' := hW
  obtain ⟨p, q, hA0, hV, rfl, hfz, hnd⟩ := hW
  have hA : DataW.TrodAll enc Try.prog W 0 (fun _ => true) true Try.f7.params.toList args.toList ds p := hA0
  rw [Try.params7] at hA hval hsz
  obtain ⟨v0, vs0, d0, ds0, p0, q0, hargs, rfl, rfl, h0, r0⟩ := trodAll_cons hA
  obtain ⟨rfl, rfl, rfl⟩ := trodAll_nil r0
  obtain rfl : args = #[v0] := by cases args; simp_all
  obtain ⟨rfl, rfl⟩ := trodVars_none hV
  obtain ⟨a0, len0, cap0, rfl⟩ := okWide_slice Try.underlying39 (hval 0 39 v0 rfl rfl)
  have k0 := h0
  have lt0 : ∀ x ∈ p0, x.block < W.heap.size := by obtain ⟨m, hm⟩ := k0; exact DataW.trod_lt m _ _ _ hm
  obtain ⟨l0, rfl, hc0, hm0, hR0⟩ := Acts.acts_open [.u8, .u8, .i64] Try.underlying39 Try.underlying45 (by kernel_rfl) (by kernel_rfl) (fun j k f hk hf => by
    match j, hk, hf with
    | 0, hk, hf => cases hk; cases hf; exact ⟨rfl, by kernel_rfl, Try.underlying5⟩
    | 1, hk, hf => cases hk; cases hf; exact ⟨rfl, by kernel_rfl, Try.underlying5⟩
    | 2, hk, hf => cases hk; cases hf; exact ⟨rfl, by kernel_rfl, Try.underlying3⟩
    | j + 3, hk, hf => simp at hk) h0
  have hn0 : l0.length ≤ 9223372036854775807 := Nat.le_trans hm0 (by decide)
  clear hA0 hval0 hsz0 hsz
  refine (PAll.plays_walk a0 cap0 l0 W hR0 hc0 hn0).mono fun e W' ⟨he, bel⟩ => ?_
  subst he
  exact ⟨_, rfl, _, _, _, [], _, [], hW', trodAll_mk1 (shut_bool Try.underlying4 _), (trodAll_cons_mk (Below.trod laidOut (by kernel_rfl) (of_decide_eq_true (by kernel_rfl)) k0 bel lt0) trodAll_mk0), rfl, bel.frame _, fun h => by cases h⟩
theorem over : Rows.bitsPlaysRow.holds Try.pinned (OpenSpec.ofChange Rows.bitsPlaysSpec) :=
  OpenClaim.holds_of_wide 7 Try.f7 rfl rfl rfl rfl rfl rfl rfl ⟨rfl, rfl, rfl, rfl, rfl⟩ rfl rfl rfl rfl rfl (by kernel_rfl) Try.func7 (by kernel_rfl)
    (of_decide_eq_true (by kernel_rfl)) (by unfold Func.isWrapper; first | (rw [if_pos (by decide +kernel)]; kernel_rfl) | (rw [if_neg (by decide +kernel)]; exact ⟨rfl, rfl⟩))
    (fun os started H enc _ => lifted os started H enc)
theorem proved : Rows.BitsPlaysSaid := over
#print axioms proved
end Go.Proofs.Ytanbckcknfoifaa.bitsPlays
namespace Go.Proofs.Ytanbckcknfoifaa
/-- The row, under a short name, for the claim. -/
theorem bitsPlays_holds : Rows.BitsPlaysSaid := bitsPlays.proved
end Go.Proofs.Ytanbckcknfoifaa
