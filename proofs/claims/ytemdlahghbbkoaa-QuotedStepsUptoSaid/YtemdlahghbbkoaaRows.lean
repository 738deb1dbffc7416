/-
  No cell of these rows narrows 'for every input' (looked for: loops, veiled, ifaces, maps, wideKeys, modest, calm, conditions, laid).
  DERIVED. THE GIVEN ROWS OF THIS SEAT. 7 by the template 'for every input the law returns true; each argument reads behind the call as it read before'; 0 by the template 'total and deterministic' (their statements: YtemdlahghbbkoaaTotals.lean).
  GIVEN WITH THE SEED: the statements are not yours to turn. If you find one false, say at which input.
  Laid BY PROGRAM, IN A SANDBOX (cutbox-rows.mjs): the forced cells as the released guide's own fill.sh prints them over the translation c958be0638f6ad90… (all of the seat's roots in one cut). By AI agents, Wed Nov 11 2026. No macro, syntax, notation, axiom, sorry.
-/
import Derived.Test.YtemdlahghbbkoaaChecked
import GoSem.Claim
import GoSem.ClaimJoined
import GoSem.ClaimMapViews
import Derived.JoinedTies
import Derived.KernelRfl
namespace Go.Proofs.Ytemdlahghbbkoaa
/- THE CELL 'sum', in the pinned program and in every row, IS THE sha256 OF THE DUMP (.gsa) THAT YtemdlahghbbkoaaProg.lean LOADS. Nothing in Lean hashes anything: it is a label: what it is worth is what the hold of that sum in a sandbox is worth. -/
noncomputable def Try.pinned : Pinned := { name := "ytemdlahghbbkoaa", sum := "c958be0638f6ad900eeb6ff47fd31b0eb83b4814bfab679d43357a890944a647", checked := Try.checked }
namespace Rows
def none {H : Type} : Left H := { results := [], args := [] }

/-- 'winklelaw11.QuotedWhole': WHATEVER THE INPUT: true; the input reads as it did. -/
def quotedWholeSpec : ChangeSpec := { name := "quotedWhole", fn := fun _ => fun
  | [d] => { results := [.lit (.bool true)], args := [d] }
  | _ => none }
def quotedWholeRow : OpenClaim := { program := "ytemdlahghbbkoaa", sum := "c958be0638f6ad900eeb6ff47fd31b0eb83b4814bfab679d43357a890944a647", func := "winkle/winklelaw11.QuotedWhole", spec := "quotedWhole", apart := false }
def QuotedWholeSaid : Prop := quotedWholeRow.holds Try.pinned (OpenSpec.ofChange quotedWholeSpec)

/-- ITS FALSE NEIGHBOUR: 'it returns false'. Refute it at one input. -/
def quotedWholeWrong : ChangeSpec := { name := "quotedWhole", fn := fun _ => fun
  | [d] => { results := [.lit (.bool false)], args := [d] }
  | _ => none }
def QuotedWholeWrongFalsely : Prop := quotedWholeRow.holds Try.pinned (OpenSpec.ofChange quotedWholeWrong)

/-- 'winklelaw11.QuotedWrites': WHATEVER THE INPUT: true; the input reads as it did. -/
def quotedWritesSpec : ChangeSpec := { name := "quotedWrites", fn := fun _ => fun
  | [d1, d2] => { results := [.lit (.bool true)], args := [d1, d2] }
  | _ => none }
def quotedWritesRow : OpenClaim := { program := "ytemdlahghbbkoaa", sum := "c958be0638f6ad900eeb6ff47fd31b0eb83b4814bfab679d43357a890944a647", func := "winkle/winklelaw11.QuotedWrites", spec := "quotedWrites", apart := false }
def QuotedWritesSaid : Prop := quotedWritesRow.holds Try.pinned (OpenSpec.ofChange quotedWritesSpec)

/-- ITS FALSE NEIGHBOUR: 'it returns false'. Refute it at one input. -/
def quotedWritesWrong : ChangeSpec := { name := "quotedWrites", fn := fun _ => fun
  | [d1, d2] => { results := [.lit (.bool false)], args := [d1, d2] }
  | _ => none }
def QuotedWritesWrongFalsely : Prop := quotedWritesRow.holds Try.pinned (OpenSpec.ofChange quotedWritesWrong)

/-- 'winklelaw11.QuotedBack': WHATEVER THE INPUT: true; the input reads as it did. -/
def quotedBackSpec : ChangeSpec := { name := "quotedBack", fn := fun _ => fun
  | [d1, d2] => { results := [.lit (.bool true)], args := [d1, d2] }
  | _ => none }
def quotedBackRow : OpenClaim := { program := "ytemdlahghbbkoaa", sum := "c958be0638f6ad900eeb6ff47fd31b0eb83b4814bfab679d43357a890944a647", func := "winkle/winklelaw11.QuotedBack", spec := "quotedBack", apart := false }
def QuotedBackSaid : Prop := quotedBackRow.holds Try.pinned (OpenSpec.ofChange quotedBackSpec)

/-- ITS FALSE NEIGHBOUR: 'it returns false'. Refute it at one input. -/
def quotedBackWrong : ChangeSpec := { name := "quotedBack", fn := fun _ => fun
  | [d1, d2] => { results := [.lit (.bool false)], args := [d1, d2] }
  | _ => none }
def QuotedBackWrongFalsely : Prop := quotedBackRow.holds Try.pinned (OpenSpec.ofChange quotedBackWrong)

/-- 'winklelaw11.QuotedSoft': WHATEVER THE INPUT: true; the input reads as it did. -/
def quotedSoftSpec : ChangeSpec := { name := "quotedSoft", fn := fun _ => fun
  | [d1, d2] => { results := [.lit (.bool true)], args := [d1, d2] }
  | _ => none }
def quotedSoftRow : OpenClaim := { program := "ytemdlahghbbkoaa", sum := "c958be0638f6ad900eeb6ff47fd31b0eb83b4814bfab679d43357a890944a647", func := "winkle/winklelaw11.QuotedSoft", spec := "quotedSoft", apart := false }
def QuotedSoftSaid : Prop := quotedSoftRow.holds Try.pinned (OpenSpec.ofChange quotedSoftSpec)

/-- ITS FALSE NEIGHBOUR: 'it returns false'. Refute it at one input. -/
def quotedSoftWrong : ChangeSpec := { name := "quotedSoft", fn := fun _ => fun
  | [d1, d2] => { results := [.lit (.bool false)], args := [d1, d2] }
  | _ => none }
def QuotedSoftWrongFalsely : Prop := quotedSoftRow.holds Try.pinned (OpenSpec.ofChange quotedSoftWrong)

/-- 'winklelaw11.QuotedBlanks': WHATEVER THE INPUT: true; the input reads as it did. -/
def quotedBlanksSpec : ChangeSpec := { name := "quotedBlanks", fn := fun _ => fun
  | [d1, d2] => { results := [.lit (.bool true)], args := [d1, d2] }
  | _ => none }
def quotedBlanksRow : OpenClaim := { program := "ytemdlahghbbkoaa", sum := "c958be0638f6ad900eeb6ff47fd31b0eb83b4814bfab679d43357a890944a647", func := "winkle/winklelaw11.QuotedBlanks", spec := "quotedBlanks", apart := false }
def QuotedBlanksSaid : Prop := quotedBlanksRow.holds Try.pinned (OpenSpec.ofChange quotedBlanksSpec)

/-- ITS FALSE NEIGHBOUR: 'it returns false'. Refute it at one input. -/
def quotedBlanksWrong : ChangeSpec := { name := "quotedBlanks", fn := fun _ => fun
  | [d1, d2] => { results := [.lit (.bool false)], args := [d1, d2] }
  | _ => none }
def QuotedBlanksWrongFalsely : Prop := quotedBlanksRow.holds Try.pinned (OpenSpec.ofChange quotedBlanksWrong)

/-- 'winklelaw11.QuotedSteps': WHATEVER THE INPUT: true; the input reads as it did. -/
def quotedStepsSpec : ChangeSpec := { name := "quotedSteps", fn := fun _ => fun
  | [d1, d2] => { results := [.lit (.bool true)], args := [d1, d2] }
  | _ => none }
def quotedStepsRow : OpenClaim := { program := "ytemdlahghbbkoaa", sum := "c958be0638f6ad900eeb6ff47fd31b0eb83b4814bfab679d43357a890944a647", func := "winkle/winklelaw11.QuotedSteps", spec := "quotedSteps", apart := false }
def QuotedStepsSaid : Prop := quotedStepsRow.holds Try.pinned (OpenSpec.ofChange quotedStepsSpec)

/-- ITS FALSE NEIGHBOUR: 'it returns false'. Refute it at one input. -/
def quotedStepsWrong : ChangeSpec := { name := "quotedSteps", fn := fun _ => fun
  | [d1, d2] => { results := [.lit (.bool false)], args := [d1, d2] }
  | _ => none }
def QuotedStepsWrongFalsely : Prop := quotedStepsRow.holds Try.pinned (OpenSpec.ofChange quotedStepsWrong)

/-- 'winklelaw11.QuotedNobody': WHATEVER THE INPUT: true; the input reads as it did. -/
def quotedNobodySpec : ChangeSpec := { name := "quotedNobody", fn := fun _ => fun
  | [d] => { results := [.lit (.bool true)], args := [d] }
  | _ => none }
def quotedNobodyRow : OpenClaim := { program := "ytemdlahghbbkoaa", sum := "c958be0638f6ad900eeb6ff47fd31b0eb83b4814bfab679d43357a890944a647", func := "winkle/winklelaw11.QuotedNobody", spec := "quotedNobody", apart := false }
def QuotedNobodySaid : Prop := quotedNobodyRow.holds Try.pinned (OpenSpec.ofChange quotedNobodySpec)

/-- ITS FALSE NEIGHBOUR: 'it returns false'. Refute it at one input. -/
def quotedNobodyWrong : ChangeSpec := { name := "quotedNobody", fn := fun _ => fun
  | [d] => { results := [.lit (.bool false)], args := [d] }
  | _ => none }
def QuotedNobodyWrongFalsely : Prop := quotedNobodyRow.holds Try.pinned (OpenSpec.ofChange quotedNobodyWrong)

/- THE SECOND FORM. 'bulk': how many values and letters a reading holds, each counted each time it is reached (what is shared counts as often as it is met; a slice's spare places count too). A statement '..UptoSaid' is the law's where the arguments, and the package variables that the reading takes, are together of bulk at most 1048576: NARROWER than '..Said'. Prove '..Said' where nothing that the law and all that it calls make is longer than what came in: it says more and counts as full. Else prove '..UptoSaid'. A law counts once. -/
mutual
def uptoBulk {H : Type} : DataW H → Nat
  | .lit (.string bytes) => bytes.length + 1
  | .lit _ => 1
  | .nil => 1
  | .ptr d => uptoBulk d + 1
  | .slice elems spare => uptoBulkAll elems + uptoBulkAll spare + 1
  | .agg parts => uptoBulkAll parts + 1
  | .iface _ d => uptoBulk d + 1
  | .map entries => uptoBulkEntries entries + 1
  | .held _ => 1
def uptoBulkAll {H : Type} : List (DataW H) → Nat
  | [] => 0
  | d :: r => uptoBulk d + uptoBulkAll r
def uptoBulkEntries {H : Type} : List (Lit × DataW H) → Nat
  | [] => 0
  | x :: r => uptoBulkEntry x + uptoBulkEntries r
def uptoBulkEntry {H : Type} : Lit × DataW H → Nat
  | (.string bytes, d) => bytes.length + uptoBulk d + 1
  | (_, d) => uptoBulk d + 1
 end
def uptoSmall : (H : Type) → List (DataW H) → Bool := fun _ ds => decide (uptoBulkAll ds ≤ 1048576)
def OpenSpec.upto (s : _root_.Go.ChangeSpec) : _root_.Go.OpenSpec := { _root_.Go.OpenSpec.ofChange s with cond := some uptoSmall }

/-- 'winklelaw11.QuotedWhole', WHERE WHAT IT READS IS OF BULK AT MOST 1048576: true; the input reads as it did. -/
def quotedWholeUptoRow : OpenClaim := { program := "ytemdlahghbbkoaa", sum := "c958be0638f6ad900eeb6ff47fd31b0eb83b4814bfab679d43357a890944a647", func := "winkle/winklelaw11.QuotedWhole", spec := "quotedWhole", apart := false, narrowed := true }
def QuotedWholeUptoSaid : Prop := quotedWholeUptoRow.holds Try.pinned (OpenSpec.upto quotedWholeSpec)

/-- 'winklelaw11.QuotedWrites', WHERE WHAT IT READS IS OF BULK AT MOST 1048576: true; the input reads as it did. -/
def quotedWritesUptoRow : OpenClaim := { program := "ytemdlahghbbkoaa", sum := "c958be0638f6ad900eeb6ff47fd31b0eb83b4814bfab679d43357a890944a647", func := "winkle/winklelaw11.QuotedWrites", spec := "quotedWrites", apart := false, narrowed := true }
def QuotedWritesUptoSaid : Prop := quotedWritesUptoRow.holds Try.pinned (OpenSpec.upto quotedWritesSpec)

/-- 'winklelaw11.QuotedBack', WHERE WHAT IT READS IS OF BULK AT MOST 1048576: true; the input reads as it did. -/
def quotedBackUptoRow : OpenClaim := { program := "ytemdlahghbbkoaa", sum := "c958be0638f6ad900eeb6ff47fd31b0eb83b4814bfab679d43357a890944a647", func := "winkle/winklelaw11.QuotedBack", spec := "quotedBack", apart := false, narrowed := true }
def QuotedBackUptoSaid : Prop := quotedBackUptoRow.holds Try.pinned (OpenSpec.upto quotedBackSpec)

/-- 'winklelaw11.QuotedSoft', WHERE WHAT IT READS IS OF BULK AT MOST 1048576: true; the input reads as it did. -/
def quotedSoftUptoRow : OpenClaim := { program := "ytemdlahghbbkoaa", sum := "c958be0638f6ad900eeb6ff47fd31b0eb83b4814bfab679d43357a890944a647", func := "winkle/winklelaw11.QuotedSoft", spec := "quotedSoft", apart := false, narrowed := true }
def QuotedSoftUptoSaid : Prop := quotedSoftUptoRow.holds Try.pinned (OpenSpec.upto quotedSoftSpec)

/-- 'winklelaw11.QuotedBlanks', WHERE WHAT IT READS IS OF BULK AT MOST 1048576: true; the input reads as it did. -/
def quotedBlanksUptoRow : OpenClaim := { program := "ytemdlahghbbkoaa", sum := "c958be0638f6ad900eeb6ff47fd31b0eb83b4814bfab679d43357a890944a647", func := "winkle/winklelaw11.QuotedBlanks", spec := "quotedBlanks", apart := false, narrowed := true }
def QuotedBlanksUptoSaid : Prop := quotedBlanksUptoRow.holds Try.pinned (OpenSpec.upto quotedBlanksSpec)

/-- 'winklelaw11.QuotedSteps', WHERE WHAT IT READS IS OF BULK AT MOST 1048576: true; the input reads as it did. -/
def quotedStepsUptoRow : OpenClaim := { program := "ytemdlahghbbkoaa", sum := "c958be0638f6ad900eeb6ff47fd31b0eb83b4814bfab679d43357a890944a647", func := "winkle/winklelaw11.QuotedSteps", spec := "quotedSteps", apart := false, narrowed := true }
def QuotedStepsUptoSaid : Prop := quotedStepsUptoRow.holds Try.pinned (OpenSpec.upto quotedStepsSpec)

/-- 'winklelaw11.QuotedNobody', WHERE WHAT IT READS IS OF BULK AT MOST 1048576: true; the input reads as it did. -/
def quotedNobodyUptoRow : OpenClaim := { program := "ytemdlahghbbkoaa", sum := "c958be0638f6ad900eeb6ff47fd31b0eb83b4814bfab679d43357a890944a647", func := "winkle/winklelaw11.QuotedNobody", spec := "quotedNobody", apart := false, narrowed := true }
def QuotedNobodyUptoSaid : Prop := quotedNobodyUptoRow.holds Try.pinned (OpenSpec.upto quotedNobodySpec)

end Rows
end Go.Proofs.Ytemdlahghbbkoaa
