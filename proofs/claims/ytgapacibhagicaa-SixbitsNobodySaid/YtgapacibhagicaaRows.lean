/-
  No cell of these rows narrows 'for every input' (looked for: loops, veiled, ifaces, maps, wideKeys, modest, calm, conditions, laid).
  DERIVED. THE GIVEN ROWS OF THIS SEAT. 7 by the template 'for every input the law returns true; each argument reads behind the call as it read before'; 0 by the template 'total and deterministic' (their statements: YtgapacibhagicaaTotals.lean).
  GIVEN WITH THE SEED: the statements are not yours to turn. If you find one false, say at which input.
  Laid BY PROGRAM, IN A SANDBOX (cutbox-rows.mjs): the forced cells as the released guide's own fill.sh prints them over the translation 90340ec13decd44d… (all of the seat's roots in one cut). By AI agents, Wed Nov 11 2026. No macro, syntax, notation, axiom, sorry.
-/
import Derived.Test.YtgapacibhagicaaChecked
import GoSem.Claim
import GoSem.ClaimJoined
import GoSem.ClaimMapViews
import Derived.JoinedTies
import Derived.KernelRfl
namespace Go.Proofs.Ytgapacibhagicaa
/- THE CELL 'sum', in the pinned program and in every row, IS THE sha256 OF THE DUMP (.gsa) THAT YtgapacibhagicaaProg.lean LOADS. Nothing in Lean hashes anything: it is a label: what it is worth is what the hold of that sum in a sandbox is worth. -/
noncomputable def Try.pinned : Pinned := { name := "ytgapacibhagicaa", sum := "90340ec13decd44d926a797236fa0d831cc6ec169488d6cce0a30f183f6e2170", checked := Try.checked }
namespace Rows
def none {H : Type} : Left H := { results := [], args := [] }

/-- 'winklelaw10.SixbitsWhole': WHATEVER THE INPUT: true; the input reads as it did. -/
def sixbitsWholeSpec : ChangeSpec := { name := "sixbitsWhole", fn := fun _ => fun
  | [d] => { results := [.lit (.bool true)], args := [d] }
  | _ => none }
def sixbitsWholeRow : OpenClaim := { program := "ytgapacibhagicaa", sum := "90340ec13decd44d926a797236fa0d831cc6ec169488d6cce0a30f183f6e2170", func := "winkle/winklelaw10.SixbitsWhole", spec := "sixbitsWhole", unfollowed := true, recurses := true, apart := false }
def SixbitsWholeSaid : Prop := sixbitsWholeRow.holds Try.pinned (OpenSpec.ofChange sixbitsWholeSpec)

/-- ITS FALSE NEIGHBOUR: 'it returns false'. Refute it at one input. -/
def sixbitsWholeWrong : ChangeSpec := { name := "sixbitsWhole", fn := fun _ => fun
  | [d] => { results := [.lit (.bool false)], args := [d] }
  | _ => none }
def SixbitsWholeWrongFalsely : Prop := sixbitsWholeRow.holds Try.pinned (OpenSpec.ofChange sixbitsWholeWrong)

/-- 'winklelaw10.SixbitsWrites': WHATEVER THE INPUT: true; the input reads as it did. -/
def sixbitsWritesSpec : ChangeSpec := { name := "sixbitsWrites", fn := fun _ => fun
  | [d1, d2] => { results := [.lit (.bool true)], args := [d1, d2] }
  | _ => none }
def sixbitsWritesRow : OpenClaim := { program := "ytgapacibhagicaa", sum := "90340ec13decd44d926a797236fa0d831cc6ec169488d6cce0a30f183f6e2170", func := "winkle/winklelaw10.SixbitsWrites", spec := "sixbitsWrites", unfollowed := true, recurses := true, apart := false }
def SixbitsWritesSaid : Prop := sixbitsWritesRow.holds Try.pinned (OpenSpec.ofChange sixbitsWritesSpec)

/-- ITS FALSE NEIGHBOUR: 'it returns false'. Refute it at one input. -/
def sixbitsWritesWrong : ChangeSpec := { name := "sixbitsWrites", fn := fun _ => fun
  | [d1, d2] => { results := [.lit (.bool false)], args := [d1, d2] }
  | _ => none }
def SixbitsWritesWrongFalsely : Prop := sixbitsWritesRow.holds Try.pinned (OpenSpec.ofChange sixbitsWritesWrong)

/-- 'winklelaw10.SixbitsBack': WHATEVER THE INPUT: true; the input reads as it did. -/
def sixbitsBackSpec : ChangeSpec := { name := "sixbitsBack", fn := fun _ => fun
  | [d1, d2] => { results := [.lit (.bool true)], args := [d1, d2] }
  | _ => none }
def sixbitsBackRow : OpenClaim := { program := "ytgapacibhagicaa", sum := "90340ec13decd44d926a797236fa0d831cc6ec169488d6cce0a30f183f6e2170", func := "winkle/winklelaw10.SixbitsBack", spec := "sixbitsBack", unfollowed := true, recurses := true, apart := false }
def SixbitsBackSaid : Prop := sixbitsBackRow.holds Try.pinned (OpenSpec.ofChange sixbitsBackSpec)

/-- ITS FALSE NEIGHBOUR: 'it returns false'. Refute it at one input. -/
def sixbitsBackWrong : ChangeSpec := { name := "sixbitsBack", fn := fun _ => fun
  | [d1, d2] => { results := [.lit (.bool false)], args := [d1, d2] }
  | _ => none }
def SixbitsBackWrongFalsely : Prop := sixbitsBackRow.holds Try.pinned (OpenSpec.ofChange sixbitsBackWrong)

/-- 'winklelaw10.SixbitsBlanks': WHATEVER THE INPUT: true; the input reads as it did. -/
def sixbitsBlanksSpec : ChangeSpec := { name := "sixbitsBlanks", fn := fun _ => fun
  | [d1, d2] => { results := [.lit (.bool true)], args := [d1, d2] }
  | _ => none }
def sixbitsBlanksRow : OpenClaim := { program := "ytgapacibhagicaa", sum := "90340ec13decd44d926a797236fa0d831cc6ec169488d6cce0a30f183f6e2170", func := "winkle/winklelaw10.SixbitsBlanks", spec := "sixbitsBlanks", unfollowed := true, recurses := true, apart := false }
def SixbitsBlanksSaid : Prop := sixbitsBlanksRow.holds Try.pinned (OpenSpec.ofChange sixbitsBlanksSpec)

/-- ITS FALSE NEIGHBOUR: 'it returns false'. Refute it at one input. -/
def sixbitsBlanksWrong : ChangeSpec := { name := "sixbitsBlanks", fn := fun _ => fun
  | [d1, d2] => { results := [.lit (.bool false)], args := [d1, d2] }
  | _ => none }
def SixbitsBlanksWrongFalsely : Prop := sixbitsBlanksRow.holds Try.pinned (OpenSpec.ofChange sixbitsBlanksWrong)

/-- 'winklelaw10.SixbitsCuts': WHATEVER THE INPUT: true; the input reads as it did. -/
def sixbitsCutsSpec : ChangeSpec := { name := "sixbitsCuts", fn := fun _ => fun
  | [d1, d2] => { results := [.lit (.bool true)], args := [d1, d2] }
  | _ => none }
def sixbitsCutsRow : OpenClaim := { program := "ytgapacibhagicaa", sum := "90340ec13decd44d926a797236fa0d831cc6ec169488d6cce0a30f183f6e2170", func := "winkle/winklelaw10.SixbitsCuts", spec := "sixbitsCuts", unfollowed := true, recurses := true, apart := false }
def SixbitsCutsSaid : Prop := sixbitsCutsRow.holds Try.pinned (OpenSpec.ofChange sixbitsCutsSpec)

/-- ITS FALSE NEIGHBOUR: 'it returns false'. Refute it at one input. -/
def sixbitsCutsWrong : ChangeSpec := { name := "sixbitsCuts", fn := fun _ => fun
  | [d1, d2] => { results := [.lit (.bool false)], args := [d1, d2] }
  | _ => none }
def SixbitsCutsWrongFalsely : Prop := sixbitsCutsRow.holds Try.pinned (OpenSpec.ofChange sixbitsCutsWrong)

/-- 'winklelaw10.SixbitsSteps': WHATEVER THE INPUT: true; the input reads as it did. -/
def sixbitsStepsSpec : ChangeSpec := { name := "sixbitsSteps", fn := fun _ => fun
  | [d1, d2] => { results := [.lit (.bool true)], args := [d1, d2] }
  | _ => none }
def sixbitsStepsRow : OpenClaim := { program := "ytgapacibhagicaa", sum := "90340ec13decd44d926a797236fa0d831cc6ec169488d6cce0a30f183f6e2170", func := "winkle/winklelaw10.SixbitsSteps", spec := "sixbitsSteps", unfollowed := true, recurses := true, apart := false }
def SixbitsStepsSaid : Prop := sixbitsStepsRow.holds Try.pinned (OpenSpec.ofChange sixbitsStepsSpec)

/-- ITS FALSE NEIGHBOUR: 'it returns false'. Refute it at one input. -/
def sixbitsStepsWrong : ChangeSpec := { name := "sixbitsSteps", fn := fun _ => fun
  | [d1, d2] => { results := [.lit (.bool false)], args := [d1, d2] }
  | _ => none }
def SixbitsStepsWrongFalsely : Prop := sixbitsStepsRow.holds Try.pinned (OpenSpec.ofChange sixbitsStepsWrong)

/-- 'winklelaw10.SixbitsNobody': WHATEVER THE INPUT: true; the input reads as it did. -/
def sixbitsNobodySpec : ChangeSpec := { name := "sixbitsNobody", fn := fun _ => fun
  | [d] => { results := [.lit (.bool true)], args := [d] }
  | _ => none }
def sixbitsNobodyRow : OpenClaim := { program := "ytgapacibhagicaa", sum := "90340ec13decd44d926a797236fa0d831cc6ec169488d6cce0a30f183f6e2170", func := "winkle/winklelaw10.SixbitsNobody", spec := "sixbitsNobody", unfollowed := true, recurses := true, apart := false }
def SixbitsNobodySaid : Prop := sixbitsNobodyRow.holds Try.pinned (OpenSpec.ofChange sixbitsNobodySpec)

/-- ITS FALSE NEIGHBOUR: 'it returns false'. Refute it at one input. -/
def sixbitsNobodyWrong : ChangeSpec := { name := "sixbitsNobody", fn := fun _ => fun
  | [d] => { results := [.lit (.bool false)], args := [d] }
  | _ => none }
def SixbitsNobodyWrongFalsely : Prop := sixbitsNobodyRow.holds Try.pinned (OpenSpec.ofChange sixbitsNobodyWrong)

/- THE SECOND FORM. 'bulk': how many values and letters a reading holds, each counted each time it is reached (what is shared counts as often as it is met; a slice's spare places count too). A statement '..UptoSaid' is the law's where the arguments, and the package variables that the reading takes, are together of bulk at most 1048576: NARROWER than '..Said'. Prove '..Said' where nothing that the law and all that it calls make is longer than what came in: it says more and counts as full. Else prove '..UptoSaid'. A law counts once. -/
mutual
def uptoBulk {H : Type} : DataW H → Nat
  | .lit (.string bytes) => bytes.length + 1
  | .lit _ => 1
  | .nil => 1
  | .ptr d => uptoBulk d + 1
  | .slice elems spare => uptoBulkAll elems + uptoBulkAll spare + 1
  | .agg parts => uptoBulkAll parts + 1
  | .iface _ d => uptoBulk d + 1
  | .map entries => uptoBulkEntries entries + 1
  | .held _ => 1
def uptoBulkAll {H : Type} : List (DataW H) → Nat
  | [] => 0
  | d :: r => uptoBulk d + uptoBulkAll r
def uptoBulkEntries {H : Type} : List (Lit × DataW H) → Nat
  | [] => 0
  | x :: r => uptoBulkEntry x + uptoBulkEntries r
def uptoBulkEntry {H : Type} : Lit × DataW H → Nat
  | (.string bytes, d) => bytes.length + uptoBulk d + 1
  | (_, d) => uptoBulk d + 1
 end
def uptoSmall : (H : Type) → List (DataW H) → Bool := fun _ ds => decide (uptoBulkAll ds ≤ 1048576)
def OpenSpec.upto (s : _root_.Go.ChangeSpec) : _root_.Go.OpenSpec := { _root_.Go.OpenSpec.ofChange s with cond := some uptoSmall }

/-- 'winklelaw10.SixbitsWhole', WHERE WHAT IT READS IS OF BULK AT MOST 1048576: true; the input reads as it did. -/
def sixbitsWholeUptoRow : OpenClaim := { program := "ytgapacibhagicaa", sum := "90340ec13decd44d926a797236fa0d831cc6ec169488d6cce0a30f183f6e2170", func := "winkle/winklelaw10.SixbitsWhole", spec := "sixbitsWhole", unfollowed := true, recurses := true, apart := false, narrowed := true }
def SixbitsWholeUptoSaid : Prop := sixbitsWholeUptoRow.holds Try.pinned (OpenSpec.upto sixbitsWholeSpec)

/-- 'winklelaw10.SixbitsWrites', WHERE WHAT IT READS IS OF BULK AT MOST 1048576: true; the input reads as it did. -/
def sixbitsWritesUptoRow : OpenClaim := { program := "ytgapacibhagicaa", sum := "90340ec13decd44d926a797236fa0d831cc6ec169488d6cce0a30f183f6e2170", func := "winkle/winklelaw10.SixbitsWrites", spec := "sixbitsWrites", unfollowed := true, recurses := true, apart := false, narrowed := true }
def SixbitsWritesUptoSaid : Prop := sixbitsWritesUptoRow.holds Try.pinned (OpenSpec.upto sixbitsWritesSpec)

/-- 'winklelaw10.SixbitsBack', WHERE WHAT IT READS IS OF BULK AT MOST 1048576: true; the input reads as it did. -/
def sixbitsBackUptoRow : OpenClaim := { program := "ytgapacibhagicaa", sum := "90340ec13decd44d926a797236fa0d831cc6ec169488d6cce0a30f183f6e2170", func := "winkle/winklelaw10.SixbitsBack", spec := "sixbitsBack", unfollowed := true, recurses := true, apart := false, narrowed := true }
def SixbitsBackUptoSaid : Prop := sixbitsBackUptoRow.holds Try.pinned (OpenSpec.upto sixbitsBackSpec)

/-- 'winklelaw10.SixbitsBlanks', WHERE WHAT IT READS IS OF BULK AT MOST 1048576: true; the input reads as it did. -/
def sixbitsBlanksUptoRow : OpenClaim := { program := "ytgapacibhagicaa", sum := "90340ec13decd44d926a797236fa0d831cc6ec169488d6cce0a30f183f6e2170", func := "winkle/winklelaw10.SixbitsBlanks", spec := "sixbitsBlanks", unfollowed := true, recurses := true, apart := false, narrowed := true }
def SixbitsBlanksUptoSaid : Prop := sixbitsBlanksUptoRow.holds Try.pinned (OpenSpec.upto sixbitsBlanksSpec)

/-- 'winklelaw10.SixbitsCuts', WHERE WHAT IT READS IS OF BULK AT MOST 1048576: true; the input reads as it did. -/
def sixbitsCutsUptoRow : OpenClaim := { program := "ytgapacibhagicaa", sum := "90340ec13decd44d926a797236fa0d831cc6ec169488d6cce0a30f183f6e2170", func := "winkle/winklelaw10.SixbitsCuts", spec := "sixbitsCuts", unfollowed := true, recurses := true, apart := false, narrowed := true }
def SixbitsCutsUptoSaid : Prop := sixbitsCutsUptoRow.holds Try.pinned (OpenSpec.upto sixbitsCutsSpec)

/-- 'winklelaw10.SixbitsSteps', WHERE WHAT IT READS IS OF BULK AT MOST 1048576: true; the input reads as it did. -/
def sixbitsStepsUptoRow : OpenClaim := { program := "ytgapacibhagicaa", sum := "90340ec13decd44d926a797236fa0d831cc6ec169488d6cce0a30f183f6e2170", func := "winkle/winklelaw10.SixbitsSteps", spec := "sixbitsSteps", unfollowed := true, recurses := true, apart := false, narrowed := true }
def SixbitsStepsUptoSaid : Prop := sixbitsStepsUptoRow.holds Try.pinned (OpenSpec.upto sixbitsStepsSpec)

/-- 'winklelaw10.SixbitsNobody', WHERE WHAT IT READS IS OF BULK AT MOST 1048576: true; the input reads as it did. -/
def sixbitsNobodyUptoRow : OpenClaim := { program := "ytgapacibhagicaa", sum := "90340ec13decd44d926a797236fa0d831cc6ec169488d6cce0a30f183f6e2170", func := "winkle/winklelaw10.SixbitsNobody", spec := "sixbitsNobody", unfollowed := true, recurses := true, apart := false, narrowed := true }
def SixbitsNobodyUptoSaid : Prop := sixbitsNobodyUptoRow.holds Try.pinned (OpenSpec.upto sixbitsNobodySpec)

end Rows
end Go.Proofs.Ytgapacibhagicaa
