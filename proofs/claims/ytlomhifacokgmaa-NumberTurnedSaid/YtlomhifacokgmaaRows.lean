/-
  No cell of these rows narrows 'for every input' (looked for: loops, veiled, ifaces, maps, wideKeys, modest, calm, conditions, laid).
  DERIVED. THE GIVEN ROWS OF THIS SEAT. 6 by the template 'for every input the law returns true; each argument reads behind the call as it read before'; 0 by the template 'total and deterministic' (their statements: YtlomhifacokgmaaTotals.lean).
  GIVEN WITH THE SEED: the statements are not yours to turn. If you find one false, say at which input.
  Laid BY PROGRAM, IN A SANDBOX (cutbox-rows.mjs): the forced cells as the released guide's own fill.sh prints them over the translation 0abbb7a3dc249368… (all of the seat's roots in one cut). By AI agents, Wed Nov 11 2026. No macro, syntax, notation, axiom, sorry.
-/
import Derived.Test.YtlomhifacokgmaaChecked
import GoSem.Claim
import GoSem.ClaimJoined
import GoSem.ClaimMapViews
import Derived.JoinedTies
import Derived.KernelRfl
namespace Go.Proofs.Ytlomhifacokgmaa
/- THE CELL 'sum', in the pinned program and in every row, IS THE sha256 OF THE DUMP (.gsa) THAT YtlomhifacokgmaaProg.lean LOADS. Nothing in Lean hashes anything: it is a label: what it is worth is what the hold of that sum in a sandbox is worth. -/
noncomputable def Try.pinned : Pinned := { name := "ytlomhifacokgmaa", sum := "0abbb7a3dc249368091e11884341604b528289305278fe5062962334900539c4", checked := Try.checked }
namespace Rows
def none {H : Type} : Left H := { results := [], args := [] }

/-- 'winklelaw05.NumberTurned': WHATEVER THE INPUT: true; the input reads as it did. -/
def numberTurnedSpec : ChangeSpec := { name := "numberTurned", fn := fun _ => fun
  | [d1, d2, d3] => { results := [.lit (.bool true)], args := [d1, d2, d3] }
  | _ => none }
def numberTurnedRow : OpenClaim := { program := "ytlomhifacokgmaa", sum := "0abbb7a3dc249368091e11884341604b528289305278fe5062962334900539c4", func := "winkle/winklelaw05.NumberTurned", spec := "numberTurned", apart := false }
def NumberTurnedSaid : Prop := numberTurnedRow.holds Try.pinned (OpenSpec.ofChange numberTurnedSpec)

/-- ITS FALSE NEIGHBOUR: 'it returns false'. Refute it at one input. -/
def numberTurnedWrong : ChangeSpec := { name := "numberTurned", fn := fun _ => fun
  | [d1, d2, d3] => { results := [.lit (.bool false)], args := [d1, d2, d3] }
  | _ => none }
def NumberTurnedWrongFalsely : Prop := numberTurnedRow.holds Try.pinned (OpenSpec.ofChange numberTurnedWrong)

/-- 'winklelaw05.NumberPuts': WHATEVER THE INPUT: true; the input reads as it did. -/
def numberPutsSpec : ChangeSpec := { name := "numberPuts", fn := fun _ => fun
  | [d1, d2] => { results := [.lit (.bool true)], args := [d1, d2] }
  | _ => none }
def numberPutsRow : OpenClaim := { program := "ytlomhifacokgmaa", sum := "0abbb7a3dc249368091e11884341604b528289305278fe5062962334900539c4", func := "winkle/winklelaw05.NumberPuts", spec := "numberPuts", apart := false }
def NumberPutsSaid : Prop := numberPutsRow.holds Try.pinned (OpenSpec.ofChange numberPutsSpec)

/-- ITS FALSE NEIGHBOUR: 'it returns false'. Refute it at one input. -/
def numberPutsWrong : ChangeSpec := { name := "numberPuts", fn := fun _ => fun
  | [d1, d2] => { results := [.lit (.bool false)], args := [d1, d2] }
  | _ => none }
def NumberPutsWrongFalsely : Prop := numberPutsRow.holds Try.pinned (OpenSpec.ofChange numberPutsWrong)

/-- 'winklelaw05.NumberBlanks': WHATEVER THE INPUT: true; the input reads as it did. -/
def numberBlanksSpec : ChangeSpec := { name := "numberBlanks", fn := fun _ => fun
  | [d1, d2, d3] => { results := [.lit (.bool true)], args := [d1, d2, d3] }
  | _ => none }
def numberBlanksRow : OpenClaim := { program := "ytlomhifacokgmaa", sum := "0abbb7a3dc249368091e11884341604b528289305278fe5062962334900539c4", func := "winkle/winklelaw05.NumberBlanks", spec := "numberBlanks", apart := false }
def NumberBlanksSaid : Prop := numberBlanksRow.holds Try.pinned (OpenSpec.ofChange numberBlanksSpec)

/-- ITS FALSE NEIGHBOUR: 'it returns false'. Refute it at one input. -/
def numberBlanksWrong : ChangeSpec := { name := "numberBlanks", fn := fun _ => fun
  | [d1, d2, d3] => { results := [.lit (.bool false)], args := [d1, d2, d3] }
  | _ => none }
def NumberBlanksWrongFalsely : Prop := numberBlanksRow.holds Try.pinned (OpenSpec.ofChange numberBlanksWrong)

/-- 'winklelaw05.NumberReads': WHATEVER THE INPUT: true; the input reads as it did. -/
def numberReadsSpec : ChangeSpec := { name := "numberReads", fn := fun _ => fun
  | [d] => { results := [.lit (.bool true)], args := [d] }
  | _ => none }
def numberReadsRow : OpenClaim := { program := "ytlomhifacokgmaa", sum := "0abbb7a3dc249368091e11884341604b528289305278fe5062962334900539c4", func := "winkle/winklelaw05.NumberReads", spec := "numberReads", apart := false }
def NumberReadsSaid : Prop := numberReadsRow.holds Try.pinned (OpenSpec.ofChange numberReadsSpec)

/-- ITS FALSE NEIGHBOUR: 'it returns false'. Refute it at one input. -/
def numberReadsWrong : ChangeSpec := { name := "numberReads", fn := fun _ => fun
  | [d] => { results := [.lit (.bool false)], args := [d] }
  | _ => none }
def NumberReadsWrongFalsely : Prop := numberReadsRow.holds Try.pinned (OpenSpec.ofChange numberReadsWrong)

/-- 'winklelaw05.NumberSums': WHATEVER THE INPUT: true; the input reads as it did. -/
def numberSumsSpec : ChangeSpec := { name := "numberSums", fn := fun _ => fun
  | [d] => { results := [.lit (.bool true)], args := [d] }
  | _ => none }
def numberSumsRow : OpenClaim := { program := "ytlomhifacokgmaa", sum := "0abbb7a3dc249368091e11884341604b528289305278fe5062962334900539c4", func := "winkle/winklelaw05.NumberSums", spec := "numberSums", apart := false }
def NumberSumsSaid : Prop := numberSumsRow.holds Try.pinned (OpenSpec.ofChange numberSumsSpec)

/-- ITS FALSE NEIGHBOUR: 'it returns false'. Refute it at one input. -/
def numberSumsWrong : ChangeSpec := { name := "numberSums", fn := fun _ => fun
  | [d] => { results := [.lit (.bool false)], args := [d] }
  | _ => none }
def NumberSumsWrongFalsely : Prop := numberSumsRow.holds Try.pinned (OpenSpec.ofChange numberSumsWrong)

/-- 'winklelaw05.NumberBack': WHATEVER THE INPUT: true; the input reads as it did. -/
def numberBackSpec : ChangeSpec := { name := "numberBack", fn := fun _ => fun
  | [d1, d2] => { results := [.lit (.bool true)], args := [d1, d2] }
  | _ => none }
def numberBackRow : OpenClaim := { program := "ytlomhifacokgmaa", sum := "0abbb7a3dc249368091e11884341604b528289305278fe5062962334900539c4", func := "winkle/winklelaw05.NumberBack", spec := "numberBack", apart := false }
def NumberBackSaid : Prop := numberBackRow.holds Try.pinned (OpenSpec.ofChange numberBackSpec)

/-- ITS FALSE NEIGHBOUR: 'it returns false'. Refute it at one input. -/
def numberBackWrong : ChangeSpec := { name := "numberBack", fn := fun _ => fun
  | [d1, d2] => { results := [.lit (.bool false)], args := [d1, d2] }
  | _ => none }
def NumberBackWrongFalsely : Prop := numberBackRow.holds Try.pinned (OpenSpec.ofChange numberBackWrong)

/- THE SECOND FORM. 'bulk': how many values and letters a reading holds, each counted each time it is reached (what is shared counts as often as it is met; a slice's spare places count too). A statement '..UptoSaid' is the law's where the arguments, and the package variables that the reading takes, are together of bulk at most 1048576: NARROWER than '..Said'. Prove '..Said' where nothing that the law and all that it calls make is longer than what came in: it says more and counts as full. Else prove '..UptoSaid'. A law counts once. -/
mutual
def uptoBulk {H : Type} : DataW H → Nat
  | .lit (.string bytes) => bytes.length + 1
  | .lit _ => 1
  | .nil => 1
  | .ptr d => uptoBulk d + 1
  | .slice elems spare => uptoBulkAll elems + uptoBulkAll spare + 1
  | .agg parts => uptoBulkAll parts + 1
  | .iface _ d => uptoBulk d + 1
  | .map entries => uptoBulkEntries entries + 1
  | .held _ => 1
def uptoBulkAll {H : Type} : List (DataW H) → Nat
  | [] => 0
  | d :: r => uptoBulk d + uptoBulkAll r
def uptoBulkEntries {H : Type} : List (Lit × DataW H) → Nat
  | [] => 0
  | x :: r => uptoBulkEntry x + uptoBulkEntries r
def uptoBulkEntry {H : Type} : Lit × DataW H → Nat
  | (.string bytes, d) => bytes.length + uptoBulk d + 1
  | (_, d) => uptoBulk d + 1
 end
def uptoSmall : (H : Type) → List (DataW H) → Bool := fun _ ds => decide (uptoBulkAll ds ≤ 1048576)
def OpenSpec.upto (s : _root_.Go.ChangeSpec) : _root_.Go.OpenSpec := { _root_.Go.OpenSpec.ofChange s with cond := some uptoSmall }

/-- 'winklelaw05.NumberTurned', WHERE WHAT IT READS IS OF BULK AT MOST 1048576: true; the input reads as it did. -/
def numberTurnedUptoRow : OpenClaim := { program := "ytlomhifacokgmaa", sum := "0abbb7a3dc249368091e11884341604b528289305278fe5062962334900539c4", func := "winkle/winklelaw05.NumberTurned", spec := "numberTurned", apart := false, narrowed := true }
def NumberTurnedUptoSaid : Prop := numberTurnedUptoRow.holds Try.pinned (OpenSpec.upto numberTurnedSpec)

/-- 'winklelaw05.NumberPuts', WHERE WHAT IT READS IS OF BULK AT MOST 1048576: true; the input reads as it did. -/
def numberPutsUptoRow : OpenClaim := { program := "ytlomhifacokgmaa", sum := "0abbb7a3dc249368091e11884341604b528289305278fe5062962334900539c4", func := "winkle/winklelaw05.NumberPuts", spec := "numberPuts", apart := false, narrowed := true }
def NumberPutsUptoSaid : Prop := numberPutsUptoRow.holds Try.pinned (OpenSpec.upto numberPutsSpec)

/-- 'winklelaw05.NumberBlanks', WHERE WHAT IT READS IS OF BULK AT MOST 1048576: true; the input reads as it did. -/
def numberBlanksUptoRow : OpenClaim := { program := "ytlomhifacokgmaa", sum := "0abbb7a3dc249368091e11884341604b528289305278fe5062962334900539c4", func := "winkle/winklelaw05.NumberBlanks", spec := "numberBlanks", apart := false, narrowed := true }
def NumberBlanksUptoSaid : Prop := numberBlanksUptoRow.holds Try.pinned (OpenSpec.upto numberBlanksSpec)

/-- 'winklelaw05.NumberReads', WHERE WHAT IT READS IS OF BULK AT MOST 1048576: true; the input reads as it did. -/
def numberReadsUptoRow : OpenClaim := { program := "ytlomhifacokgmaa", sum := "0abbb7a3dc249368091e11884341604b528289305278fe5062962334900539c4", func := "winkle/winklelaw05.NumberReads", spec := "numberReads", apart := false, narrowed := true }
def NumberReadsUptoSaid : Prop := numberReadsUptoRow.holds Try.pinned (OpenSpec.upto numberReadsSpec)

/-- 'winklelaw05.NumberSums', WHERE WHAT IT READS IS OF BULK AT MOST 1048576: true; the input reads as it did. -/
def numberSumsUptoRow : OpenClaim := { program := "ytlomhifacokgmaa", sum := "0abbb7a3dc249368091e11884341604b528289305278fe5062962334900539c4", func := "winkle/winklelaw05.NumberSums", spec := "numberSums", apart := false, narrowed := true }
def NumberSumsUptoSaid : Prop := numberSumsUptoRow.holds Try.pinned (OpenSpec.upto numberSumsSpec)

/-- 'winklelaw05.NumberBack', WHERE WHAT IT READS IS OF BULK AT MOST 1048576: true; the input reads as it did. -/
def numberBackUptoRow : OpenClaim := { program := "ytlomhifacokgmaa", sum := "0abbb7a3dc249368091e11884341604b528289305278fe5062962334900539c4", func := "winkle/winklelaw05.NumberBack", spec := "numberBack", apart := false, narrowed := true }
def NumberBackUptoSaid : Prop := numberBackUptoRow.holds Try.pinned (OpenSpec.upto numberBackSpec)

end Rows
end Go.Proofs.Ytlomhifacokgmaa
