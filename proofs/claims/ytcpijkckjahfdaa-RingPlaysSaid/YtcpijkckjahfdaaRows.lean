/-
  No cell of these rows narrows 'for every input' (looked for: loops, veiled, ifaces, maps, wideKeys, modest, calm, conditions, laid).
  DERIVED. THE GIVEN ROWS OF THIS SEAT. 5 by the template 'for every input the law returns true; each argument reads behind the call as it read before'; 0 by the template 'total and deterministic' (their statements: YtcpijkckjahfdaaTotals.lean).
  GIVEN WITH THE SEED: the statements are not yours to turn. If you find one false, say at which input.
  Laid BY PROGRAM, IN A SANDBOX (cutbox-rows.mjs): the forced cells as the released guide's own fill.sh prints them over the translation 37628e5c6da0898a… (all of the seat's roots in one cut). By AI agents, Wed Nov 11 2026. No macro, syntax, notation, axiom, sorry.
-/
import Derived.Test.YtcpijkckjahfdaaChecked
import GoSem.Claim
import GoSem.ClaimJoined
import GoSem.ClaimMapViews
import Derived.JoinedTies
import Derived.KernelRfl
namespace Go.Proofs.Ytcpijkckjahfdaa
/- THE CELL 'sum', in the pinned program and in every row, IS THE sha256 OF THE DUMP (.gsa) THAT YtcpijkckjahfdaaProg.lean LOADS. Nothing in Lean hashes anything: it is a label: what it is worth is what the hold of that sum in a sandbox is worth. -/
noncomputable def Try.pinned : Pinned := { name := "ytcpijkckjahfdaa", sum := "37628e5c6da0898a56fd27352d359eb33706fa35601a343a6b1f4363b1da99ba", checked := Try.checked }
namespace Rows
def none {H : Type} : Left H := { results := [], args := [] }

/-- 'winklelaw03.RingSizes': WHATEVER THE INPUT: true; the input reads as it did. -/
def ringSizesSpec : ChangeSpec := { name := "ringSizes", fn := fun _ => fun
  | [d1, d2, d3] => { results := [.lit (.bool true)], args := [d1, d2, d3] }
  | _ => none }
def ringSizesRow : OpenClaim := { program := "ytcpijkckjahfdaa", sum := "37628e5c6da0898a56fd27352d359eb33706fa35601a343a6b1f4363b1da99ba", func := "winkle/winklelaw03.RingSizes", spec := "ringSizes", apart := false }
def RingSizesSaid : Prop := ringSizesRow.holds Try.pinned (OpenSpec.ofChange ringSizesSpec)

/-- ITS FALSE NEIGHBOUR: 'it returns false'. Refute it at one input. -/
def ringSizesWrong : ChangeSpec := { name := "ringSizes", fn := fun _ => fun
  | [d1, d2, d3] => { results := [.lit (.bool false)], args := [d1, d2, d3] }
  | _ => none }
def RingSizesWrongFalsely : Prop := ringSizesRow.holds Try.pinned (OpenSpec.ofChange ringSizesWrong)

/-- 'winklelaw03.RingTail': WHATEVER THE INPUT: true; the input reads as it did. -/
def ringTailSpec : ChangeSpec := { name := "ringTail", fn := fun _ => fun
  | [d1, d2] => { results := [.lit (.bool true)], args := [d1, d2] }
  | _ => none }
def ringTailRow : OpenClaim := { program := "ytcpijkckjahfdaa", sum := "37628e5c6da0898a56fd27352d359eb33706fa35601a343a6b1f4363b1da99ba", func := "winkle/winklelaw03.RingTail", spec := "ringTail", apart := false }
def RingTailSaid : Prop := ringTailRow.holds Try.pinned (OpenSpec.ofChange ringTailSpec)

/-- ITS FALSE NEIGHBOUR: 'it returns false'. Refute it at one input. -/
def ringTailWrong : ChangeSpec := { name := "ringTail", fn := fun _ => fun
  | [d1, d2] => { results := [.lit (.bool false)], args := [d1, d2] }
  | _ => none }
def RingTailWrongFalsely : Prop := ringTailRow.holds Try.pinned (OpenSpec.ofChange ringTailWrong)

/-- 'winklelaw03.RingRepeat': WHATEVER THE INPUT: true; the input reads as it did. -/
def ringRepeatSpec : ChangeSpec := { name := "ringRepeat", fn := fun _ => fun
  | [d1, d2, d3] => { results := [.lit (.bool true)], args := [d1, d2, d3] }
  | _ => none }
def ringRepeatRow : OpenClaim := { program := "ytcpijkckjahfdaa", sum := "37628e5c6da0898a56fd27352d359eb33706fa35601a343a6b1f4363b1da99ba", func := "winkle/winklelaw03.RingRepeat", spec := "ringRepeat", apart := false }
def RingRepeatSaid : Prop := ringRepeatRow.holds Try.pinned (OpenSpec.ofChange ringRepeatSpec)

/-- ITS FALSE NEIGHBOUR: 'it returns false'. Refute it at one input. -/
def ringRepeatWrong : ChangeSpec := { name := "ringRepeat", fn := fun _ => fun
  | [d1, d2, d3] => { results := [.lit (.bool false)], args := [d1, d2, d3] }
  | _ => none }
def RingRepeatWrongFalsely : Prop := ringRepeatRow.holds Try.pinned (OpenSpec.ofChange ringRepeatWrong)

/-- 'winklelaw03.RingPlays': WHATEVER THE INPUT: true; the input reads as it did. -/
def ringPlaysSpec : ChangeSpec := { name := "ringPlays", fn := fun _ => fun
  | [d1, d2] => { results := [.lit (.bool true)], args := [d1, d2] }
  | _ => none }
def ringPlaysRow : OpenClaim := { program := "ytcpijkckjahfdaa", sum := "37628e5c6da0898a56fd27352d359eb33706fa35601a343a6b1f4363b1da99ba", func := "winkle/winklelaw03.RingPlays", spec := "ringPlays", apart := false }
def RingPlaysSaid : Prop := ringPlaysRow.holds Try.pinned (OpenSpec.ofChange ringPlaysSpec)

/-- ITS FALSE NEIGHBOUR: 'it returns false'. Refute it at one input. -/
def ringPlaysWrong : ChangeSpec := { name := "ringPlays", fn := fun _ => fun
  | [d1, d2] => { results := [.lit (.bool false)], args := [d1, d2] }
  | _ => none }
def RingPlaysWrongFalsely : Prop := ringPlaysRow.holds Try.pinned (OpenSpec.ofChange ringPlaysWrong)

/-- 'winklelaw03.RingNobody': WHATEVER THE INPUT: true; the input reads as it did. -/
def ringNobodySpec : ChangeSpec := { name := "ringNobody", fn := fun _ => fun
  | [d1, d2, d3] => { results := [.lit (.bool true)], args := [d1, d2, d3] }
  | _ => none }
def ringNobodyRow : OpenClaim := { program := "ytcpijkckjahfdaa", sum := "37628e5c6da0898a56fd27352d359eb33706fa35601a343a6b1f4363b1da99ba", func := "winkle/winklelaw03.RingNobody", spec := "ringNobody", apart := false }
def RingNobodySaid : Prop := ringNobodyRow.holds Try.pinned (OpenSpec.ofChange ringNobodySpec)

/-- ITS FALSE NEIGHBOUR: 'it returns false'. Refute it at one input. -/
def ringNobodyWrong : ChangeSpec := { name := "ringNobody", fn := fun _ => fun
  | [d1, d2, d3] => { results := [.lit (.bool false)], args := [d1, d2, d3] }
  | _ => none }
def RingNobodyWrongFalsely : Prop := ringNobodyRow.holds Try.pinned (OpenSpec.ofChange ringNobodyWrong)

/- THE SECOND FORM. 'bulk': how many values and letters a reading holds, each counted each time it is reached (what is shared counts as often as it is met; a slice's spare places count too). A statement '..UptoSaid' is the law's where the arguments, and the package variables that the reading takes, are together of bulk at most 1048576: NARROWER than '..Said'. Prove '..Said' where nothing that the law and all that it calls make is longer than what came in: it says more and counts as full. Else prove '..UptoSaid'. A law counts once. -/
mutual
def uptoBulk {H : Type} : DataW H → Nat
  | .lit (.string bytes) => bytes.length + 1
  | .lit _ => 1
  | .nil => 1
  | .ptr d => uptoBulk d + 1
  | .slice elems spare => uptoBulkAll elems + uptoBulkAll spare + 1
  | .agg parts => uptoBulkAll parts + 1
  | .iface _ d => uptoBulk d + 1
  | .map entries => uptoBulkEntries entries + 1
  | .held _ => 1
def uptoBulkAll {H : Type} : List (DataW H) → Nat
  | [] => 0
  | d :: r => uptoBulk d + uptoBulkAll r
def uptoBulkEntries {H : Type} : List (Lit × DataW H) → Nat
  | [] => 0
  | x :: r => uptoBulkEntry x + uptoBulkEntries r
def uptoBulkEntry {H : Type} : Lit × DataW H → Nat
  | (.string bytes, d) => bytes.length + uptoBulk d + 1
  | (_, d) => uptoBulk d + 1
 end
def uptoSmall : (H : Type) → List (DataW H) → Bool := fun _ ds => decide (uptoBulkAll ds ≤ 1048576)
def OpenSpec.upto (s : _root_.Go.ChangeSpec) : _root_.Go.OpenSpec := { _root_.Go.OpenSpec.ofChange s with cond := some uptoSmall }

/-- 'winklelaw03.RingSizes', WHERE WHAT IT READS IS OF BULK AT MOST 1048576: true; the input reads as it did. -/
def ringSizesUptoRow : OpenClaim := { program := "ytcpijkckjahfdaa", sum := "37628e5c6da0898a56fd27352d359eb33706fa35601a343a6b1f4363b1da99ba", func := "winkle/winklelaw03.RingSizes", spec := "ringSizes", apart := false, narrowed := true }
def RingSizesUptoSaid : Prop := ringSizesUptoRow.holds Try.pinned (OpenSpec.upto ringSizesSpec)

/-- 'winklelaw03.RingTail', WHERE WHAT IT READS IS OF BULK AT MOST 1048576: true; the input reads as it did. -/
def ringTailUptoRow : OpenClaim := { program := "ytcpijkckjahfdaa", sum := "37628e5c6da0898a56fd27352d359eb33706fa35601a343a6b1f4363b1da99ba", func := "winkle/winklelaw03.RingTail", spec := "ringTail", apart := false, narrowed := true }
def RingTailUptoSaid : Prop := ringTailUptoRow.holds Try.pinned (OpenSpec.upto ringTailSpec)

/-- 'winklelaw03.RingRepeat', WHERE WHAT IT READS IS OF BULK AT MOST 1048576: true; the input reads as it did. -/
def ringRepeatUptoRow : OpenClaim := { program := "ytcpijkckjahfdaa", sum := "37628e5c6da0898a56fd27352d359eb33706fa35601a343a6b1f4363b1da99ba", func := "winkle/winklelaw03.RingRepeat", spec := "ringRepeat", apart := false, narrowed := true }
def RingRepeatUptoSaid : Prop := ringRepeatUptoRow.holds Try.pinned (OpenSpec.upto ringRepeatSpec)

/-- 'winklelaw03.RingPlays', WHERE WHAT IT READS IS OF BULK AT MOST 1048576: true; the input reads as it did. -/
def ringPlaysUptoRow : OpenClaim := { program := "ytcpijkckjahfdaa", sum := "37628e5c6da0898a56fd27352d359eb33706fa35601a343a6b1f4363b1da99ba", func := "winkle/winklelaw03.RingPlays", spec := "ringPlays", apart := false, narrowed := true }
def RingPlaysUptoSaid : Prop := ringPlaysUptoRow.holds Try.pinned (OpenSpec.upto ringPlaysSpec)

/-- 'winklelaw03.RingNobody', WHERE WHAT IT READS IS OF BULK AT MOST 1048576: true; the input reads as it did. -/
def ringNobodyUptoRow : OpenClaim := { program := "ytcpijkckjahfdaa", sum := "37628e5c6da0898a56fd27352d359eb33706fa35601a343a6b1f4363b1da99ba", func := "winkle/winklelaw03.RingNobody", spec := "ringNobody", apart := false, narrowed := true }
def RingNobodyUptoSaid : Prop := ringNobodyUptoRow.holds Try.pinned (OpenSpec.upto ringNobodySpec)

end Rows
end Go.Proofs.Ytcpijkckjahfdaa
