/-
  No cell of these rows narrows 'for every input' (looked for: loops, veiled, ifaces, maps, wideKeys, modest, calm, conditions, laid).
  DERIVED. THE GIVEN ROWS OF THIS SEAT. 5 by the template 'for every input the law returns true; each argument reads behind the call as it read before'; 0 by the template 'total and deterministic' (their statements: YteamaaiicjjidaaTotals.lean).
  GIVEN WITH THE SEED: the statements are not yours to turn. If you find one false, say at which input.
  Laid BY PROGRAM, IN A SANDBOX (cutbox-rows.mjs): the forced cells as the released guide's own fill.sh prints them over the translation e1a5535d6bd4b3fa… (all of the seat's roots in one cut). By AI agents, Wed Nov 11 2026. No macro, syntax, notation, axiom, sorry.
-/
import Derived.Test.YteamaaiicjjidaaChecked
import GoSem.Claim
import GoSem.ClaimJoined
import GoSem.ClaimMapViews
import Derived.JoinedTies
import Derived.KernelRfl
namespace Go.Proofs.Yteamaaiicjjidaa
/- THE CELL 'sum', in the pinned program and in every row, IS THE sha256 OF THE DUMP (.gsa) THAT YteamaaiicjjidaaProg.lean LOADS. Nothing in Lean hashes anything: it is a label: what it is worth is what the hold of that sum in a sandbox is worth. -/
noncomputable def Try.pinned : Pinned := { name := "yteamaaiicjjidaa", sum := "e1a5535d6bd4b3fa337f845f64a13a754d2f1571b17fa1bad6ba025c101013c6", checked := Try.checked }
namespace Rows
def none {H : Type} : Left H := { results := [], args := [] }

/-- 'winklelaw08.HuffmanMakes': WHATEVER THE INPUT: true; the input reads as it did. -/
def huffmanMakesSpec : ChangeSpec := { name := "huffmanMakes", fn := fun _ => fun
  | [d1, d2] => { results := [.lit (.bool true)], args := [d1, d2] }
  | _ => none }
def huffmanMakesRow : OpenClaim := { program := "yteamaaiicjjidaa", sum := "e1a5535d6bd4b3fa337f845f64a13a754d2f1571b17fa1bad6ba025c101013c6", func := "winkle/winklelaw08.HuffmanMakes", spec := "huffmanMakes", plainKeys := false, apart := false }
def HuffmanMakesSaid : Prop := huffmanMakesRow.holds Try.pinned (OpenSpec.ofChange huffmanMakesSpec)

/-- ITS FALSE NEIGHBOUR: 'it returns false'. Refute it at one input. -/
def huffmanMakesWrong : ChangeSpec := { name := "huffmanMakes", fn := fun _ => fun
  | [d1, d2] => { results := [.lit (.bool false)], args := [d1, d2] }
  | _ => none }
def HuffmanMakesWrongFalsely : Prop := huffmanMakesRow.holds Try.pinned (OpenSpec.ofChange huffmanMakesWrong)

/-- 'winklelaw08.HuffmanPrefix': WHATEVER THE INPUT: true; the input reads as it did. -/
def huffmanPrefixSpec : ChangeSpec := { name := "huffmanPrefix", fn := fun _ => fun
  | [d] => { results := [.lit (.bool true)], args := [d] }
  | _ => none }
def huffmanPrefixRow : OpenClaim := { program := "yteamaaiicjjidaa", sum := "e1a5535d6bd4b3fa337f845f64a13a754d2f1571b17fa1bad6ba025c101013c6", func := "winkle/winklelaw08.HuffmanPrefix", spec := "huffmanPrefix", plainKeys := false, apart := false }
def HuffmanPrefixSaid : Prop := huffmanPrefixRow.holds Try.pinned (OpenSpec.ofChange huffmanPrefixSpec)

/-- ITS FALSE NEIGHBOUR: 'it returns false'. Refute it at one input. -/
def huffmanPrefixWrong : ChangeSpec := { name := "huffmanPrefix", fn := fun _ => fun
  | [d] => { results := [.lit (.bool false)], args := [d] }
  | _ => none }
def HuffmanPrefixWrongFalsely : Prop := huffmanPrefixRow.holds Try.pinned (OpenSpec.ofChange huffmanPrefixWrong)

/-- 'winklelaw08.HuffmanReads': WHATEVER THE INPUT: true; the input reads as it did. -/
def huffmanReadsSpec : ChangeSpec := { name := "huffmanReads", fn := fun _ => fun
  | [d1, d2, d3] => { results := [.lit (.bool true)], args := [d1, d2, d3] }
  | _ => none }
def huffmanReadsRow : OpenClaim := { program := "yteamaaiicjjidaa", sum := "e1a5535d6bd4b3fa337f845f64a13a754d2f1571b17fa1bad6ba025c101013c6", func := "winkle/winklelaw08.HuffmanReads", spec := "huffmanReads", plainKeys := false, apart := false }
def HuffmanReadsSaid : Prop := huffmanReadsRow.holds Try.pinned (OpenSpec.ofChange huffmanReadsSpec)

/-- ITS FALSE NEIGHBOUR: 'it returns false'. Refute it at one input. -/
def huffmanReadsWrong : ChangeSpec := { name := "huffmanReads", fn := fun _ => fun
  | [d1, d2, d3] => { results := [.lit (.bool false)], args := [d1, d2, d3] }
  | _ => none }
def HuffmanReadsWrongFalsely : Prop := huffmanReadsRow.holds Try.pinned (OpenSpec.ofChange huffmanReadsWrong)

/-- 'winklelaw08.HuffmanBack': WHATEVER THE INPUT: true; the input reads as it did. -/
def huffmanBackSpec : ChangeSpec := { name := "huffmanBack", fn := fun _ => fun
  | [d1, d2] => { results := [.lit (.bool true)], args := [d1, d2] }
  | _ => none }
def huffmanBackRow : OpenClaim := { program := "yteamaaiicjjidaa", sum := "e1a5535d6bd4b3fa337f845f64a13a754d2f1571b17fa1bad6ba025c101013c6", func := "winkle/winklelaw08.HuffmanBack", spec := "huffmanBack", plainKeys := false, apart := false }
def HuffmanBackSaid : Prop := huffmanBackRow.holds Try.pinned (OpenSpec.ofChange huffmanBackSpec)

/-- ITS FALSE NEIGHBOUR: 'it returns false'. Refute it at one input. -/
def huffmanBackWrong : ChangeSpec := { name := "huffmanBack", fn := fun _ => fun
  | [d1, d2] => { results := [.lit (.bool false)], args := [d1, d2] }
  | _ => none }
def HuffmanBackWrongFalsely : Prop := huffmanBackRow.holds Try.pinned (OpenSpec.ofChange huffmanBackWrong)

/-- 'winklelaw08.HuffmanFull': WHATEVER THE INPUT: true; the input reads as it did. -/
def huffmanFullSpec : ChangeSpec := { name := "huffmanFull", fn := fun _ => fun
  | [d1, d2] => { results := [.lit (.bool true)], args := [d1, d2] }
  | _ => none }
def huffmanFullRow : OpenClaim := { program := "yteamaaiicjjidaa", sum := "e1a5535d6bd4b3fa337f845f64a13a754d2f1571b17fa1bad6ba025c101013c6", func := "winkle/winklelaw08.HuffmanFull", spec := "huffmanFull", plainKeys := false, apart := false }
def HuffmanFullSaid : Prop := huffmanFullRow.holds Try.pinned (OpenSpec.ofChange huffmanFullSpec)

/-- ITS FALSE NEIGHBOUR: 'it returns false'. Refute it at one input. -/
def huffmanFullWrong : ChangeSpec := { name := "huffmanFull", fn := fun _ => fun
  | [d1, d2] => { results := [.lit (.bool false)], args := [d1, d2] }
  | _ => none }
def HuffmanFullWrongFalsely : Prop := huffmanFullRow.holds Try.pinned (OpenSpec.ofChange huffmanFullWrong)

/- THE SECOND FORM. 'bulk': how many values and letters a reading holds, each counted each time it is reached (what is shared counts as often as it is met; a slice's spare places count too). A statement '..UptoSaid' is the law's where the arguments, and the package variables that the reading takes, are together of bulk at most 1048576: NARROWER than '..Said'. Prove '..Said' where nothing that the law and all that it calls make is longer than what came in: it says more and counts as full. Else prove '..UptoSaid'. A law counts once. -/
mutual
def uptoBulk {H : Type} : DataW H → Nat
  | .lit (.string bytes) => bytes.length + 1
  | .lit _ => 1
  | .nil => 1
  | .ptr d => uptoBulk d + 1
  | .slice elems spare => uptoBulkAll elems + uptoBulkAll spare + 1
  | .agg parts => uptoBulkAll parts + 1
  | .iface _ d => uptoBulk d + 1
  | .map entries => uptoBulkEntries entries + 1
  | .held _ => 1
def uptoBulkAll {H : Type} : List (DataW H) → Nat
  | [] => 0
  | d :: r => uptoBulk d + uptoBulkAll r
def uptoBulkEntries {H : Type} : List (Lit × DataW H) → Nat
  | [] => 0
  | x :: r => uptoBulkEntry x + uptoBulkEntries r
def uptoBulkEntry {H : Type} : Lit × DataW H → Nat
  | (.string bytes, d) => bytes.length + uptoBulk d + 1
  | (_, d) => uptoBulk d + 1
 end
def uptoSmall : (H : Type) → List (DataW H) → Bool := fun _ ds => decide (uptoBulkAll ds ≤ 1048576)
def OpenSpec.upto (s : _root_.Go.ChangeSpec) : _root_.Go.OpenSpec := { _root_.Go.OpenSpec.ofChange s with cond := some uptoSmall }

/-- 'winklelaw08.HuffmanMakes', WHERE WHAT IT READS IS OF BULK AT MOST 1048576: true; the input reads as it did. -/
def huffmanMakesUptoRow : OpenClaim := { program := "yteamaaiicjjidaa", sum := "e1a5535d6bd4b3fa337f845f64a13a754d2f1571b17fa1bad6ba025c101013c6", func := "winkle/winklelaw08.HuffmanMakes", spec := "huffmanMakes", plainKeys := false, apart := false, narrowed := true }
def HuffmanMakesUptoSaid : Prop := huffmanMakesUptoRow.holds Try.pinned (OpenSpec.upto huffmanMakesSpec)

/-- 'winklelaw08.HuffmanPrefix', WHERE WHAT IT READS IS OF BULK AT MOST 1048576: true; the input reads as it did. -/
def huffmanPrefixUptoRow : OpenClaim := { program := "yteamaaiicjjidaa", sum := "e1a5535d6bd4b3fa337f845f64a13a754d2f1571b17fa1bad6ba025c101013c6", func := "winkle/winklelaw08.HuffmanPrefix", spec := "huffmanPrefix", plainKeys := false, apart := false, narrowed := true }
def HuffmanPrefixUptoSaid : Prop := huffmanPrefixUptoRow.holds Try.pinned (OpenSpec.upto huffmanPrefixSpec)

/-- 'winklelaw08.HuffmanReads', WHERE WHAT IT READS IS OF BULK AT MOST 1048576: true; the input reads as it did. -/
def huffmanReadsUptoRow : OpenClaim := { program := "yteamaaiicjjidaa", sum := "e1a5535d6bd4b3fa337f845f64a13a754d2f1571b17fa1bad6ba025c101013c6", func := "winkle/winklelaw08.HuffmanReads", spec := "huffmanReads", plainKeys := false, apart := false, narrowed := true }
def HuffmanReadsUptoSaid : Prop := huffmanReadsUptoRow.holds Try.pinned (OpenSpec.upto huffmanReadsSpec)

/-- 'winklelaw08.HuffmanBack', WHERE WHAT IT READS IS OF BULK AT MOST 1048576: true; the input reads as it did. -/
def huffmanBackUptoRow : OpenClaim := { program := "yteamaaiicjjidaa", sum := "e1a5535d6bd4b3fa337f845f64a13a754d2f1571b17fa1bad6ba025c101013c6", func := "winkle/winklelaw08.HuffmanBack", spec := "huffmanBack", plainKeys := false, apart := false, narrowed := true }
def HuffmanBackUptoSaid : Prop := huffmanBackUptoRow.holds Try.pinned (OpenSpec.upto huffmanBackSpec)

/-- 'winklelaw08.HuffmanFull', WHERE WHAT IT READS IS OF BULK AT MOST 1048576: true; the input reads as it did. -/
def huffmanFullUptoRow : OpenClaim := { program := "yteamaaiicjjidaa", sum := "e1a5535d6bd4b3fa337f845f64a13a754d2f1571b17fa1bad6ba025c101013c6", func := "winkle/winklelaw08.HuffmanFull", spec := "huffmanFull", plainKeys := false, apart := false, narrowed := true }
def HuffmanFullUptoSaid : Prop := huffmanFullUptoRow.holds Try.pinned (OpenSpec.upto huffmanFullSpec)

end Rows
end Go.Proofs.Yteamaaiicjjidaa
