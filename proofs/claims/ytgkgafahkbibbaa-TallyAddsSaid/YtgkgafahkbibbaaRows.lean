/-
  No cell of these rows narrows 'for every input' (looked for: loops, veiled, ifaces, maps, wideKeys, modest, calm, conditions, laid).
  DERIVED. THE GIVEN ROWS OF THIS SEAT. 6 by the template 'for every input the law returns true; each argument reads behind the call as it read before'; 0 by the template 'total and deterministic' (their statements: YtgkgafahkbibbaaTotals.lean).
  GIVEN WITH THE SEED: the statements are not yours to turn. If you find one false, say at which input.
  Laid BY PROGRAM, IN A SANDBOX (cutbox-rows.mjs): the forced cells as the released guide's own fill.sh prints them over the translation e96d626f5ae7da6b… (all of the seat's roots in one cut). By AI agents, Wed Nov 11 2026. No macro, syntax, notation, axiom, sorry.
-/
import Derived.Test.YtgkgafahkbibbaaChecked
import GoSem.Claim
import GoSem.ClaimJoined
import GoSem.ClaimMapViews
import Derived.JoinedTies
import Derived.KernelRfl
namespace Go.Proofs.Ytgkgafahkbibbaa
/- THE CELL 'sum', in the pinned program and in every row, IS THE sha256 OF THE DUMP (.gsa) THAT YtgkgafahkbibbaaProg.lean LOADS. Nothing in Lean hashes anything: it is a label: what it is worth is what the hold of that sum in a sandbox is worth. -/
noncomputable def Try.pinned : Pinned := { name := "ytgkgafahkbibbaa", sum := "e96d626f5ae7da6b1154bc601a2a6107252901ea53ef6fcf6aa3c9ec945bc93c", checked := Try.checked }
namespace Rows
def none {H : Type} : Left H := { results := [], args := [] }

/-- 'winklelaw01.TallyPlays': WHATEVER THE INPUT: true; the input reads as it did. -/
def tallyPlaysSpec : ChangeSpec := { name := "tallyPlays", fn := fun _ => fun
  | [d1, d2] => { results := [.lit (.bool true)], args := [d1, d2] }
  | _ => none }
def tallyPlaysRow : OpenClaim := { program := "ytgkgafahkbibbaa", sum := "e96d626f5ae7da6b1154bc601a2a6107252901ea53ef6fcf6aa3c9ec945bc93c", func := "winkle/winklelaw01.TallyPlays", spec := "tallyPlays", apart := false }
def TallyPlaysSaid : Prop := tallyPlaysRow.holds Try.pinned (OpenSpec.ofChange tallyPlaysSpec)

/-- ITS FALSE NEIGHBOUR: 'it returns false'. Refute it at one input. -/
def tallyPlaysWrong : ChangeSpec := { name := "tallyPlays", fn := fun _ => fun
  | [d1, d2] => { results := [.lit (.bool false)], args := [d1, d2] }
  | _ => none }
def TallyPlaysWrongFalsely : Prop := tallyPlaysRow.holds Try.pinned (OpenSpec.ofChange tallyPlaysWrong)

/-- 'winklelaw01.TallyNobody': WHATEVER THE INPUT: true; the input reads as it did. -/
def tallyNobodySpec : ChangeSpec := { name := "tallyNobody", fn := fun _ => fun
  | [d] => { results := [.lit (.bool true)], args := [d] }
  | _ => none }
def tallyNobodyRow : OpenClaim := { program := "ytgkgafahkbibbaa", sum := "e96d626f5ae7da6b1154bc601a2a6107252901ea53ef6fcf6aa3c9ec945bc93c", func := "winkle/winklelaw01.TallyNobody", spec := "tallyNobody", apart := false }
def TallyNobodySaid : Prop := tallyNobodyRow.holds Try.pinned (OpenSpec.ofChange tallyNobodySpec)

/-- ITS FALSE NEIGHBOUR: 'it returns false'. Refute it at one input. -/
def tallyNobodyWrong : ChangeSpec := { name := "tallyNobody", fn := fun _ => fun
  | [d] => { results := [.lit (.bool false)], args := [d] }
  | _ => none }
def TallyNobodyWrongFalsely : Prop := tallyNobodyRow.holds Try.pinned (OpenSpec.ofChange tallyNobodyWrong)

/-- 'winklelaw01.TallyNever': WHATEVER THE INPUT: true; the input reads as it did. -/
def tallyNeverSpec : ChangeSpec := { name := "tallyNever", fn := fun _ => fun
  | [d1, d2] => { results := [.lit (.bool true)], args := [d1, d2] }
  | _ => none }
def tallyNeverRow : OpenClaim := { program := "ytgkgafahkbibbaa", sum := "e96d626f5ae7da6b1154bc601a2a6107252901ea53ef6fcf6aa3c9ec945bc93c", func := "winkle/winklelaw01.TallyNever", spec := "tallyNever", apart := false }
def TallyNeverSaid : Prop := tallyNeverRow.holds Try.pinned (OpenSpec.ofChange tallyNeverSpec)

/-- ITS FALSE NEIGHBOUR: 'it returns false'. Refute it at one input. -/
def tallyNeverWrong : ChangeSpec := { name := "tallyNever", fn := fun _ => fun
  | [d1, d2] => { results := [.lit (.bool false)], args := [d1, d2] }
  | _ => none }
def TallyNeverWrongFalsely : Prop := tallyNeverRow.holds Try.pinned (OpenSpec.ofChange tallyNeverWrong)

/-- 'winklelaw01.TallyOrders': WHATEVER THE INPUT: true; the input reads as it did. -/
def tallyOrdersSpec : ChangeSpec := { name := "tallyOrders", fn := fun _ => fun
  | [d1, d2, d3] => { results := [.lit (.bool true)], args := [d1, d2, d3] }
  | _ => none }
def tallyOrdersRow : OpenClaim := { program := "ytgkgafahkbibbaa", sum := "e96d626f5ae7da6b1154bc601a2a6107252901ea53ef6fcf6aa3c9ec945bc93c", func := "winkle/winklelaw01.TallyOrders", spec := "tallyOrders", inPlace := ["math/bits.Add64"], apart := false }
def TallyOrdersSaid : Prop := tallyOrdersRow.holds Try.pinned (OpenSpec.ofChange tallyOrdersSpec)

/-- ITS FALSE NEIGHBOUR: 'it returns false'. Refute it at one input. -/
def tallyOrdersWrong : ChangeSpec := { name := "tallyOrders", fn := fun _ => fun
  | [d1, d2, d3] => { results := [.lit (.bool false)], args := [d1, d2, d3] }
  | _ => none }
def TallyOrdersWrongFalsely : Prop := tallyOrdersRow.holds Try.pinned (OpenSpec.ofChange tallyOrdersWrong)

/-- 'winklelaw01.TallyAdds': WHATEVER THE INPUT: true; the input reads as it did. -/
def tallyAddsSpec : ChangeSpec := { name := "tallyAdds", fn := fun _ => fun
  | [d1, d2, d3] => { results := [.lit (.bool true)], args := [d1, d2, d3] }
  | _ => none }
def tallyAddsRow : OpenClaim := { program := "ytgkgafahkbibbaa", sum := "e96d626f5ae7da6b1154bc601a2a6107252901ea53ef6fcf6aa3c9ec945bc93c", func := "winkle/winklelaw01.TallyAdds", spec := "tallyAdds", inPlace := ["math/bits.Add64"], apart := false }
def TallyAddsSaid : Prop := tallyAddsRow.holds Try.pinned (OpenSpec.ofChange tallyAddsSpec)

/-- ITS FALSE NEIGHBOUR: 'it returns false'. Refute it at one input. -/
def tallyAddsWrong : ChangeSpec := { name := "tallyAdds", fn := fun _ => fun
  | [d1, d2, d3] => { results := [.lit (.bool false)], args := [d1, d2, d3] }
  | _ => none }
def TallyAddsWrongFalsely : Prop := tallyAddsRow.holds Try.pinned (OpenSpec.ofChange tallyAddsWrong)

/-- 'winklelaw01.TallyAllows': WHATEVER THE INPUT: true; the input reads as it did. -/
def tallyAllowsSpec : ChangeSpec := { name := "tallyAllows", fn := fun _ => fun
  | [d1, d2, d3] => { results := [.lit (.bool true)], args := [d1, d2, d3] }
  | _ => none }
def tallyAllowsRow : OpenClaim := { program := "ytgkgafahkbibbaa", sum := "e96d626f5ae7da6b1154bc601a2a6107252901ea53ef6fcf6aa3c9ec945bc93c", func := "winkle/winklelaw01.TallyAllows", spec := "tallyAllows", inPlace := ["math/bits.Add64"], apart := false }
def TallyAllowsSaid : Prop := tallyAllowsRow.holds Try.pinned (OpenSpec.ofChange tallyAllowsSpec)

/-- ITS FALSE NEIGHBOUR: 'it returns false'. Refute it at one input. -/
def tallyAllowsWrong : ChangeSpec := { name := "tallyAllows", fn := fun _ => fun
  | [d1, d2, d3] => { results := [.lit (.bool false)], args := [d1, d2, d3] }
  | _ => none }
def TallyAllowsWrongFalsely : Prop := tallyAllowsRow.holds Try.pinned (OpenSpec.ofChange tallyAllowsWrong)

/- THE SECOND FORM. 'bulk': how many values and letters a reading holds, each counted each time it is reached (what is shared counts as often as it is met; a slice's spare places count too). A statement '..UptoSaid' is the law's where the arguments, and the package variables that the reading takes, are together of bulk at most 1048576: NARROWER than '..Said'. Prove '..Said' where nothing that the law and all that it calls make is longer than what came in: it says more and counts as full. Else prove '..UptoSaid'. A law counts once. -/
mutual
def uptoBulk {H : Type} : DataW H → Nat
  | .lit (.string bytes) => bytes.length + 1
  | .lit _ => 1
  | .nil => 1
  | .ptr d => uptoBulk d + 1
  | .slice elems spare => uptoBulkAll elems + uptoBulkAll spare + 1
  | .agg parts => uptoBulkAll parts + 1
  | .iface _ d => uptoBulk d + 1
  | .map entries => uptoBulkEntries entries + 1
  | .held _ => 1
def uptoBulkAll {H : Type} : List (DataW H) → Nat
  | [] => 0
  | d :: r => uptoBulk d + uptoBulkAll r
def uptoBulkEntries {H : Type} : List (Lit × DataW H) → Nat
  | [] => 0
  | x :: r => uptoBulkEntry x + uptoBulkEntries r
def uptoBulkEntry {H : Type} : Lit × DataW H → Nat
  | (.string bytes, d) => bytes.length + uptoBulk d + 1
  | (_, d) => uptoBulk d + 1
 end
def uptoSmall : (H : Type) → List (DataW H) → Bool := fun _ ds => decide (uptoBulkAll ds ≤ 1048576)
def OpenSpec.upto (s : _root_.Go.ChangeSpec) : _root_.Go.OpenSpec := { _root_.Go.OpenSpec.ofChange s with cond := some uptoSmall }

/-- 'winklelaw01.TallyPlays', WHERE WHAT IT READS IS OF BULK AT MOST 1048576: true; the input reads as it did. -/
def tallyPlaysUptoRow : OpenClaim := { program := "ytgkgafahkbibbaa", sum := "e96d626f5ae7da6b1154bc601a2a6107252901ea53ef6fcf6aa3c9ec945bc93c", func := "winkle/winklelaw01.TallyPlays", spec := "tallyPlays", apart := false, narrowed := true }
def TallyPlaysUptoSaid : Prop := tallyPlaysUptoRow.holds Try.pinned (OpenSpec.upto tallyPlaysSpec)

/-- 'winklelaw01.TallyNobody', WHERE WHAT IT READS IS OF BULK AT MOST 1048576: true; the input reads as it did. -/
def tallyNobodyUptoRow : OpenClaim := { program := "ytgkgafahkbibbaa", sum := "e96d626f5ae7da6b1154bc601a2a6107252901ea53ef6fcf6aa3c9ec945bc93c", func := "winkle/winklelaw01.TallyNobody", spec := "tallyNobody", apart := false, narrowed := true }
def TallyNobodyUptoSaid : Prop := tallyNobodyUptoRow.holds Try.pinned (OpenSpec.upto tallyNobodySpec)

/-- 'winklelaw01.TallyNever', WHERE WHAT IT READS IS OF BULK AT MOST 1048576: true; the input reads as it did. -/
def tallyNeverUptoRow : OpenClaim := { program := "ytgkgafahkbibbaa", sum := "e96d626f5ae7da6b1154bc601a2a6107252901ea53ef6fcf6aa3c9ec945bc93c", func := "winkle/winklelaw01.TallyNever", spec := "tallyNever", apart := false, narrowed := true }
def TallyNeverUptoSaid : Prop := tallyNeverUptoRow.holds Try.pinned (OpenSpec.upto tallyNeverSpec)

/-- 'winklelaw01.TallyOrders', WHERE WHAT IT READS IS OF BULK AT MOST 1048576: true; the input reads as it did. -/
def tallyOrdersUptoRow : OpenClaim := { program := "ytgkgafahkbibbaa", sum := "e96d626f5ae7da6b1154bc601a2a6107252901ea53ef6fcf6aa3c9ec945bc93c", func := "winkle/winklelaw01.TallyOrders", spec := "tallyOrders", inPlace := ["math/bits.Add64"], apart := false, narrowed := true }
def TallyOrdersUptoSaid : Prop := tallyOrdersUptoRow.holds Try.pinned (OpenSpec.upto tallyOrdersSpec)

/-- 'winklelaw01.TallyAdds', WHERE WHAT IT READS IS OF BULK AT MOST 1048576: true; the input reads as it did. -/
def tallyAddsUptoRow : OpenClaim := { program := "ytgkgafahkbibbaa", sum := "e96d626f5ae7da6b1154bc601a2a6107252901ea53ef6fcf6aa3c9ec945bc93c", func := "winkle/winklelaw01.TallyAdds", spec := "tallyAdds", inPlace := ["math/bits.Add64"], apart := false, narrowed := true }
def TallyAddsUptoSaid : Prop := tallyAddsUptoRow.holds Try.pinned (OpenSpec.upto tallyAddsSpec)

/-- 'winklelaw01.TallyAllows', WHERE WHAT IT READS IS OF BULK AT MOST 1048576: true; the input reads as it did. -/
def tallyAllowsUptoRow : OpenClaim := { program := "ytgkgafahkbibbaa", sum := "e96d626f5ae7da6b1154bc601a2a6107252901ea53ef6fcf6aa3c9ec945bc93c", func := "winkle/winklelaw01.TallyAllows", spec := "tallyAllows", inPlace := ["math/bits.Add64"], apart := false, narrowed := true }
def TallyAllowsUptoSaid : Prop := tallyAllowsUptoRow.holds Try.pinned (OpenSpec.upto tallyAllowsSpec)

end Rows
end Go.Proofs.Ytgkgafahkbibbaa
