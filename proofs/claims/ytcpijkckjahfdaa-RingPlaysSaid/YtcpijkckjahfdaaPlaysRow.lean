/- RingPlays: of any size. -/
import Derived.Test.YtcpijkckjahfdaaPlays
namespace Go.Proofs.Ytcpijkckjahfdaa.PAll
open Go.RowKit
set_option linter.unusedVariables false
theorem plays_row (size : Int) (A : Option Addr) (c : Nat) (l : List (List Int)) (w : World) (_hw : (Lit.int .i64 size).wf = true) (hR : Acts.Reads w [.u8, .u8, .i64, .i64] A l) (hc : l.length ≤ c) (hl : l.length ≤ 9223372036854775807) :
    Calls Try.prog 6 #[.int .i64 size, .slice A l.length c] w fun e w' => e = .returned (.bool true) ∧ Below w.heap.size w w' := by
  by_cases h : size < 1 ∨ 32768 < size
  · exact plays_no size A c l.length w h
  · obtain ⟨N, rfl⟩ : ∃ N : Nat, size = (N : Int) := ⟨size.toNat, by omega⟩
    exact plays_walk N A c l w hR hc hl (by omega) (by omega)
end Go.Proofs.Ytcpijkckjahfdaa.PAll
